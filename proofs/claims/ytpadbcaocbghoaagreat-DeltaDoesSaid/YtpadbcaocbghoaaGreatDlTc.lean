/- States run over the code: what each function gives, and what follows. -/
import Derived.Test.YtpadbcaocbghoaaGreatDlTb
open Go.IntKind (i64 i32)
open Go.Proofs.Tryz renaming prog → qa
open List renaming length_append → qb, drop → qd, length_map → qe, length_cons → qg, take_of_length_le → qh, getElem_mem → qi, length_take → qk, mem_cons_of_mem → ql, flatten_cons → qn, mem_cons_self → qq, append_nil → qv, length_nil → qw, flatten_nil → qx, getElem?_eq_getElem → qz, mem_of_mem_take → qaa, eq_nil_of_length_eq_zero → qab, length_drop → qac, getD → qad, map_append → qae, length_singleton → qaf, drop_length → qah, append_assoc → qaj, take_length → qal, take → qam, flatMap_append → qao, replicate → qap, drop_eq_getElem_cons → qaq, getElem_append_right → qar, find?_cons → qat, take_append_drop → qav, flatten_append → qba, mem_singleton → qbc, contains_cons → qbg, getElem?_map → qbj, flatMap_cons → qbk, contains_nil → qbl, foldl_append → qbm, range' → qbn, cons_append → qbo, drop_zero → qbs
open Int renaming toNat_natCast → qc, le_refl → qt, eq_ofNat_of_zero_le → qas, tdiv → qay, natCast_mul → qbq
open Bool renaming and_eq_true → qf, or_eq_true → qp, or_eq_false_iff → qai, not_eq_true' → qak, and_eq_false_iff → qax, true_and → qaz, not_not → qbi, or_false → qbu, not_true → qbv, false_or → qbw
open Nat renaming le_refl → qj, le_of_lt → qo, mul_le_mul_right → qu, zero_le → qy, add_mul → qau, le_of_ble_eq_true → qaw, mul_le_mul_left → qbb, lt_of_lt_of_le → qbd, le_trans → qbe, zero_add → qbf, lt_of_le_of_lt → qbh, div_eq_of_lt → qbp, mul_add_div → qbr, mul_le_mul → qbt
open Decidable renaming not_not → qm
open Array renaming getD_eq_getD_getElem? → qr, getElem?_append_left → qag, replicate → qan
open Option renaming isSome → qbx
set_option linter.unusedVariables false
set_option linter.unusedSimpArgs false
set_option maxRecDepth 100000
set_option linter.constructorNameAsVariable false
namespace Go.Eng
open Go Go.Proofs Go.Eng.Rows Go.Eng.Srt
section
variable {key : Int -> Int} {T : PV}
def oG (key : Int -> Int) (k : Nat) (Bs : List (List Int)) : Prop := ∀ B ∈ Bs, B.length = k /\ Srtd key B
theorem zce {k : Nat} : ∀ {Bs : List (List Int)}, oG key k Bs -> Bs.flatten.length = k * Bs.length
 | [], _ => by simp
 | B :: Bs, h => by
   rw [qn, qb, (h B qq).1, zce (Bs := Bs) fun C hC => h C (ql _ hC), qg, Nat.mul_add]; omega
theorem vY (Bs : List (List Int)) : Bs = [] ∨ (∃ X, Bs = [X]) ∨ ∃ X Y Bs', Bs = X :: Y :: Bs' := by
 match Bs with
 | [] => exact .inl rfl
 | [X] => exact .inr (.inl ⟨X, rfl⟩)
 | X :: Y :: Bs' => exact .inr (.inr ⟨X, Y, Bs', rfl⟩)
theorem zkh {k : Nat} {Bs : List (List Int)} {B : List Int} (h : oG key k Bs) (hl : B.length = k) (hs : Srtd key B) : oG key k (Bs ++ [B]) := fun C hC => by
 rcases List.mem_append.1 hC with hC | hC
 ·exact h C hC
 ·simp only [qbc] at hC; subst hC; exact ⟨hl, hs⟩
theorem zcf {P S R S' : List Int} (h : R32 (P ++ (S ++ R))) (k : Stab key S S') : R32 (P ++ (S' ++ R)) := h.of fun x hx => by
 simp only [List.mem_append] at hx ⊢;rcases hx with hx | hx | hx
 ·exact .inl hx
 ·exact .inr (.inl (k.mem.2 hx))
 ·exact .inr (.inr hx)
theorem zu0 (hc : kQ T key) (lo hi : Nat) (nl : Bool) (P S R : List Int) (hP : P.length = lo) (hS : hi = lo + S.length) (hr : R32 (P ++ (S ++ R))) (hlen : hi < 1000000000000) :
 ACall qa 133 [.sub 0 lo hi, .pv (.int .i64 ((hi - lo : Nat) : Int)), .fn 111 [.box 1 0]] (kS nl T (aA (P ++ (S ++ R)))) (kR key nl T P S R) := by
 have hl1 : ∀ {u v : List Int}, u.length = v.length -> (aA u).length = (aA v).length := fun h => by simp [h]
 obtain ⟨n, hn⟩ : ∃ n : Int, n = ((hi - lo : Nat) : Int) := ⟨_, rfl⟩;rw [<- hn];have hnS : n = S.length := by omega
 refine zrx _ _ _ _ _ _
  (fun a b s => b = a + 20 /\ 0 <= a /\ ∃ Bs C, s = aA (P ++ (Bs.flatten ++ C ++ R)) /\ oG key 20 Bs /\ (Bs.flatten.length : Int) = a /\ Stab key S (Bs.flatten ++ C)) (fun a _ _ => (n + 1 - a).toNat)
  (fun k s => 0 < k /\ ∃ Bs C, s = aA (P ++ (Bs.flatten ++ C ++ R)) /\ oG key k.toNat Bs /\ Srtd key C /\ (C.length : Int) < k /\ Stab key S (Bs.flatten ++ C)) (fun k _ => (n - k).toNat)
  (fun k _ _ _ k' a b s => k = k' /\ b = a + 2 * k /\ 0 <= a /\ ∃ B2 Bs C, s = aA (P ++ (B2.flatten ++ (Bs.flatten ++ C) ++ R)) /\ oG key (2 * k).toNat B2 /\ oG key k.toNat Bs /\ Srtd key C /\ (C.length : Int) < k /\ (B2.flatten.length : Int) = a /\ Stab key S (B2.flatten ++ (Bs.flatten ++ C))) (fun k a _ _ => (n + 1 - a).toNat) ?_
 unfold zhr;refine ⟨⟨rfl, rfl, qt _, [], S, by simp, fun B hB => (by cases hB), rfl, by simpa using Stab.refl S⟩, ?_⟩
 rintro a b _ ⟨rfl, a0, Bs, C, rfl, hBs, hBl, hst⟩;have hsl := hst.len;rw [qb] at hsl;refine aG (fun hc1 => ?_) (fun hc1 => ?_)
 ·simp only [aB] at hc1;have wa : i64.wrap (a + 20 + 20) = a + 20 + 20 := aC (by omega) (by omega);rw [wa];have hC : C.take 20 ++ C.drop 20 = C := qav _ _;have hCl : (C.take 20).length = 20 := by rw [qk]; omega
  have e1 : P ++ (Bs.flatten ++ C ++ R) = (P ++ Bs.flatten) ++ C.take 20 ++ (C.drop 20 ++ R) := by
   rw [show Bs.flatten ++ C ++ R = Bs.flatten ++ ((C.take 20 ++ C.drop 20) ++ R) by rw [hC]; simp];simp only [qaj]
  have := zke hc lo hi nl (P ++ Bs.flatten) (C.take 20) (C.drop 20 ++ R) a (a + 20) a0 (by rw [qb]; omega) (by omega) (by omega) (by rw [<- e1]; exact zcf hr hst) hlen;rw [e1];refine this.mono ?_;rintro r h' ⟨S1, rfl, rfl, s1, k1⟩;have k1l := k1.len;refine ⟨_, ⟨rfl, rfl⟩, ⟨trivial, ⟨rfl, rfl, hl1 (by simp only [qb]; omega)⟩, trivial⟩, rfl, ⟨rfl, by omega, Bs ++ [S1], C.drop 20, by simp, zkh hBs (by omega) s1, by simp only [qba, qn, qx, qv, qb]; omega, ?_⟩, by dsimp only; omega⟩;refine hst.trans ?_;have := (Stab.refl (key := key) Bs.flatten).app (k1.app (Stab.refl (C.drop 20)));rw [hC] at this;simpa using this
 ·simp only [aB] at hc1;have e1 : P ++ (Bs.flatten ++ C ++ R) = (P ++ Bs.flatten) ++ C ++ R := by simp
  have := zke hc lo hi nl (P ++ Bs.flatten) C R a n a0 (by rw [qb]; omega) (by omega) (by omega) (by rw [<- e1]; exact zcf hr hst) hlen;rw [e1];refine this.mono ?_;rintro r h' ⟨C1, rfl, rfl, s1, k1⟩;have k1l := k1.len;refine ⟨_, ⟨rfl, rfl⟩, ⟨trivial, ⟨rfl, rfl, hl1 (by simp only [qb]; omega)⟩, trivial⟩, ⟨rfl, by omega, Bs, C1, by simp, hBs, s1, by omega, hst.trans ((Stab.refl _).app k1)⟩, ?_⟩;clear hBs hBl hst hsl hc1 e1 this s1 k1 k1l;rintro k _ ⟨k0, Bs, C, rfl, hBs, hCs, hCk, hst⟩;have hsl := hst.len;rw [qb] at hsl;have hbl := zce hBs;refine aG (fun hc2 => ?_) (fun hc2 => ?_)
  ·simp only [aB] at hc2;have w2 : i64.wrap (2 * k) = 2 * k := aC (by omega) (by omega);have w3 : i64.wrap (k * 2) = 2 * k := by rw [aC (by omega) (by omega)]; omega
   rw [w2];refine ⟨⟨rfl, rfl, by omega, qt _, [], Bs, C, by simp, fun B hB => (by cases hB), hBs, hCs, hCk, rfl, by simpa using hst⟩, ?_⟩
   clear hBs hCs hCk hst hsl hbl;rintro _ a b _ ⟨rfl, rfl, a0, B2, Bs, C, rfl, hB2, hBs, hCs, hCk, hBl, hst⟩;have hsl := hst.len;rw [qb, qb] at hsl;have hbl := zce hBs;have hRs : R32 (P ++ (B2.flatten ++ (Bs.flatten ++ C) ++ R)) := zcf hr hst;rw [w2, w3];have hkn : (k.toNat : Int) = k := by omega
   refine aG (fun hc3 => ?_) (fun hc3 => ?_)
   ·simp only [aB] at hc3;have w4 : i64.wrap (a + k) = a + k := aC (by omega) (by omega);have w5 : i64.wrap (a + 2 * k + 2 * k) = a + 2 * k + 2 * k := aC (by omega) (by omega);rw [w4, w5]
    obtain ⟨X, Y, Bs', rfl⟩ : ∃ X Y Bs', Bs = X :: Y :: Bs' := by
     rcases vY Bs with rfl | ⟨X, rfl⟩ | h
     ·simp only [qx, qw] at hsl; omega
     ·have h1 := (hBs X (by simp)).1;simp only [qn, qx, qv] at hsl; omega
     ·exact h
    obtain ⟨hXl, hXs⟩ := hBs X (by simp);obtain ⟨hYl, hYs⟩ := hBs Y (by simp);have nx : X ≠ [] := fun h => by subst h; simp at hXl; omega
    have ny : Y ≠ [] := fun h => by subst h; simp at hYl; omega
    have e1 : P ++ (B2.flatten ++ ((X :: Y :: Bs').flatten ++ C) ++ R) = (P ++ B2.flatten) ++ (X ++ (Y ++ (Bs'.flatten ++ C ++ R))) := by simp
    have := zkg hc lo hi nl hlen (2 * k + 1).toNat (P ++ B2.flatten) X Y (Bs'.flatten ++ C ++ R) a (a + k) (a + 2 * k) a0 (by rw [qb]; omega) (by omega) (by omega) nx ny (by omega) (by rw [<- e1]; exact hRs) hXs hYs (by omega);rw [e1];refine this.mono ?_;rintro r h' ⟨S1, rfl, rfl, s1, k1⟩;have k1l := k1.len;rw [qb] at k1l;refine ⟨_, ⟨rfl, rfl⟩, ⟨trivial, ⟨rfl, rfl, hl1 (by simp only [qb]; omega)⟩, trivial⟩, rfl, ⟨rfl, rfl, by omega, B2 ++ [S1], Bs', C, by simp, zkh hB2 (by omega) s1, fun B hB => hBs B (by simp [hB]), hCs, hCk, by simp only [qba, qn, qx, qv, qb]; omega, ?_⟩, by dsimp only; omega⟩;refine hst.trans ?_;have := (Stab.refl (key := key) B2.flatten).app (k1.app (Stab.refl (Bs'.flatten ++ C)));simpa using this
   ·simp only [aB] at hc3;have w4 : i64.wrap (a + k) = a + k := aC (by omega) (by omega);rw [w4];refine aG (fun hc4 => ?_) (fun hc4 => ?_)
    ·simp only [aB] at hc4
     obtain ⟨X, rfl⟩ : ∃ X, Bs = [X] := by
      rcases vY Bs with rfl | h | ⟨X, Y, Bs', rfl⟩
      ·simp only [qx, qw] at hsl; omega
      ·exact h
      ·have h1 := (hBs X (by simp)).1;have h2 := (hBs Y (by simp)).1;simp only [qn, qb] at hsl;omega
     obtain ⟨hXl, hXs⟩ := hBs X (by simp);have nx : X ≠ [] := fun h => by subst h; simp at hXl; omega
     simp only [qn, qx, qv] at hsl hst;have ny : C ≠ [] := fun h => by subst h; simp only [qw] at hsl; omega
     have e1 : P ++ (B2.flatten ++ ([X].flatten ++ C) ++ R) = (P ++ B2.flatten) ++ (X ++ (C ++ R)) := by simp
     have := zkg hc lo hi nl hlen (2 * k + 1).toNat (P ++ B2.flatten) X C R a (a + k) n a0 (by rw [qb]; omega) (by omega) (by omega) nx ny (by omega) (by rw [<- e1]; exact hRs) hXs hCs (by omega);rw [e1];refine this.mono ?_;rintro r h' ⟨S1, rfl, rfl, s1, k1⟩;have k1l := k1.len;rw [qb] at k1l;exact ⟨_, ⟨rfl, rfl⟩, ⟨trivial, ⟨rfl, rfl, hl1 (by simp only [qb]; omega)⟩, trivial⟩, rfl, ⟨by omega, B2, S1, by simp, hB2, s1, by omega, hst.trans ((Stab.refl _).app k1)⟩, by dsimp only; omega⟩
    ·simp only [aB] at hc4
     have hCs2 : Srtd key (Bs.flatten ++ C) /\ ((Bs.flatten ++ C).length : Int) < 2 * k := by
      rcases vY Bs with rfl | ⟨X, rfl⟩ | ⟨X, Y, Bs', rfl⟩
      ·exact ⟨by simpa using hCs, by simp; omega⟩
      ·have h1 := hBs X (by simp);simp only [qn, qx, qv] at hsl ⊢;have hC0 : C = [] := List.length_eq_zero_iff.1 (by omega);subst hC0;exact ⟨by simpa using h1.2, by simp; omega⟩
      ·exfalso;have h1 := (hBs X (by simp)).1;have h2 := (hBs Y (by simp)).1;simp only [qn, qb] at hsl;omega
     exact ⟨rfl, ⟨by omega, B2, Bs.flatten ++ C, by simp, hB2, hCs2.1, hCs2.2, hst⟩, by dsimp only; omega⟩
  ·simp only [aB] at hc2
   have hz : Srtd key (Bs.flatten ++ C) := by
    rcases vY Bs with rfl | ⟨X, rfl⟩ | ⟨X, Y, Bs', rfl⟩
    ·simpa using hCs
    ·have h1 := hBs X (by simp);simp only [qn, qx, qv] at hsl ⊢;have hC0 : C = [] := List.length_eq_zero_iff.1 (by omega);subst hC0;simpa using h1.2
    ·exfalso;have h1 := (hBs X (by simp)).1;have h2 := (hBs Y (by simp)).1;simp only [qn, qb] at hsl;omega
   exact ⟨Bs.flatten ++ C, rfl, rfl, hz, hst⟩
theorem zu1 (hc : kQ T key) (lo hi : Nat) (nl : Bool) (P S R : List Int) (hP : P.length = lo) (hS : hi = lo + S.length) (hr : R32 (P ++ (S ++ R))) (hlen : hi < 1000000000000) :
 ACall qa 110 [.sub 0 lo hi, .fn 111 [.box 1 0]] (kS nl T (aA (P ++ (S ++ R)))) (kR key nl T P S R) := by
 refine zry _ _ _ _ _ ?_;unfold zhs;refine (zu0 hc lo hi nl P S R hP hS hr hlen).mono ?_;rintro r h' ⟨S1, rfl, rfl, s1, k1⟩;exact ⟨_, ⟨rfl, rfl⟩, ⟨trivial, ⟨rfl, rfl, by have := k1.len; simp; omega⟩, trivial⟩, S1, rfl, rfl, s1, k1⟩
end
section
variable {Z : World -> (Nat -> Prop) -> (Nat -> Pl) -> Hp -> Prop} {key : Int -> Int} {nl : Bool} {T : PV} {l : Nat}
def YQ (key : Int -> Int) (L : List Int) (f i : Nat) (L' : List Int) : Prop := ∃ S', L' = L.take f ++ (S' ++ L.drop i) /\ Srtd key S' /\ Stab key ((L.take i).drop f) S'
def zcg (Z : World -> (Nat -> Prop) -> (Nat -> Pl) -> Hp -> Prop) (key : Int -> Int) (nl : Bool) (T : PV) (l N0 : Nat) : Prop :=
 ∀ (w : World) (I : Nat -> Prop) (G : Nat -> Pl) (L : List Int) (f i : Nat), HRel w I G (aN nl T (aA L)) -> Z w I G (aN nl T (aA L)) -> f + 1 < i -> i <= L.length -> R32 L -> L.length < 1000000000000 -> L.length = N0 ->
  ∃ fn tmps assign body, (Instr.yield l #[.int .i64 f, .int .i64 i]).run qa w = .ok (.round l fn tmps assign body) w /\ RoundIn Fence.wide 0 qa l fn tmps assign body w fun e w' =>
   e = .returned (.bool true) /\ ∃ L' I' G', YQ key L f i L' /\ HRel w' I' G' (aN nl T (aA L')) /\ Keeps w I w' I' /\ Like G G' (aN nl T (aA L)) (aN nl T (aA L')) /\ Z w' I' G' (aN nl T (aA L'))
def o8 (ops : Array Oper) : Oper := ops.toList.getD 8 default
theorem e6a (y : Value) (es : List (List PV)) (i f : Int) (K : Env -> Hp -> Prop) : aT qa (fun _ => none) 39 (bR (d8 Tryz.f132)).toList ((bR (d8 Tryz.f132)).toList.take 8) (eM y i f) (aN nl T es) K =
 K ((35, LV.spec 32 true (.pv (.int .i64 i))) :: (34, LV.spec 32 true (.pv (.int .i64 f))) :: (33, LV.spec 32 true (.pv (.raw y))) :: (32, .pv (.bool (decide (i64.wrap (i - f) > (1 : Int))))) :: (31, .pv (.bool (decide (i64.wrap (i - f) > (1 : Int))))) ::
  (30, .pv (.int .i64 (i64.wrap (i - f)))) :: (29, .pv (.int .i64 f)) :: (28, .pv (.int .i64 i)) :: eM y i f) (aN nl T es) := by kernel_rfl
theorem e6b (y : Value) (es : List (List PV)) (i f : Int) (K : Env -> Hp -> Prop) : aT qa (fun _ => none) 39 (bR (d8 Tryz.f132)).toList ((bR (d8 Tryz.f132)).toList.drop 9) ((36, .pv (.bool true)) :: (32, .pv (.bool true)) :: eM y i f) (aN nl T es) K =
 K ((38, .pv (.bool false)) :: (37, .spec 32 true (.pv (.bool false))) :: (36, .pv (.bool true)) :: (32, .pv (.bool true)) :: eM y i f) (aN nl T es) := by kernel_rfl
theorem e6c (y : Value) (es : List (List PV)) (i f : Int) (K : Env -> Hp -> Prop) : aT qa (fun _ => none) 39 (bR (d8 Tryz.f132)).toList ((bR (d8 Tryz.f132)).toList.drop 9) ((32, .pv (.bool false)) :: eM y i f) (aN nl T es) K =
 K ((38, .pv (.bool false)) :: (37, .pv .unit) :: (32, .pv (.bool false)) :: (32, .pv (.bool false)) :: eM y i f) (aN nl T es) := by kernel_rfl
theorem zu2 : d8 Tryz.f132 = .region 6 (bR (d8 Tryz.f132)) false := by kernel_rfl
theorem zu3 : (bR (d8 Tryz.f132)).size = 11 /\ c9 (bR (d8 Tryz.f132)).toList = true /\ (bR (d8 Tryz.f132)).toList.length = 11 /\ (bR (d8 Tryz.f132))[8]? = some (o8 (bR (d8 Tryz.f132))) /\
 (o8 (bR (d8 Tryz.f132))).dst = some 36 /\ (o8 (bR (d8 Tryz.f132))).guard = some (4, true) /\ (o8 (bR (d8 Tryz.f132))).op = .call { callee := .value (.tmp 33), args := #[.tmp 34, .tmp 35], argTypes := #[3, 3] } /\
 ((bR (d8 Tryz.f132))[4]?).bind (·.dst) = some 32 :=
 ⟨by kernel_rfl, by kernel_rfl, by kernel_rfl, by kernel_rfl, by kernel_rfl, by kernel_rfl, by kernel_rfl, by kernel_rfl⟩
theorem zu4 {F : Fence} {n : Nat} {P : Program} {ops : Array Oper} {Q : Exit -> Act -> World -> Prop} {i : Nat} {rest : List Nat} {a : Act} {w : World} {o : Oper} (ho : ops[i]? = some o)
 (h : if Region.wanted o (yielded ops a.tmps) then o.wpIn F n P a w (wpOpsIn F n P ops Q rest) Q else (∀ f, o.about P w a.eval = some f -> F.fn f) /\ wpOpsIn F n P ops Q rest (a.put o.dst undef) w) : wpOpsIn F n P ops Q (i :: rest) a w := by
 simp only [wpOpsIn, ho]; exact h
theorem zu5 {w : World} {I : Nat -> Prop} {G : Nat -> Pl} {h : Hp} {tm : Array Value} {s : Nat} {b : Bool} (hr : LRel w I G h (.pv (.bool b)) (tm.getD s undef)) : tm[s]? = some (.bool b) := by
 have := hr.bool_eq;rw [qr] at this;cases hx : tm[s]? with
 | none => rw [hx] at this; simp [undef] at this
 | some v => rw [hx] at this; simpa using this
theorem LRel.raw_eq {w : World} {I : Nat -> Prop} {G : Nat -> Pl} {h : Hp} {v cv : Value} (hr : LRel w I G h (.pv (.raw v)) cv) : cv = v := by cases hr with | pv _ _ h1 => cases h1; rfl
theorem zu6 {N0 : Nat} (hY : zcg Z key nl T l N0) (hZ : ∀ w I G h w' I' G' h', Z w I G h -> HRel w I G h -> HRel w' I' G' h' -> TrN 5 w I G h w' I' G' h' -> Z w' I' G' h') (L : List Int) (f i : Nat) (hf : f <= i) (hi : i <= L.length) (hr : R32 L) (hL : L.length < 1000000000000) (hN : L.length = N0) :
 CodeZ Z qa 39 (d8 Tryz.f132) (eM (.func (.yield l) #[] #[]) i f) (aN nl T (aA L)) fun x e h => ∃ L', x = .normal /\ (if f + 1 < i then YQ key L f i L' else L' = L) /\ e = (38, .pv (.bool false)) :: eM (.func (.yield l) #[] #[]) i f /\ h = aN nl T (aA L') := by
 intro w I G a Qx hs hz hq;obtain ⟨q1, q2, q3, q4, q5, q6, q7, q8⟩ := zu3;rw [zu2];have ea := e6a (nl := nl) (T := T) (.func (.yield l) #[] #[]) (aA L) i f;have eb := fun es => e6b (nl := nl) (T := T) (.func (.yield l) #[] #[]) es i f;have ec := e6c (nl := nl) (T := T) (.func (.yield l) #[] #[]) (aA L) i f;generalize bR (d8 Tryz.f132) = O at *;generalize o8 O = o at *;have ww : i64.wrap ((i : Int) - f) = (i : Int) - f := aC (by omega) (by omega);rw [ww] at ea;refine wp_mono (Q := fun x a' w' => x = .normal /\ ∃ L' I' G', (if f + 1 < i then YQ key L f i L' else L' = L) /\ SRel w' I' G' ((38, .pv (.bool false)) :: eM (.func (.yield l) #[] #[]) i f) (aN nl T (aA L')) 39 a' /\ a'.defers = a.defers /\ Z w' I' G' (aN nl T (aA L'))) ((wpIn_wide (n := 0)).1 (wpIn_region (F := wd none) ?_)) ?_
 rotate_left
 ·rintro x a' w' ⟨rfl, L', I', G', h1, h2, h3, h4⟩;exact hq .normal _ _ w' I' G' a' ⟨L', rfl, h1, rfl, rfl⟩ h2 h3 h4
 rw [q1, show List.range 11 = qbn 0 8 ++ (8 :: qbn 9 2) from rfl];refine rZ ?_;rw [show (8 : Nat) = (O.toList.take 8).length by simp [q3]];have hsuf : ∀ j, j < (O.toList.drop 9).length -> (O.toList.drop 9)[j]? = O[9 + j]? := fun j _ => by rw [List.getElem?_drop]; simp
 have hl2 : (O.toList.drop 9).length = 2 := by simp [q3]
 refine uS (ro := none) q2 (fun j hj => ?_) (by rw [ea]; exact ⟨rfl, rfl⟩ : aT qa (fun _ => none) 39 O.toList (O.toList.take 8) _ _ (fun e' h' => e' = _ /\ h' = aN nl T (aA L))) hs (fun a w h => nomatch h.1) ?_
 ·rw [List.getElem?_take, if_pos (by simp only [qk] at hj; omega)]; simp
 rintro _ _ w1 I1 G1 a1 ⟨rfl, rfl⟩ hs1 hd1 ht1;rw [show (O.toList.take 8).length = 8 by simp [q3]];have hz1 := hZ _ _ _ _ _ _ _ _ hz hs.hh hs1.hh ht1.toN;have h32 := zu5 (hs1.he 32 _ rfl)
 have hyl : yielded O a1.tmps 4 = some (decide ((i : Int) - f > 1)) := by
  unfold yielded;rw [q8]; simp [h32]
 have hwd : Region.wanted o (yielded O a1.tmps) = decide ((i : Int) - f > 1) := by unfold Region.wanted; rw [q6]; simp [hyl]
 show wpOpsIn (wd none) 0 qa O _ (8 :: qbn 9 2) a1 w1;refine zu4 q4 ?_;rw [hwd];have hdst : iK 39 o = true := by unfold iK; rw [q5]; rfl
 by_cases hc : f + 1 < i
 ·have hd' : decide ((i : Int) - f > 1) = true := by simp; omega
  rw [hd'] at hs1 h32 ⊢;rw [if_pos rfl];refine ⟨fun _ _ => trivial, ?_⟩;have h32' : a1.tmps.getD 32 undef = .bool true := (hs1.he 32 _ rfl).bool_eq;have v33 := ((hs1.he 33 _ rfl).1 h32').raw_eq;have v34 := ((hs1.he 34 _ rfl).1 h32').int_eq;have v35 := ((hs1.he 35 _ rfl).1 h32').int_eq;obtain ⟨fn, tmps, assign, body, hy, hR⟩ := hY w1 I1 G1 L f i hs1.hh hz1 hc hi hr hL hN
  have hrun : (o.semAt none a1.eval).run qa w1 = .ok (.round l fn tmps assign body) w1 := by
   rw [Oper.semAt_none];unfold execOp;rw [q7];have e33 : a1.eval (.tmp 33) = .func (.yield l) #[] #[] := v33;have e34 : a1.eval (.tmp 34) = .int .i64 f := v34;have e35 : a1.eval (.tmp 35) = .int .i64 i := v35
   have hres : resolve a1.eval { callee := .value (.tmp 33), args := #[.tmp 34, .tmp 35], argTypes := #[3, 3] } o.type = pure { target := .fn (.yield l) #[], args := #[.int .i64 f, .int .i64 i] } := by
    simp [resolve, e33, e34, e35, Deferred.ofValue]
   simp only [hres, pure_bind];exact hy
  rw [hrun];refine ⟨(fun x => by cases x), hR.mono ?_⟩;rintro e w2 ⟨rfl, L', I2, G2, y1, y2, y3, y4, y5⟩
  have hs2 : SRel w2 I2 G2 ((36, .pv (.bool true)) :: (32, .pv (.bool true)) :: eM (.func (.yield l) #[] #[]) i f) (aN nl T (aA L')) 39 (a1.put o.dst (.bool true)) := by
   have s1 : SRel w1 I1 G1 ((32, .pv (.bool true)) :: eM (.func (.yield l) #[] #[]) i f) (aN nl T (aA L)) 39 a1 := hs1.le (LeE.le ⟨rfl, rfl, rfl, rfl, rfl, rfl, trivial⟩);obtain ⟨p1, p2⟩ := kE (v := .pv (.bool true)) hdst s1.hn y2 (s1.he.mono y3 y4) (.pv _ _ (.bool true));have : put o (.pv (.bool true)) ((32, .pv (.bool true)) :: eM (.func (.yield l) #[] #[]) i f) = (36, .pv (.bool true)) :: (32, .pv (.bool true)) :: eM (.func (.yield l) #[] #[]) i f := by unfold put; rw [q5]; rfl
   rwa [this] at p1
  have := uS (ro := none) (n := 0) (k := 9) q2 hsuf (by rw [eb]; exact ⟨rfl, rfl⟩ : aT qa (fun _ => none) 39 O.toList (O.toList.drop 9) _ _ (fun e' h' => e' = _ /\ h' = aN nl T (aA L'))) hs2 (Q := fun x a' w' => x = .normal /\ ∃ L' I' G', (if f + 1 < i then YQ key L f i L' else L' = L) /\ SRel w' I' G' ((38, .pv (.bool false)) :: eM (.func (.yield l) #[] #[]) i f) (aN nl T (aA L')) 39 a' /\ a'.defers = a.defers /\ Z w' I' G' (aN nl T (aA L'))) (fun a w h => nomatch h.1) (by
   rintro _ _ w3 I3 G3 a3 ⟨rfl, rfl⟩ hs3 hd3 ht3
   refine ⟨rfl, L', I3, G3, by rw [if_pos hc]; exact y1, hs3.le (LeE.le ⟨rfl, rfl, rfl, rfl, rfl, rfl, trivial⟩), hd3.trans ((by unfold Act.put; cases o.dst <;> rfl : (a1.put o.dst (.bool true)).defers = a1.defers).trans hd1), hZ _ _ _ _ _ _ _ _ y5 hs2.hh hs3.hh ht3.toN⟩)
  rw [hl2] at this;exact this
 ·have hd' : decide ((i : Int) - f > 1) = false := by simp; omega
  rw [hd'] at hs1 h32 ⊢;rw [if_neg (by simp)];refine ⟨fun _ _ => trivial, ?_⟩;have hlt : 36 < a1.tmps.size := by rw [hs1.hn]; omega
  have hs2 : SRel w1 I1 G1 ((32, .pv (.bool false)) :: eM (.func (.yield l) #[] #[]) i f) (aN nl T (aA L)) 39 (a1.put o.dst undef) := by
   have s1 : SRel w1 I1 G1 ((32, .pv (.bool false)) :: eM (.func (.yield l) #[] #[]) i f) (aN nl T (aA L)) 39 a1 := hs1.le (LeE.le ⟨rfl, rfl, rfl, rfl, rfl, rfl, trivial⟩);obtain ⟨p1, p2⟩ := kE (v := .bot) (cv := undef) hdst s1.hn s1.hh s1.he (.bot _);have : put o .bot ((32, .pv (.bool false)) :: eM (.func (.yield l) #[] #[]) i f) = (36, .bot) :: (32, .pv (.bool false)) :: eM (.func (.yield l) #[] #[]) i f := by unfold put; rw [q5]; rfl
   rw [this] at p1;exact p1.le (LeE.le ⟨rfl, rfl, rfl, rfl, rfl, rfl, trivial⟩)
  have := uS (ro := none) (n := 0) (k := 9) q2 hsuf (by rw [ec]; exact ⟨rfl, rfl⟩ : aT qa (fun _ => none) 39 O.toList (O.toList.drop 9) _ _ (fun e' h' => e' = _ /\ h' = aN nl T (aA L))) hs2 (Q := fun x a' w' => x = .normal /\ ∃ L' I' G', (if f + 1 < i then YQ key L f i L' else L' = L) /\ SRel w' I' G' ((38, .pv (.bool false)) :: eM (.func (.yield l) #[] #[]) i f) (aN nl T (aA L')) 39 a' /\ a'.defers = a.defers /\ Z w' I' G' (aN nl T (aA L'))) (fun a w h => nomatch h.1) (by
   rintro _ _ w3 I3 G3 a3 ⟨rfl, rfl⟩ hs3 hd3 ht3
   exact ⟨rfl, L, I3, G3, by rw [if_neg hc], hs3.le (LeE.le ⟨rfl, rfl, rfl, rfl, rfl, rfl, trivial⟩), hd3.trans ((by unfold Act.put; cases o.dst <;> rfl : (a1.put o.dst undef).defers = a1.defers).trans hd1), hZ _ _ _ _ _ _ _ _ hz1 hs2.hh hs3.hh ht3.toN⟩)
  rw [hl2] at this;exact this
end
section
variable {Z : World -> (Nat -> Prop) -> (Nat -> Pl) -> Hp -> Prop} {key : Int -> Int} {nl : Bool} {T : PV} {l : Nat} {y : Value} {es : List (List PV)}
theorem eI0 (Q : Qt) : cR qa (fun _ => none) 5 39 lM (fun _ => none) (bC (cM Tryz.f132)) (fI [.pv (.raw y), .box 4 0, .box 3 0] 0) (aN nl T es) Q = Q .normal (eN y 0) (aN nl T es) := by kernel_rfl
theorem eI1 (i : Int) (Q : Qt) : cR qa (fun _ => none) 5 39 lM (fun _ => none) (bC (cL Tryz.f132)) (eN y i) (aN nl T es) Q =
 if decide (i < (es.length : Int)) = true then Q .normal [(0, .pv (.raw y)), (1, .box 4 0), (2, .box 3 0), (4, .pv (.int .i64 i)), (9, .pv (.bool (decide (i < (es.length : Int)))))] (aN nl T es)
 else Q (.exit 0) [(0, .pv (.raw y)), (1, .box 4 0), (2, .box 3 0), (4, .pv (.int .i64 i)), (9, .pv (.bool (decide (i < (es.length : Int)))))] (aN nl T es) := by kernel_rfl
theorem eI3 (i : Int) (Q : Qt) : cR qa (fun _ => none) 5 39 lM (fun _ => none) (bC (cB Tryz.f132)) (eN y i) (aN nl T es) Q = Q .normal (eM y i i) (aN nl T es) := by kernel_rfl
theorem eI2 (i : Int) (Q : Qt) : cR qa (fun _ => none) 5 39 lM (fun _ => none) (aU (aU (cL Tryz.f132))) (eN y i) (aN nl T es) Q = Q .normal (eN y (i64.wrap (i + 1))) (aN nl T es) := by kernel_rfl
def zch (y : Value) (i f : Int) (b : Bool) : Env := [(0, .pv (.raw y)), (1, .box 4 0), (2, .box 3 0), (4, .pv (.int .i64 i)), (5, .pv (.int .i64 f)), (25, .pv (.bool b))]
theorem eI4 (i f : Int) (J : Int -> Prop) (μ : Int -> Nat) (Q : Qt) : cR qa (fun _ => none) 5 39 lM (fun zz_ => match zz_ with | 4 => some ⟨Int × Unit, fun s => (eM y s.1 f, aN nl T es), fun _ s => J s.1, fun s => μ s.1, fun e h => (gI e 4, ()), [], [0, 1, 2, 4, 5], [], fun p => ∀ (x4 : Int), p (x4, ()), fun p h s => h s.1⟩ | _ => none) (bC (aU (cB Tryz.f132))) (eM y i f) (aN nl T es) Q =
 ((SameSt (eM y i f, aN nl T es) (eM y i f, aN nl T es) /\ J i) /\ ∀ (x4 : Int), J x4 -> if decide (x4 < (es.length : Int)) = true then aI es x4 1 /\ ∃ (n : Int), (qd 0 (es.getD x4.toNat [])).head? = some (.int .i32 n) /\ PCall qa 71 [T, .int .i32 n] fun (v : PV) => ∃ (n1 : Int), v = .int .i64 n1 /\
  if (n1 != (0 : Int)) = true then SameSt (eM y (i64.wrap (x4 + 1)) f, aN nl T es) (eM y (i64.wrap (x4 + 1)) f, aN nl T es) /\ J (i64.wrap (x4 + 1)) /\ μ (i64.wrap (x4 + 1)) < μ x4
  else Q .normal (zch y x4 f (n1 != (0 : Int))) (aN nl T es)
   else Q .normal (zch y x4 f false) (aN nl T es)) := by kernel_rfl
theorem zci : cM Tryz.f132 = .seq (bC (cM Tryz.f132)) (.block 0 (.loop (cL Tryz.f132))) /\
 cL Tryz.f132 = .seq (bC (cL Tryz.f132)) (.seq (.block 1 (cB Tryz.f132)) (aU (aU (cL Tryz.f132)))) /\
 cB Tryz.f132 = .seq (bC (cB Tryz.f132)) (.seq (bC (aU (cB Tryz.f132))) (.seq (d8 Tryz.f132) (.cond (.tmp 38) .ret .skip))) := ⟨by kernel_rfl, by kernel_rfl, by kernel_rfl⟩
theorem CodeZ.le {P : Program} {N : Nat} {c : Code} {e e' : Env} {h : Hp} {Q : Qt} (hl : LeE e' e) (hK : CodeZ Z P N c e' h Q) : CodeZ Z P N c e h Q :=
 fun w I G a Qx hs hz hq => hK w I G a Qx (hs.le hl.le) hz hq
theorem zu7 (hk : ∀ x, 0 <= key x) (hT : ∀ r : Int, (-2147483648 <= r /\ r <= 2147483647) -> PCall qa 71 [T, .int .i32 r] fun v => v = .int .i64 (key r)) 
 (hZ : ∀ w I G h w' I' G' h', Z w I G h -> HRel w I G h -> HRel w' I' G' h' -> TrN 5 w I G h w' I' G' h' -> Z w' I' G' h') (L0 : List Int) (hY : zcg Z key nl T l L0.length) (hr : R32 L0) (hL : L0.length < 1000000000000) :
 CodeZ Z qa 39 (cM Tryz.f132) (fI [.pv (.raw (.func (.yield l) #[] #[])), .box 4 0, .box 3 0] 0) (aN nl T (aA L0)) fun x e h => x = .normal /\ h = aN nl T (aA (cV key L0)) := by
 obtain ⟨y, hy⟩ : ∃ y : Value, y = .func (.yield l) #[] #[] := ⟨_, rfl⟩;rw [zci.1, <- hy];refine CodeZ.seq (CodeZ.of (n0 := 5) hZ (eC (Eq.mpr (eI0 _) ?_)));show CodeZ Z qa 39 (.block 0 (.loop (cL Tryz.f132))) (eN y 0) (aN nl T (aA L0)) _;refine CodeZ.block (CodeZ.loop (σ := Nat × List Int) (fun s => (eN y s.1, aN nl T (aA s.2))) (fun s => s.1 <= L0.length + 1 /\ Eqv key L0 s.2 /\ c5 key (s.2.take s.1) /\ (s.1 = 0 ∨ L0.length < s.1 ∨ key (s.2.getD (s.1 - 1) 0) = 0)) (fun s => L0.length + 1 - s.1) (0, L0) (LeE.le ⟨rfl, rfl, rfl, rfl, trivial⟩) rfl ⟨by omega, .refl _, by simp [c5], .inl rfl⟩ ?_);rintro ⟨i, L⟩ ⟨hi, hq, hc, hb⟩;have hlen := hq.len;have hr' : R32 L := fun x hx => hr x (hq.mem.2 hx);dsimp only at hi hq hc hb hlen ⊢;rw [zci.2.1];refine CodeZ.seq (CodeZ.of (n0 := 5) hZ (eC (Eq.mpr (eI1 _ _) ?_)));by_cases hlt : i < L.length
 ·rw [if_pos (by simpa using hlt)]
  show CodeZ Z qa 39 (.seq (.block 1 (cB Tryz.f132)) (aU (aU (cL Tryz.f132)))) _ _ _;refine CodeZ.le (e' := eN y i) ⟨rfl, rfl, rfl, rfl, trivial⟩ (CodeZ.seq (CodeZ.block ?_));rw [zci.2.2];refine CodeZ.seq (CodeZ.of (n0 := 5) hZ (eC (Eq.mpr (eI3 _ _) ?_)));show CodeZ Z qa 39 (.seq (bC (aU (cB Tryz.f132))) (.seq (d8 Tryz.f132) (.cond (.tmp 38) .ret .skip))) (eM y i i) _ _;refine CodeZ.seq (CodeZ.of (n0 := 5) hZ (eC (Eq.mpr (eI4 _ _ (fun x => ∃ j : Nat, x = j /\ i <= j /\ j <= L.length /\ ∀ k, i <= k -> k < j -> key (L.getD k 0) ≠ 0) (fun x => ((L.length : Int) - x).toNat) _) ?_)));refine ⟨⟨rfl, i, rfl, qj _, by omega, fun k h1 h2 => by omega⟩, ?_⟩;rintro _ ⟨j, rfl, hij, hj, hnz⟩
  -- what follows the row of marks
  have rest : ∀ b, (j = L.length ∨ key (L.getD j 0) = 0) -> CodeZ Z qa 39 (.seq (d8 Tryz.f132) (.cond (.tmp 38) .ret .skip)) (zch y j i b) (aN nl T (aA L)) fun x e h => match x with
   | .normal => CodeZ Z qa 39 (aU (aU (cL Tryz.f132))) e h fun x e h => match x with
     | .normal => ∃ s' : Nat × List Int, (∀ i v, get (eN y s'.1) i = some v -> get e i = some v) /\ h = aN nl T (aA s'.2) /\ (s'.1 <= L0.length + 1 /\ Eqv key L0 s'.2 /\ c5 key (s'.2.take s'.1) /\ (s'.1 = 0 ∨ L0.length < s'.1 ∨ key (s'.2.getD (s'.1 - 1) 0) = 0)) /\ L0.length + 1 - s'.1 < L0.length + 1 - i
     | _ => False
   | _ => False := fun b hend => by
   refine CodeZ.le (e' := eM y j i) ⟨rfl, rfl, rfl, rfl, rfl, trivial⟩ (CodeZ.seq ?_);rw [hy];refine (zu6 hY hZ L i j hij hj hr' (by omega) hlen.symm).mono ?_;rintro _ _ _ ⟨L', rfl, hL', rfl, rfl⟩;refine CodeZ.cond (t := false) rfl ?_;simp only [Bool.false_eq_true, if_false];refine CodeZ.skip ?_;rw [<- hy];refine CodeZ.le (e' := eN y j) ⟨rfl, rfl, rfl, rfl, trivial⟩ (CodeZ.of (n0 := 5) hZ (eC (Eq.mpr (eI2 _ _) ?_)));have wj : i64.wrap ((j : Int) + 1) = ((j + 1 : Nat) : Int) := by rw [aC (by omega) (by omega)]; omega
   rw [wj]
   have hb' : i = 0 ∨ key (L.getD (i - 1) 0) = 0 := by
    rcases hb with h | h | h
    ·exact .inl h
    ·omega
    ·exact .inr h
   obtain ⟨S', hs, hst, rfl⟩ : ∃ S', Srtd key S' /\ Stab key ((L.take j).drop i) S' /\ L' = L.take i ++ (S' ++ L.drop j) := by
    by_cases h1 : i + 1 < j
    ·rw [if_pos h1] at hL';obtain ⟨S', e, h2, h3⟩ := hL';exact ⟨S', h2, h3, e⟩
    ·rw [if_neg h1] at hL';obtain ⟨c1, c2, c3⟩ := u5 L hij hj;exact ⟨_, zqq (by omega), Stab.refl _, hL'.trans c1⟩
   obtain ⟨g1, g2, g3⟩ := zqp hk hij hj hb' hnz hend hc hs hst;refine ⟨(j + 1, _), LeE.le ⟨rfl, rfl, rfl, rfl, trivial⟩, rfl, ⟨by dsimp only; omega, hq.trans g1, g2, ?_⟩, by dsimp only; omega⟩;rcases Nat.lt_or_ge j L.length with h | h
   ·exact .inr (.inr (g3 h))
   ·exact .inr (.inl (by dsimp only; omega))
  by_cases hjl : j < L.length
  ·rw [if_pos (by simpa using hjl)]
   refine ⟨cE (enc := fun n => [PV.int .i32 n]) (l := L) (fun _ => rfl) (by omega) (by omega), L.getD j 0, by rw [qc, zfz hjl]; rfl, (hT _ (hr' _ (List.mem_of_getElem? (sE hjl)))).mono ?_⟩;rintro _ rfl;refine ⟨_, rfl, ?_⟩;by_cases hz : key (L.getD j 0) = 0
   ·rw [if_neg (by simpa using hz)]
    exact (rest _ (.inr hz)).mono fun x e h hx => by cases x <;> first | exact hx.elim | exact CodeZ.mono hx fun x e h hx => (by cases x <;> first | exact hx | exact hx.elim)
   ·rw [if_pos (by simpa using hz)]
    have wj : i64.wrap ((j : Int) + 1) = ((j + 1 : Nat) : Int) := by rw [aC (by omega) (by omega)]; omega
    rw [wj];refine ⟨rfl, ⟨j + 1, rfl, by omega, hjl, fun k h1 h2 => ?_⟩, by omega⟩;rcases Nat.lt_or_ge k j with h | h
    ·exact hnz k h1 h
    ·have : k = j := by omega
     subst this; exact hz
  ·rw [if_neg (by simpa using hjl)]
   exact (rest _ (.inl (by omega))).mono fun x e h hx => by cases x <;> first | exact hx.elim | exact CodeZ.mono hx fun x e h hx => (by cases x <;> first | exact hx | exact hx.elim)
 ·rw [if_neg (by simpa using hlt)]
  refine ⟨rfl, ?_⟩;rw [qh (by omega)] at hc;rw [zqm hq, zqo hc]
end
section
variable {w w' : World} {I I' : Nat -> Prop} {G G' : Nat -> Pl} {h h' : Hp}
theorem HRel.off (hh : HRel w I G h) {l : Nat} (o : Obj) (hI : ¬ I l) (ho : ¬ aO h G l) : HRel (w.putObj l o) I G h := by
 have hw : ∀ b, b ≠ l -> (w.putObj l o).heap[b]? = w.heap[b]? := fun b hb => World.putObj_heap_other hb;have hk : Keeps w I (w.putObj l o) I := ⟨fun b hb _ => hw b fun e => hI (e ▸ hb), fun b hb _ => hb⟩;have blk : ∀ (i : Nat) x, h[i]? = some x -> x.alive (G i) -> (G i).blk ≠ l := fun i x hx ha e => ho ⟨i, x, hx, ha, e⟩;refine ⟨fun i x hx => ?_, hh.sep, hh.nI, fun b hb => by rw [World.putObj_size]; exact hh.cl b hb⟩;have := hh.obs i x hx;cases x with
 | dead => trivial
 | box cs => obtain ⟨vs, ty, e1, e2, e3⟩ := this; exact ⟨vs, ty, by rw [hw _ (blk i _ hx trivial)]; exact e1, e2, fun k v hv => ⟨(e3 k v hv).1.mono hk (.refl _ _), (e3 k v hv).2⟩⟩
 | arr cs => obtain ⟨vs, ty, e1, e2, e3⟩ := this; exact ⟨vs, ty, by rw [hw _ (blk i _ hx trivial)]; exact e1, e2, fun k v hv => ⟨(e3 k v hv).1.mono hk.1 hk.2, (e3 k v hv).2⟩⟩
 | sl ty m n es =>
   cases n with
   | true => exact this
   | false =>
     obtain ⟨e1, e2, e3, e3', e4, e5⟩ := this;refine ⟨e1, e2, e3, e3', e4, fun hc => ?_⟩;obtain ⟨vs, f1, f2, f3⟩ := e5 hc;exact ⟨vs, by rw [hw _ (blk i _ hx ⟨rfl, hc⟩)]; exact f1, f2, fun i' e he k v hv => ⟨(f3 i' e he k v hv).1.mono hk.1 hk.2, (f3 i' e he k v hv).2⟩⟩
 | mp kvs => obtain ⟨es, ck, e1, e2, e3⟩ := this; exact ⟨es, ck, by rw [hw _ (blk i _ hx trivial)]; exact e1, e2, fun k kv hv => ⟨(e3 k kv hv).1.mono hk.1 hk.2, (e3 k kv hv).2.mono hk.1 hk.2⟩⟩
 | iter ty rem cur => exact IterRel.mono this (hw _ (blk i _ hx trivial)) hk
theorem lZ (hh : HRel w I G h) {b : Nat} {o : Obj} (ho : w.heap[b]? = some o) (hn : (match o with | .cells .. => true | .map .. => true | .mapIter .. => true | _ => false) = false) : ¬ aO h G b := by
 rintro ⟨i, ob, hi, ha, rfl⟩;have := hh.obs i ob hi;cases ob with
 | dead => exact ha
 | box cs => obtain ⟨vs, ty, e1, _⟩ := this; rw [ho] at e1; cases e1; cases hn
 | arr cs => obtain ⟨vs, ty, e1, _⟩ := this; rw [ho] at e1; cases e1; cases hn
 | sl ty m n es =>
   cases n with
   | true => exact absurd ha.1 (by simp)
   | false => obtain ⟨vs, e1, _⟩ := this.2.2.2.2.2 ha.2; rw [ho] at e1; cases e1; cases hn
 | mp kvs => obtain ⟨es, ck, e1, _⟩ := this; rw [ho] at e1; cases e1; cases hn
 | iter ty rem cur => obtain ⟨_, _, _, _, _, _, e1, _⟩ := this; rw [ho] at e1; cases e1; cases hn
theorem Tr.off {own own' : Nat -> Prop} (t : Tr w I own w' I' own') {l : Nat} (hl : w.heap.size <= l) (o : Obj) : Tr w I own (w'.putObj l o) I' own' :=
 ⟨t.os, t.tape, t.output, by rw [World.putObj_size]; exact t.size, fun b hb hn => (World.putObj_heap_other (by omega)).trans (t.keep b hb hn), t.i1, t.i2, t.own2,
  fun a ha => (World.frozen?_of_block (World.putObj_heap_other (by omega))).trans (t.frz a ha), t.drawn⟩
theorem TrN.off {n0 : Nat} (t : TrN n0 w I G h w' I' G' h') {l : Nat} (hl : w.heap.size <= l) (o : Obj) : TrN n0 w I G h (w'.putObj l o) I' G' h' := ⟨t.t.off hl o, t.len, t.stay⟩
theorem sT (hh : HRel w I G h) (t : Tr w I (aO h G) w' I' (aO h' G')) : Keeps w I w' I' :=
 ⟨fun b hb hlt => t.keep b hlt fun ⟨o, ob, h1, h2, e⟩ => hh.nI o ob h1 h2 (e ▸ hb), fun b hb _ => t.i1 b hb⟩
theorem Keeps.trans {w1 w2 : World} {I1 I2 : Nat -> Prop} (h : Keeps w I w1 I1) (hs : w.heap.size <= w1.heap.size) (k : Keeps w1 I1 w2 I2) : Keeps w I w2 I2 :=
 ⟨fun b hb hlt => (k.1 b (h.2 b hb hlt) (qbd hlt hs)).trans (h.1 b hb hlt), fun b hb hlt => k.2 b (h.2 b hb hlt) (qbd hlt hs)⟩
theorem Keeps.off {l : Nat} (hI : ¬ I l) (o : Obj) : Keeps w I (w.putObj l o) I := ⟨fun b hb _ => World.putObj_heap_other fun e => hI (e ▸ hb), fun b hb _ => hb⟩
structure ZR (W0 : World) (I0 : Nat -> Prop) (G0 : Nat -> Pl) (h0 : Hp) (l D : Nat) (rec : Loop) (W : World) (I : Nat -> Prop) (G : Nat -> Pl) (h : Hp) : Prop where
 t : TrN 5 W0 I0 G0 h0 W I G h
 hl : W.heap[l]? = some (.loop rec)
 hD : W.heap[D]? = some (.deferred (some []))
 nl : ¬ I l
 nD : ¬ I D
theorem ZR.step {W0 : World} {I0 : Nat -> Prop} {G0 : Nat -> Pl} {h0 : Hp} {l D : Nat} {rec : Loop} (z : ZR W0 I0 G0 h0 l D rec w I G h) (hh : HRel w I G h) (t : TrN 5 w I G h w' I' G' h') : ZR W0 I0 G0 h0 l D rec w' I' G' h' := by
 have l1 := (Array.getElem?_eq_some_iff.1 z.hl).1;have l2 := (Array.getElem?_eq_some_iff.1 z.hD).1;have n1 := lZ hh z.hl rfl;have n2 := lZ hh z.hD rfl;exact ⟨z.t.trans t, (t.t.keep l l1 n1).trans z.hl, (t.t.keep D l2 n2).trans z.hD, fun x => (t.t.i2 l x).elim z.nl (fun x => x.elim n1 fun x => by omega), fun x => (t.t.i2 D x).elim z.nD (fun x => x.elim n2 fun x => by omega)⟩
end
section
variable {key : Int -> Int} {nl : Bool} {T : PV}
theorem zcj {G G' : Nat -> Pl} {es es' : List (List PV)} (hl : es.length = es'.length) (hG : ∀ o, o < 5 -> G' o = G o) : Like G G' (aN nl T es) (aN nl T es') := by
 intro o ob ho;have hlt : o < 5 := (List.getElem?_eq_some_iff.1 ho).1;refine ⟨?_, fun _ => hG o hlt⟩
 match o, ho with
 | 0, ho => cases ho; exact ⟨_, rfl, trivial⟩
 | 1, ho => cases ho; exact ⟨_, rfl, rfl, rfl, hl⟩
 | 2, ho => cases ho; exact ⟨_, rfl, trivial⟩
 | 3, ho => cases ho; exact ⟨_, rfl, trivial⟩
 | 4, ho => cases ho; exact ⟨_, rfl, trivial⟩
theorem vZ {w w' : World} {I I' : Nat -> Prop} {G G' : Nat -> Pl} {es es' : List (List PV)} (t : TrN 5 w I G (aN nl T es) w' I' G' (aN nl T es')) : ∀ o, o < 5 -> G' o = G o := by
 intro o ho;have hs := t.stay (qj _)
 match o, ho with
 | 0, _ => exact (hs 0 _ (by omega) rfl rfl).1
 | 1, _ => exact (hs 1 _ (by omega) rfl rfl).1
 | 2, _ => exact (hs 2 _ (by omega) rfl rfl).1
 | 3, _ => exact (hs 3 _ (by omega) rfl rfl).1
 | 4, _ => exact (hs 4 _ (by omega) rfl rfl).1
theorem eA3 (es : List (List PV)) (i f : Int) (K : Env -> Hp -> Prop) : aT qa (fun _ => none) 22 (bR (bC (iO (dB Tryz.f82)))).toList (bR (bC (iO (dB Tryz.f82)))).toList (eO f i) (aN nl T es) K = K ((6, .pv (.int .i64 f)) :: eO f i) (aN nl T es) := by kernel_rfl
theorem eA4 (es : List (List PV)) (i f : Int) (K : Env -> Hp -> Prop) : aT qa (fun _ => none) 22 (bR (aU (iO (dB Tryz.f82)))).toList (bR (aU (iO (dB Tryz.f82)))).toList ((6, .pv (.int .i64 f)) :: eO f i) (aN nl T es) K = K ((7, .pv (.int .i64 i)) :: (6, .pv (.int .i64 f)) :: eO f i) (aN nl T es) := by kernel_rfl
theorem eA5 (es : List (List PV)) (i f : Int) (K : Env -> Hp -> Prop) : aT qa zY 22 (bR (gM (iP (dB Tryz.f82)))).toList (bR (gM (iP (dB Tryz.f82)))).toList ((7, .pv (.int .i64 i)) :: (6, .pv (.int .i64 f)) :: eO f i) (aN nl T es) K =
 (d9 es.length (some f) (some i) none /\ ACall qa 110 [.sub 0 f.toNat i.toNat, .fn 111 [.box 1 0]] [.sl (21, 1) false nl es, .box [.pv T]] fun (r : LV) (h' : Hp) => ∃ (t : List (List PV)), (r = .tup [] /\ h' = [.sl (21, 1) false nl t, .box [.pv T]]) /\
  (True /\ (((21, 1) : Nat × Nat) = (21, 1) /\ nl = nl /\ es.length = t.length) /\ True) /\ K ((20, .tup []) :: (19, .fn 111 [.box 0 0]) :: (18, .sub 1 f.toNat i.toNat) :: (17, .pv (.int .i64 i)) :: (16, .pv (.int .i64 f)) :: (15, .own 1) :: (7, .pv (.int .i64 i)) :: (6, .pv (.int .i64 f)) :: eO f i) (aN nl T t)) := by kernel_rfl
theorem zki : iO (dB Tryz.f82) = .seq (.region 3 (bR (bC (iO (dB Tryz.f82)))) false) (.region 4 (bR (aU (iO (dB Tryz.f82)))) false) /\ iP (dB Tryz.f82) = .block 1 (.region 5 (bR (gM (iP (dB Tryz.f82)))) false) /\
 dB Tryz.f82 = .rangeFunc (.tmp 12) #[13, 14] (iO (dB Tryz.f82)) (iP (dB Tryz.f82)) /\ c9 (bR (bC (iO (dB Tryz.f82)))).toList = true /\ c9 (bR (aU (iO (dB Tryz.f82)))).toList = true /\ c9 (bR (gM (iP (dB Tryz.f82)))).toList = true :=
 ⟨by kernel_rfl, by kernel_rfl, by kernel_rfl, by kernel_rfl, by kernel_rfl, by kernel_rfl⟩
theorem zu8 (hc : kQ T key) {W0 : World} {I0 : Nat -> Prop} {G0 : Nat -> Pl} {L0 : List Int} {a : Act} {v12 : LV} (hs0 : SRel W0 I0 G0 [(2, .box 0 0), (5, .box 2 0), (12, v12)] (aN nl T (aA L0)) 22 a) (rec : Loop)
 (r1 : rec.state = .ready) (r2 : rec.pending = none) (r3 : rec.tmps = a.tmps) (r4 : rec.params = #[13, 14]) (r5 : rec.assign = iO (dB Tryz.f82)) (r6 : rec.body = iP (dB Tryz.f82)) :
 zcg (ZR W0 I0 G0 (aN nl T (aA L0)) (W0.heap.size + 1) W0.heap.size rec) key nl T (W0.heap.size + 1) L0.length := by
 intro w I G L f i hh hz hfi hil hr hLn hN;obtain ⟨l, hl⟩ : ∃ l, l = W0.heap.size + 1 := ⟨_, rfl⟩;have hWl : W0.heap.size <= l := by omega
 rw [<- hl] at hz ⊢;refine ⟨_, _, _, _, run_yield (P := qa) hz.hl (by rw [r4]; rfl), roundIn_of_wpIn trivial ?_⟩;have hlt := (Array.getElem?_eq_some_iff.1 hz.hl).1;have hel : ∀ L' : List Int, L'.length = L.length -> (aA L0).length = (aA L').length := fun L' h => by simp [hN, h]
 have hs : SRel w I G (eO f i) (aN nl T (aA L)) 22 { tmps := (a.tmps.setIfInBounds 13 (.int .i64 f)).setIfInBounds 14 (.int .i64 i), defers := [] } := by
  have h1 := hs0.he.mono (sT hs0.hh hz.t.t) (zcj (hel L rfl) (vZ hz.t));have h2 := h1.set (d := 13) (v := .pv (.int .i64 f)) (by rw [hs0.hn]; omega) (.pv _ _ (.int .i64 f)) (fun _ _ _ e => by cases e);have h3 := h2.set (d := 14) (v := .pv (.int .i64 i)) (by simp [hs0.hn]) (.pv _ _ (.int .i64 i)) (fun _ _ _ e => by cases e);exact ⟨hh, fun k v hk => h3 k v ((LeE.le (e' := eO f i) ⟨rfl, rfl, rfl, rfl, trivial⟩) k v hk), by simp [hs0.hn]⟩
 obtain ⟨q1, q2, q3, q4, q5, q6⟩ := zki;rw [r5, q1, r4, r3];have hfold : ∀ x y : Value, (((#[13, 14] : Array Tmp).zip #[x, y]).foldl (fun tmps (t, a) => tmps.setIfInBounds t a) a.tmps) = (a.tmps.setIfInBounds 13 x).setIfInBounds 14 y := fun x y => by simp
 rw [hfold];refine wpIn_seq ?_;show Code.wpIn (wd (some l)) 0 qa _ (Exit.then (Code.wpIn (wd (some l)) 0 qa _ _) _) { tmps := (a.tmps.setIfInBounds 13 (.int .i64 f)).setIfInBounds 14 (.int .i64 i), defers := [] } w;refine y9 q4 (by rw [eA3]; exact ⟨rfl, rfl⟩ : aT qa (fun _ => none) 22 _ _ _ _ (fun e' h' => e' = _ /\ h' = _)) hs ?_ ?_
 ·exact fun a w h => h
 rintro _ _ w1 I1 G1 a1 ⟨rfl, rfl⟩ hs1 hd1 ht1;refine y9 q5 (by rw [eA4]; exact ⟨rfl, rfl⟩ : aT qa (fun _ => none) 22 _ _ _ _ (fun e' h' => e' = _ /\ h' = _)) hs1 ?_ ?_
 ·exact fun a w h => h
 rintro _ _ w2 I2 G2 a2 ⟨rfl, rfl⟩ hs2 hd2 ht2;have z1 := hz.step hh ht1.toN;have z2 := z1.step hs1.hh ht2.toN;refine ⟨_, run_beginRound z2.hl r1, ?_⟩;have n2 := lZ hs2.hh z2.hl rfl;have l2 := (Array.getElem?_eq_some_iff.1 z2.hl).1;have hs3 : SRel (w2.putObj l (.loop { rec with state := .busy })) I2 G2 _ _ 22 a2 := ⟨hs2.hh.off _ z2.nl n2, hs2.he.mono (Keeps.off z2.nl _) (.refl _ _), hs2.hn⟩;have hp3 : (w2.putObj l (.loop { rec with state := .busy })).heap[l]? = some (.loop { rec with state := .busy }) := World.putObj_heap_same l2;have hb : ∀ {c : Code} {Q a w}, c = iP (dB Tryz.f82) -> Code.wpIn (wd (some l)) 0 qa (.block 1 (.region 5 (bR (gM (iP (dB Tryz.f82)))) false)) Q a w -> Code.wpIn (wd (some l)) 0 qa c Q a w := fun e h => by rw [e, q2]; exact h
 refine hb r6 ?_
 have h5 : aT qa zY 22 (bR (gM (iP (dB Tryz.f82)))).toList (bR (gM (iP (dB Tryz.f82)))).toList ((7, .pv (.int .i64 i)) :: (6, .pv (.int .i64 f)) :: eO f i) (aN nl T (aA L)) (fun _ h' => ∃ L', YQ key L f i L' /\ h' = aN nl T (aA L')) := by
  rw [eA5, qc, qc];obtain ⟨c1, c2, c3⟩ := u5 L (show f <= i by omega) hil;have e : aA L = aA (L.take f ++ ((L.take i).drop f ++ L.drop i)) := congrArg aA c1;refine ⟨⟨by simp, by simp; omega, by simp; omega, trivial⟩, ?_⟩;rw [e];refine (zu1 hc f i nl (L.take f) ((L.take i).drop f) (L.drop i) c2 (by omega) (by rw [<- c1]; exact hr) (by omega)).mono ?_;rintro r h' ⟨S', rfl, rfl, s1, k1⟩;refine ⟨_, ⟨rfl, rfl⟩, ⟨trivial, ⟨rfl, rfl, ?_⟩, trivial⟩, _, ⟨S', rfl, s1, k1⟩, rfl⟩;have := k1.len;simp only [bN, qb]; omega
 refine wpIn_block ?_;show Code.wpIn (wd (some l)) 0 qa _ _ _ _;refine y9 (H := zY) (ro := some l) (n := 0) (id := 5) q6 h5 hs3 ?_ ?_
 ·exact fun a w h => h
 rintro e4 _ w4 I4 G4 a4 ⟨L', hYQ, rfl⟩ hs4 hd4 ht4;have n3 := lZ hs3.hh hp3 rfl;have hl4 : w4.heap[l]? = some (.loop { rec with state := .busy }) := (ht4.t.keep l (by rw [World.putObj_size]; exact l2) n3).trans hp3;have l4 := (Array.getElem?_eq_some_iff.1 hl4).1;have nI4 : ∀ b, ¬ I2 b -> ¬ aO (aN nl T (aA L)) G2 b -> b < w2.heap.size -> ¬ I4 b := fun b x y z h => (ht4.t.i2 b h).elim x fun h => h.elim y fun h => by rw [World.putObj_size] at h; omega
 have nl4 := nI4 l z2.nl n2 l2;have hDne : W0.heap.size ≠ l := by omega
 have nD2 := lZ hs2.hh z2.hD rfl;have lD := (Array.getElem?_eq_some_iff.1 z2.hD).1
 have hrec : ({ { rec with state := .busy } with state := if (none : Option Code).isNone then .ready else .done, pending := none } : Loop) = rec := by
  cases rec; simp only at r1 r2; subst r1; subst r2; rfl
 have hrun := run_endRound (P := qa) none hl4;rw [hrec] at hrun
 have hLL : L'.length = L.length := by
  obtain ⟨S', rfl, s1, k1⟩ := hYQ;obtain ⟨c1, c2, c3⟩ := u5 L (show f <= i by omega) hil;have := k1.len;rw [qb, qb, c2, <- this, c3, qac]; omega
 have tB : TrN 5 W0 I0 G0 (aN nl T (aA L0)) (w4.putObj l (.loop rec)) I4 G4 (aN nl T (aA L')) := ((z2.t.off hWl _).trans ht4.toN).off hWl _;refine ⟨_, _, hrun, rfl, L', I4, G4, hYQ, hs4.hh.off _ nl4 (lZ hs4.hh hl4 rfl), ?_, zcj (by simp [hLL]) (fun o ho => (vZ tB o ho).trans (vZ hz.t o ho).symm), ⟨tB, World.putObj_heap_same l4, ?_, nl4, nI4 _ z2.nD nD2 lD⟩⟩
 ·have k1 := (sT hh ht1.t).trans ht1.t.size (sT hs1.hh ht2.t);have s2 := qbe ht1.t.size ht2.t.size;have k2 := (k1.trans s2 (Keeps.off z2.nl (.loop { rec with state := .busy }))).trans (by rw [World.putObj_size]; exact s2) (sT hs3.hh ht4.t);exact k2.trans (by have := ht4.t.size; rw [World.putObj_size] at this; omega) (Keeps.off nl4 _)
 ·rw [World.putObj_heap_other hDne];exact (ht4.t.keep _ (by rw [World.putObj_size]; exact lD) (lZ hs3.hh ((World.putObj_heap_other hDne).trans z2.hD) rfl)).trans ((World.putObj_heap_other hDne).trans z2.hD)
end
end Go.Eng
namespace Go.Eng
open Go Go.Proofs
section
variable (nl fl : Bool) (es : LL)
def zkj (R : LV -> Hp -> Prop) : Prop :=
 if (bif true then nl else !nl) = true then R (LV.pv (PV.sl true true [])) [] else lE true [] es 1 4 /\ R (LV.own 0) [Ob.sl (21, 1) false false ([] ++ es)]
theorem zu9 {R : LV -> Hp -> Prop} (h : zkj nl es R) : ACall qa 47 [.pv (.sl nl fl es)] [] R :=
 ACall.wA Tryz.func47 aP [0, 2, 4] bG h
end
section
variable (nl : Bool) (ts : List PV) (es : LL)
def zva (R : LV -> Hp -> Prop) : Prop :=
 R (LV.fn 132 [LV.box 2 0, LV.box 1 0]) [Ob.sl (21, 1) false nl es, Ob.box [LV.pv (PV.ptr ts)], Ob.box [LV.own 0]]
theorem zvb {R : LV -> Hp -> Prop} (h : zva nl ts es R) : ACall qa 109 [.pv (.ptr ts), .own 0] [.sl (21, 1) false nl es] R :=
 ACall.wz Tryz.func109 aP [0, 1, 2, 3, 4] bG [0, 1, 2] h
end
end Go.Eng
namespace Go.Eng
open Go Go.Proofs Go.Eng.Rows Go.Eng.Srt
theorem ACall.nilOwn {P : Program} {f : Nat} {args : List LV} {Q Q' : LV -> Hp -> Prop} {ty : Nat × Nat} (hc : ACall P f args [] Q) (hq : ∀ r h', Q r h' -> Q' r h' ∨ ∃ fl, r = .pv (.sl true fl []) /\ h' = [] /\ Q' (.own 0) [.sl ty false true []]) : ACall P f args [] Q' :=
 ⟨hc.1, fun w I G cargs h1 h2 h3 => (hc.2 w I G cargs h1 h2 h3).mono fun e w' ⟨cv, r, h', I', G', e1, e2, e3, e4, e5⟩ => (hq r h' e2).elim (fun q => ⟨cv, r, h', I', G', e1, q, e3, e4, e5⟩) fun ⟨fl, hr, hh, q⟩ => by
  subst hr; subst hh;have hcv : cv = .slice none 0 0 := by cases e4 with | pv _ _ h => cases h; rfl
  subst hcv
  have one : ∀ {o : Nat} {ob : Ob}, [Ob.sl ty false true []][o]? = some ob -> ob = .sl ty false true [] := fun {o ob} h => by
   cases o with
   | zero => cases h; rfl
   | succ o => simp at h
  have dead : ∀ {p : Pl}, ¬ (Ob.sl ty false true []).alive p := fun h => by cases h.1
  have noB : ∀ b, ¬ aO [Ob.sl ty false true []] G' b := fun b ⟨o, ob, ho, ha, _⟩ => by rw [one ho] at ha; exact dead ha
  refine ⟨_, .own 0, [.sl ty false true []], I', G', e1, q, ⟨fun o ob ho => by rw [one ho]; rfl, fun o o' ob ob' ho ha => by rw [one ho] at ha; exact (dead ha).elim, fun o ob ho ha => by rw [one ho] at ha; exact (dead ha).elim, e3.cl⟩, .ownNil 0 ty false [] rfl, ?_, by simp, fun o ob' ho => by simp at ho⟩;have t := e5.t
  exact ⟨t.os, t.tape, t.output, t.size, t.keep, t.i1, t.i2, fun b hb => (noB b hb).elim, t.frz, t.drawn⟩⟩
theorem zck (nl fl : Bool) (es : List (List PV)) (hn : nl = true -> es = []) (ha : lE true [] es 1 4) : ACall qa 47 [.pv (.sl nl fl es)] [] fun r h' => r = .own 0 /\ h' = [.sl (21, 1) false nl es] := by
 refine ACall.nilOwn (ty := (21, 1)) (Q := fun r h' => (nl = true /\ r = .pv (.sl true true []) /\ h' = []) ∨ (nl = false /\ r = .own 0 /\ h' = [.sl (21, 1) false nl es])) (zu9 nl fl es ?_) ?_
 ·unfold zkj;cases nl with
  | true => exact .inl ⟨rfl, rfl, rfl⟩
  | false => exact ⟨ha, .inr ⟨rfl, rfl, by simp⟩⟩
 ·rintro r h' (⟨rfl, rfl, rfl⟩ | ⟨rfl, rfl, rfl⟩)
  ·rw [hn rfl]; exact .inr ⟨true, rfl, rfl, rfl, rfl⟩
  ·exact .inl ⟨rfl, rfl⟩
theorem wB {P : Program} {n0 N : Nat} {c : Code} {e E : Env} {h Hh : Hp} (hS : CodeS P n0 N c e h fun x e' h' => x = .normal /\ e' = E /\ h' = Hh) {w : World} {I : Nat -> Prop} {G : Nat -> Pl} {a : Act} (hs : SRel w I G e h N a) {Q : Exit -> Act -> World -> Prop}
 (hq : ∀ w' I' G' a', SRel w' I' G' E Hh N a' -> a'.defers = a.defers -> TrN n0 w I G h w' I' G' Hh -> Q .normal a' w') : c.wp P Q a w :=
 hS w I G a Q hs fun x e' h' w' I' G' a' hk hs' hd ht => by obtain ⟨rfl, rfl, rfl⟩ := hk; exact hq w' I' G' a' hs' hd ht
section
variable {nl fl : Bool} {ts : List PV} {es : List (List PV)}
theorem eB0 (Q : Qt) : cR qa (fun _ => none) 0 22 [1, 2, 4] (fun _ => none) (cO0 Tryz.f82) (fI [.pv (.ptr ts), .pv (.sl nl fl es)] 0) [] Q = Q .normal [(1, .pv (.sl nl fl es)), (2, .box 0 0), (4, .pv (.sl true true []))] [.box [.pv (.ptr ts)]] := by kernel_rfl
theorem eB1 (Q : Qt) : cR qa zZ 0 22 [2, 5] (fun _ => none) (cO1 Tryz.f82) [(1, .pv (.sl nl fl es)), (2, .box 0 0)] [.box [.pv (.ptr ts)]] Q =
 ACall qa 47 [.pv (.sl nl fl es)] [] fun (r : LV) (h' : Hp) => ∃ (_ : Unit), (r = .own 0 /\ h' = [.sl (21, 1) false nl es]) /\ True /\ Q .normal [(2, .box 0 0), (5, .box 2 0)] [.box [.pv (.ptr ts)], .sl (21, 1) false nl es, .box [.own 1]] := by kernel_rfl
theorem eB2 (Q : Qt) : cR qa zZ 0 22 [2, 5, 12] (fun _ => none) (cO2 Tryz.f82) [(2, .box 0 0), (5, .box 2 0)] [.box [.pv (.ptr ts)], .sl (21, 1) false nl es, .box [.own 1]] Q =
 ACall qa 109 [.pv (.ptr ts), .own 0] [.sl (21, 1) false nl es] fun (r : LV) (h' : Hp) => ∃ (_ : Unit), (r = .fn 132 [.box 2 0, .box 1 0] /\ h' = [.sl (21, 1) false nl es, .box [.pv (.ptr ts)], .box [.own 0]]) /\
  ((((21, 1) : Nat × Nat) = (21, 1) /\ nl = nl /\ es.length = es.length) /\ True) /\ Q .normal [(2, .box 0 0), (5, .box 2 0), (12, .fn 132 [.box 4 0, .box 3 0])] (aN nl (.ptr ts) es) := by kernel_rfl
theorem eB6 (Q : Qt) : cR qa (fun _ => none) 5 22 [4] (fun _ => none) (cO6 Tryz.f82) [(2, .box 0 0), (5, .box 2 0)] (aN nl (.ptr ts) es) Q = Q .normal [(4, .own 1)] (aN nl (.ptr ts) es) := by kernel_rfl
theorem zcl : cM Tryz.f82 = .seq (cO0 Tryz.f82) (.seq (cO1 Tryz.f82) (.seq (.seq (cO2 Tryz.f82) (.block 0 (dB Tryz.f82))) (.seq (cO6 Tryz.f82) .ret))) /\ Tryz.f82.body = some (cM Tryz.f82) /\ Tryz.f82.ntmps = 22 /\
 Tryz.f132.body = some (cM Tryz.f132) /\ Tryz.f132.ntmps = 39 /\ Tryz.f82.results = #[.tmp 4] /\ Tryz.f132.results = #[] /\ Tryz.f82.body.isNone = false /\ (Tryz.f82.name == "runtime.NumGoroutine") = false /\ Tryz.f132.body.isNone = false /\ (Tryz.f132.name == "runtime.NumGoroutine") = false :=
 ⟨by kernel_rfl, by kernel_rfl, by kernel_rfl, by kernel_rfl, by kernel_rfl, by kernel_rfl, by kernel_rfl, by kernel_rfl, by kernel_rfl, by kernel_rfl, by kernel_rfl⟩
variable {key : Int -> Int}
theorem Tr.alloc0 {w : World} {I own : Nat -> Prop} (o : Obj) : Tr w I own (w.alloc o) I own :=
 ⟨rfl, rfl, rfl, by simp, fun b hb _ => dF w o hb, fun _ h => h, fun _ h => .inl h, fun _ h => .inl h, fun a ha => World.frozen?_of_block (dF w o ha), qj _⟩
theorem KA.alloc0 (w : World) (o : Obj) : KA w (w.alloc o) := ⟨by simp, fun b hb => dF w o hb⟩
theorem zvc (hk : ∀ x, 0 <= key x) (hT : ∀ r : Int, (-2147483648 <= r /\ r <= 2147483647) -> PCall qa 71 [.ptr ts, .int .i32 r] fun v => v = .int .i64 (key r)) (hc : kQ (.ptr ts) key) (L : List Int) (hr : R32 L) (hL : L.length < 1000000000000)
 {w3 : World} {I3 : Nat -> Prop} {G3 : Nat -> Pl} {a3 : Act} {v12 : LV} (hs3 : SRel w3 I3 G3 [(2, .box 0 0), (5, .box 2 0), (12, v12)] (aN nl (.ptr ts) (aA L)) 22 a3) (rec : Loop) (r1 : rec.state = .ready) (r2 : rec.pending = none) (r3 : rec.tmps = a3.tmps) (r4 : rec.params = #[13, 14])
 (r5 : rec.assign = iO (dB Tryz.f82)) (r6 : rec.body = iP (dB Tryz.f82)) (vs : Array Value) (hvsz : vs.size = 2) (hvs : ∀ (k : Nat) v, [LV.box 4 0, LV.box 3 0][k]? = some v -> LRel w3 I3 G3 (aN nl (.ptr ts) (aA L)) v (vs.getD k undef)) :
 Calls qa 132 (#[Value.func (.yield (w3.heap.size + 1)) #[] #[]] ++ vs) ((w3.alloc (.deferred (some []))).alloc (.loop rec)) fun e w4 => (∃ v, e = .returned v) /\ ∃ I4 G4, HRel w4 I4 G4 (aN nl (.ptr ts) (aA (cV key L))) /\
  ZR w3 I3 G3 (aN nl (.ptr ts) (aA L)) (w3.heap.size + 1) w3.heap.size rec w4 I4 G4 (aN nl (.ptr ts) (aA (cV key L))) := by
 obtain ⟨k1, k2, k3, k4, k5, k6, k7, k8, k9, k10, k11⟩ := zcl;obtain ⟨W1, hW1⟩ : ∃ W1, W1 = (w3.alloc (.deferred (some []))).alloc (.loop rec) := ⟨_, rfl⟩;rw [<- hW1];have tA : Tr w3 I3 (aO (aN nl (.ptr ts) (aA L)) G3) W1 I3 (aO (aN nl (.ptr ts) (aA L)) G3) := by rw [hW1]; exact (Tr.alloc0 _).trans (Tr.alloc0 _)
 have ka : KA w3 W1 := by rw [hW1]; exact (KA.alloc0 _ _).trans (KA.alloc0 _ _)
 have hl1 : W1.heap[w3.heap.size + 1]? = some (.loop rec) := by rw [hW1]; have := World.alloc_heap_new (w3.alloc (.deferred (some []))) (.loop rec); rwa [World.size_alloc] at this
 have hD1 : W1.heap[w3.heap.size]? = some (.deferred (some [])) := by rw [hW1]; exact (dF _ _ (by simp)).trans (World.alloc_heap_new w3 _)
 have z1 : ZR w3 I3 G3 (aN nl (.ptr ts) (aA L)) (w3.heap.size + 1) w3.heap.size rec W1 I3 G3 (aN nl (.ptr ts) (aA L)) := ⟨(TrH.same tA).toN, hl1, hD1, fun h => by have := hs3.hh.cl _ h; omega, fun h => by have := hs3.hh.cl _ h; omega⟩;have hRd := zu8 hc hs3 rec r1 r2 r3 r4 r5 r6;have hwalk := zu7 hk hT (fun w I G h w' I' G' h' z hh _ t => z.step hh t) L hRd hr hL
 have hsW : SRel W1 I3 G3 (fI [.pv (.raw (Value.func (.yield (w3.heap.size + 1)) #[] #[])), .box 4 0, .box 3 0] 0) (aN nl (.ptr ts) (aA L)) 39 { tmps := (#[Value.func (.yield (w3.heap.size + 1)) #[] #[]] ++ vs) ++ qan (39 - (#[Value.func (.yield (w3.heap.size + 1)) #[] #[]] ++ vs).size) undef, defers := [] } := by
  obtain ⟨y, hy⟩ : ∃ y, y = Value.func (.yield (w3.heap.size + 1)) #[] #[] := ⟨_, rfl⟩;rw [<- hy]
  obtain ⟨x0, x1, rfl⟩ : ∃ x0 x1, vs = #[x0, x1] := by
   obtain ⟨l⟩ := vs
   match l, hvsz with
   | [a, b], _ => exact ⟨a, b, rfl⟩
  have hk : Keeps w3 I3 W1 I3 := ⟨fun b _ hb => ka.2 b hb, fun b hb _ => hb⟩;have h1 := (hvs 0 _ rfl).mono hk (.refl _ _);have h2 := (hvs 1 _ rfl).mono hk (.refl _ _);have e0 : ∀ r : Array Value, (#[y] ++ #[x0, x1] ++ r).getD 0 undef = y := fun r => by rw [qr, qag (by simp)]; rfl
  have e1 : ∀ r : Array Value, (#[y] ++ #[x0, x1] ++ r).getD 1 undef = x0 := fun r => by rw [qr, qag (by simp)]; rfl
  have e2 : ∀ r : Array Value, (#[y] ++ #[x0, x1] ++ r).getD 2 undef = x1 := fun r => by rw [qr, qag (by simp)]; rfl
  refine ⟨hs3.hh.ka ka, ?_, by simp⟩
  have he : ERel W1 I3 G3 (aN nl (.ptr ts) (aA L)) [(0, .pv (.raw y)), (1, .box 4 0), (2, .box 3 0)] (#[y] ++ #[x0, x1] ++ qan (39 - (#[y] ++ #[x0, x1]).size) undef) :=
   ((ERel.nil _ _ _ _ _).cons (s := 2) (v := .box 3 0) (by rw [e2]; exact h2)).cons (s := 1) (v := .box 4 0) (by rw [e1]; exact h1) |>.cons (s := 0) (v := .pv (.raw y)) (by rw [e0]; exact .pv _ _ (.raw _))
  exact he
 refine calls_of_wp Tryz.func132 k4 ?_;rw [k5];refine hwalk W1 I3 G3 _ _ hsW z1 ?_;rintro x e' _ w4 I4 G4 a4 ⟨rfl, rfl⟩ hs4 hd4 z4;exact ⟨hd4, _, results_none k7 _ _ _, ⟨_, rfl⟩, I4, G4, hs4.hh, z4⟩
theorem zvd (hk : ∀ x, 0 <= key x) (L : List Int) {w w3 w4 : World} {I I3 I4 : Nat -> Prop} {G G3 G4 : Nat -> Pl} {a3 : Act} {v12 : LV} (hs3 : SRel w3 I3 G3 [(2, .box 0 0), (5, .box 2 0), (12, v12)] (aN nl (.ptr ts) (aA L)) 22 a3) (hd30 : a3.defers = []) {rec : Loop}
 (ht3 : Tr w I (aO [] G) w3 I3 (aO (aN nl (.ptr ts) (aA L)) G3)) (hh4 : HRel w4 I4 G4 (aN nl (.ptr ts) (aA (cV key L)))) (z4 : ZR w3 I3 G3 (aN nl (.ptr ts) (aA L)) (w3.heap.size + 1) w3.heap.size rec w4 I4 G4 (aN nl (.ptr ts) (aA (cV key L)))) :
 (Code.seq (cO6 Tryz.f82) .ret).wp qa (bodyPostM Fence.wide 0 qa Tryz.f82 fun e w' => ∃ cv r h' I' G', e = .returned cv /\ (r = .own 0 /\ h' = [.sl (21, 1) false nl (aA (cV key L))]) /\ HRel w' I' G' h' /\ LRel w' I' G' h' r cv /\ TrH w I G [] w' I' G' h')
  { tmps := a3.tmps, defers := [{ target := .collected w3.heap.size, args := #[] }] ++ a3.defers } (w4.putObj (w3.heap.size + 1) (.loop { rec with state := .exhausted })) := by
 obtain ⟨k1, k2, k3, k4, k5, k6, k7, k8, k9, k10, k11⟩ := zcl;have hll := (sG (key := key) hk L).len;have n4 := lZ hh4 z4.hl rfl;have l4 := (Array.getElem?_eq_some_iff.1 z4.hl).1
 have z5 : ZR w3 I3 G3 (aN nl (.ptr ts) (aA L)) (w3.heap.size + 1) w3.heap.size { rec with state := .exhausted } (w4.putObj (w3.heap.size + 1) (.loop { rec with state := .exhausted })) I4 G4 (aN nl (.ptr ts) (aA (cV key L))) :=
  ⟨z4.t.off (by omega) _, World.putObj_heap_same l4, (World.putObj_heap_other (by omega)).trans z4.hD, z4.nl, z4.nD⟩
 have hs5 : SRel (w4.putObj (w3.heap.size + 1) (.loop { rec with state := .exhausted })) I4 G4 [(2, .box 0 0), (5, .box 2 0)] (aN nl (.ptr ts) (aA (cV key L))) 22 { tmps := a3.tmps, defers := [{ target := .collected w3.heap.size, args := #[] }] ++ a3.defers } :=
  ⟨hh4.off _ z4.nl n4, fun i v hi => ((hs3.he.mono (sT hs3.hh z4.t.t) (zcj (by simp [hll]) (vZ z4.t))).mono (Keeps.off z4.nl _) (.refl _ _)) i v ((LeE.le (e' := [(2, .box 0 0), (5, .box 2 0)]) ⟨rfl, rfl, trivial⟩) i v hi), hs3.hn⟩
 refine wp_seq (wB (E := [(4, .own 1)]) (Hh := aN nl (.ptr ts) (aA (cV key L))) (eC (Eq.mpr (eB6 _) ⟨rfl, rfl, rfl⟩)) hs5 fun w6 I6 G6 a6 hs6 hd6 ht6 => ?_);have z6 := z5.step hs5.hh ht6;refine wp_ret ?_;show LeavesInM Fence.wide 0 qa _ a6.tmps _ a6.defers .returning w6;rw [hd6, hd30];refine ⟨by simp, .inl ⟨_, _, rfl, run_takeDeferred z6.hD, ?_⟩⟩;refine ⟨_, results_tmp k6 _ _ _, ?_⟩;have hh7 := hs6.hh.off (.deferred none) z6.nD (lZ hs6.hh z6.hD rfl);have hv7 : LRel (w6.putObj w3.heap.size (.deferred none)) I6 G6 (aN nl (.ptr ts) (aA (cV key L))) (.own 1) (a6.tmps.getD 4 undef) := LRel.mono (hs6.he 4 _ rfl) (Keeps.off z6.nD (.deferred none)) (.refl _ _);have hs7 : SRel (w6.putObj w3.heap.size (.deferred none)) I6 G6 [(4, .own 1)] (aN nl (.ptr ts) (aA (cV key L))) 22 a6 := ⟨hh7, (ERel.nil _ _ _ _ _).cons (s := 4) (v := .own 1) hv7, hs6.hn⟩;obtain ⟨s1, s2⟩ := hs7.sub [1] [] rfl;have g2 := LRel.mapV (rM (os := [1])) (Keeps.refl _ _) hv7;have ht := (ht3.trans z6.t.t).off (l := w3.heap.size) ht3.size (.deferred none);exact ⟨_, .own 0, _, I6, _, rfl, ⟨rfl, rfl⟩, s1.hh, g2, ⟨ht.trans (Tr.less s2), qy _, fun o ob ho => by simp at ho⟩⟩
theorem zve (hk : ∀ x, 0 <= key x) (hT : ∀ r : Int, (-2147483648 <= r /\ r <= 2147483647) -> PCall qa 71 [.ptr ts, .int .i32 r] fun v => v = .int .i64 (key r)) (hc : kQ (.ptr ts) key) (L : List Int) (hr : R32 L) (hL : L.length < 1000000000000) :
 ACall qa 82 [.pv (.ptr ts), .pv (.sl nl fl (aA L))] [] fun r h' => r = .own 0 /\ h' = [.sl (21, 1) false nl (aA (cV key L))] := by
 obtain ⟨k1, k2, k3, k4, k5, k6, k7, k8, k9, k10, k11⟩ := zcl;refine ⟨⟨_, Tryz.func82, k8, k9⟩, fun w I G cargs hh hsz hrel => ?_⟩;simp only [qe, qg, qw] at hsz
 have hn : nl = true -> L = [] := fun hn => by
  subst hn;have h1 := hrel 1 _ rfl;generalize cargs.getD 1 undef = c1 at h1;cases h1 with
  | pv _ _ h1 =>
    generalize hes : aA L = es at h1;cases h1 with
    | slnil => exact List.map_eq_nil_iff.1 hes
 refine (callsIn_wide (n := 0)).1 (callsIn_of_wp_marks Tryz.func82 k2 trivial (wpIn_wide.2 ?_));rw [k3]
 have hs : SRel w I G (fI [.pv (.ptr ts), .pv (.sl nl fl (aA L))] 0) [] 22 { tmps := cargs ++ qan (22 - cargs.size) undef, defers := [] } := by
  refine ⟨hh, fun i v hi => ?_, by simp; omega⟩;obtain ⟨_, h2⟩ := pK hi;rw [Nat.sub_zero] at h2;have hlt : i < cargs.size := by have := (List.getElem?_eq_some_iff.1 h2).1; simp at this; omega
  have := hrel i v h2
  have e1 : (cargs ++ qan (22 - cargs.size) undef).getD i undef = cargs.getD i undef := by
   rw [qr, qr, qag hlt]
  simp only [e1];exact VRel.of_plain this
 rw [k1]
 -- what begins it
 refine wp_seq (wB (E := [(1, .pv (.sl nl fl (aA L))), (2, .box 0 0), (4, .pv (.sl true true []))]) (Hh := [.box [.pv (.ptr ts)]]) (eC (Eq.mpr (eB0 _) ⟨rfl, rfl, rfl⟩)) hs fun w1 I1 G1 a1 hs1 hd1 ht1 => ?_);have hs1' := hs1.le (LeE.le (e' := [(1, .pv (.sl nl fl (aA L))), (2, .box 0 0)]) ⟨rfl, rfl, trivial⟩);refine wp_seq (wB (E := [(2, .box 0 0), (5, .box 2 0)]) (Hh := [.box [.pv (.ptr ts)], .sl (21, 1) false nl (aA L), .box [.own 1]]) (eC (Eq.mpr (eB1 _) ((zck nl fl (aA L) (fun h => by rw [hn h]; rfl) ?_).mono fun r h' hq => ⟨(), hq, trivial, rfl, rfl, rfl⟩))) hs1' fun w2 I2 G2 a2 hs2 hd2 ht2 => ?_)
 ·exact ⟨rfl, .inl rfl, fun e he => (by cases he), fun e he => by obtain ⟨x, _, rfl⟩ := List.mem_map.1 (List.mem_of_mem_head? he); rfl, by simp; omega⟩
 refine wp_seq (wp_seq (wB (E := [(2, .box 0 0), (5, .box 2 0), (12, .fn 132 [.box 4 0, .box 3 0])]) (Hh := aN nl (.ptr ts) (aA L)) (eC (Eq.mpr (eB2 _) (zvb nl ts (aA L) ?_))) hs2 fun w3 I3 G3 a3 hs3 hd3 ht3 => ?_))
 ·exact ⟨(), ⟨rfl, rfl⟩, ⟨⟨rfl, rfl, rfl⟩, trivial⟩, rfl, rfl, rfl⟩
 -- the loop
 have hd30 : a3.defers = [] := hd3.trans (hd2.trans hd1);obtain ⟨q1, q2, q3, _, _, _⟩ := zki;refine wp_block ?_;rw [q3]
 obtain ⟨vs, hv12, hvsz, hvs⟩ : ∃ vs : Array Value, a3.tmps.getD 12 undef = .func (.func 132) #[] vs /\ vs.size = 2 /\ ∀ (k : Nat) v, [LV.box 4 0, LV.box 3 0][k]? = some v -> LRel w3 I3 G3 (aN nl (.ptr ts) (aA L)) v (vs.getD k undef) := by
  have := hs3.he 12 _ rfl;generalize a3.tmps.getD 12 undef = cv at this;cases this with
  | fn f cs vs h1 h6 => exact ⟨vs, rfl, h1, h6⟩
 refine (wpIn_wide (n := 0)).1 (wpIn_rangeFunc (F := Fence.wide) fun fn _ => ?_);obtain ⟨rec, hrec⟩ : ∃ rec : Loop, rec = { state := .ready, pending := none, fn := fn, tmps := a3.tmps, params := #[13, 14], assign := iO (dB Tryz.f82), body := iP (dB Tryz.f82), defers := w3.heap.size } := ⟨_, rfl⟩
 refine ⟨w3.heap.size + 1, [{ target := .collected w3.heap.size, args := #[] }], (w3.alloc (.deferred (some []))).alloc (.loop rec), { target := .fn (.func 132) vs, args := #[.func (.yield (w3.heap.size + 1)) #[] #[]] }, (w3.alloc (.deferred (some []))).alloc (.loop rec), 132,
  #[.func (.yield (w3.heap.size + 1)) #[] #[]] ++ vs, (w3.alloc (.deferred (some []))).alloc (.loop rec), ?_, ?_, fun _ _ => trivial, ?_, fun x => (by cases x), ?_⟩
 ·rw [hrec]; exact run_enterLoop_outer _ _ _ _ _
 ·have he : a3.eval (.tmp 12) = .func (.func 132) #[] vs := hv12;simp only [resolve, he];simp [go_sem]
 ·simp only [invoke];exact xF ⟨_, Tryz.func132, k10, k11⟩
 refine (callsIn_wide).2 (Calls.mono (zvc hk hT hc L hr hL hs3 rec (by rw [hrec]) (by rw [hrec]) (by rw [hrec]) (by rw [hrec]) (by rw [hrec]) (by rw [hrec]) vs hvsz hvs) ?_);rintro e w4 ⟨⟨v, rfl⟩, I4, G4, hh4, z4⟩;have hp : rec.pending = none := by rw [hrec]
 refine ⟨none, _, (run_endLoop z4.hl (by rw [hrec]; simp)).trans (congrArg (fun j => Result.ok j _) hp), ?_⟩;exact zvd hk L hs3 hd30 ((ht1.t.trans ht2.t).trans ht3.t) hh4 z4
end
end Go.Eng
namespace Go.Eng
open Go Go.Proofs Go.Eng.Rows
def iT (nl : Bool) (E : LL) : Hp := [.sl (89, 3) true nl E, .dead]
section
variable {E C : LL} {nn fl nl : Bool} {k n : Int}
theorem zvf (K : Env -> Hp -> Prop) : aT qa (fun _ => none) 49 (pX Tryz.f37).toList (pX Tryz.f37).toList (gO nn fl C k) (iT nl E) K = K ((6, .pv (.sl true true [])) :: gO nn fl C k) (iT nl E) := by kernel_rfl
theorem zvg (K : Env -> Hp -> Prop) : aT qa (fun _ => none) 49 (pY Tryz.f37).toList (pY Tryz.f37).toList (gO nn fl C k) (iT nl E) K =
 K ((7, .pv (.int .i64 (i64.wrap ((E.length : Int) - 1)))) :: (10, .pv (.int .i64 (i64.wrap ((E.length : Int) - 1)))) :: (9, .pv (.int .i64 (E.length : Int))) :: (8, .own 0) :: gO nn fl C k) (iT nl E) := by kernel_rfl
theorem zvh (K : Env -> Hp -> Prop) : aT qa (fun _ => none) 49 (pZ Tryz.f37).toList (pZ Tryz.f37).toList (gP nn fl C k n) (iT nl E) K =
 if decide (n >= 0) = true then aI E n 3 /\ ∃ n1 : Int, (qd 0 (E.getD n.toNat [])).head? = some (.int .i64 n1) /\
  K ((21, .pv (.bool (n1 == k))) :: (20, .spec 13 true (.pv (.bool (n1 == k)))) :: (19, .spec 13 true (.pv (.int .i64 k))) :: (18, .pv (.int .i64 n1)) :: (13, .pv (.bool true)) :: (17, .elt 0 n.toNat 0) :: (13, .pv (.bool true)) :: (16, .elt 0 n.toNat 0) :: (13, .pv (.bool true)) ::
   (15, .spec 13 true (.pv (.int .i64 n))) :: (14, .spec 13 true (.own 0)) :: (13, .pv (.bool (decide (n >= 0)))) :: (12, .pv (.bool (decide (n >= 0)))) :: (11, .pv (.int .i64 n)) :: gP nn fl C k n) (iT nl E)
 else K ((21, .pv (.bool false)) :: (20, .pv .unit) :: (13, .pv (.bool false)) :: (19, .spec 13 true (.pv (.int .i64 k))) :: (18, .pv .unit) :: (13, .pv (.bool false)) :: (17, .pv .unit) :: (13, .pv (.bool false)) :: (16, .pv .unit) :: (13, .pv (.bool false)) ::
  (15, .spec 13 true (.pv (.int .i64 n))) :: (14, .spec 13 true (.own 0)) :: (13, .pv (.bool (decide (n >= 0)))) :: (12, .pv (.bool (decide (n >= 0)))) :: (11, .pv (.int .i64 n)) :: gP nn fl C k n) (iT nl E) := by kernel_rfl
theorem zvi (K : Env -> Hp -> Prop) : aT qa zZ 49 (nY Tryz.f37).toList (((nY Tryz.f37).toList.drop 0).take 4) (gO nn fl C k) (iT nl E) K =
 ACall qa 47 [.pv (.sl nn fl C)] [] fun r h' => ∃ _ : Unit, (r = .own 0 /\ h' = [.sl (21, 1) false nn C]) /\ True /\
  K ((45, .own 2) :: (44, .pv (.sl nn fl C)) :: (43, .pv (.int .i64 k)) :: (42, .own 0) :: gO nn fl C k) [.sl (89, 3) true nl E, .dead, .sl (21, 1) false nn C] := by kernel_rfl
def jM (m nl : Bool) (E C : LL) : Hp := [.sl (89, 3) m nl E, .dead, .sl (21, 1) false false C]
theorem zvj (ad : Addr) (l c : Nat) (K : Env -> Hp -> Prop) : aT qa (fun _ => none) 49 (nY Tryz.f37).toList (((nY Tryz.f37).toList.drop 4).take 4) [(45, .pv (.raw (.slice (some ad) l c))), (42, .own 0), (43, .pv (.int .i64 k))] (jM true nl E C) K =
 ((aR [[.int .i64 k, .int .i64 1, .raw (.slice (some ad) l c)]] 3 /\ (E.length + 1) * 40 <= 140737488355328) /\
   K [(6, .own 0), (48, .own 0), (47, .pv (.sl false true [[.int .i64 k, .int .i64 1, .raw (.slice (some ad) l c)]])), (46, .pv (.agg [.int .i64 k, .int .i64 1, .raw (.slice (some ad) l c)])), (45, .pv (.raw (.slice (some ad) l c))), (42, .bot), (43, .pv (.int .i64 k))]
    (jM true (nl && false) (E ++ [[.int .i64 k, .int .i64 1, .raw (.slice (some ad) l c)]]) C)) := by kernel_rfl
theorem zkk : (nY Tryz.f37).size = 8 /\ Tryz.f37.results.toList = [.tmp 6] /\ nA qa 37 :=
 ⟨by kernel_rfl, by kernel_rfl, ⟨Tryz.f37, Tryz.func37, by kernel_rfl, by kernel_rfl⟩⟩
end
theorem zvk {w : World} {I : Nat -> Prop} {nn fl : Bool} {es : LL} {cv : Value} (h : Rep w I (.sl nn fl es) cv) (hne : es ≠ []) : nn = false := by
 cases h <;> first | rfl | exact absurd rfl hne
theorem zvl {w : World} {I : Nat -> Prop} {G : Nat -> Pl} {S : List DStep} {x v : Value} (r : lU 89 21 S x v w I G) : ∃ I2 nl, (nl = true -> S = []) /\ HRel w I2 G (iT nl (S.map encDS)) /\ LRel w I2 G (iT nl (S.map encDS)) (.own 0) v /\ TrH w I G (fA 89 21 S x) w I2 G (iT nl (S.map encDS)) := by
 rcases kO S with rfl | ⟨S, s, rfl⟩
 ·exact ⟨I, true, fun _ => rfl, r.hh, r.hv, .refl _ _ _ _⟩
 ·obtain ⟨I2, g1, g2, g3⟩ := zhi r;refine ⟨I2, false, (fun h => by cases h), ?_⟩;rw [qae];exact ⟨g1, g2, g3⟩
theorem zvm {w : World} {I : Nat -> Prop} {G : Nat -> Pl} {nl : Bool} {E C : LL} (hh : HRel w I G (jM true nl E C)) : ∃ G', HRel w I G' [.sl (89, 3) true nl E, .sl (21, 1) true false C] /\ (∀ v, LRel w I G (jM true nl E C) (.own 0) v -> LRel w I G' [.sl (89, 3) true nl E, .sl (21, 1) true false C] (.own 0) v) /\
 (∀ v, LRel w I G (jM true nl E C) (.own 2) v -> LRel w I G' [.sl (89, 3) true nl E, .sl (21, 1) true false C] (.own 1) v) /\ ∀ b, aO [.sl (89, 3) true nl E, .sl (21, 1) true false C] G' b -> aO (jM true nl E C) G b := by
 refine ⟨fun k => match k with | 0 => G 0 | _ => G 2, ⟨fun i x hx => ?_, fun i j x y hx ax hy ay hb => ?_, fun i x hx ax => ?_, hh.cl⟩, fun v hv => ?_, fun v hv => ?_, ?_⟩
 ·match i, hx with
  | 0, hx => cases hx; have := hh.obs 0 _ rfl; cases nl <;> exact this
  | 1, hx => cases hx; exact hh.obs 2 _ rfl
 ·match i, hx, j, hy with
  | 0, hx, 0, hy => rfl
  | 1, hx, 1, hy => rfl
  | 0, hx, 1, hy => cases hx; cases hy; exact absurd (hh.sep 0 2 _ _ rfl ax rfl ay hb) (by decide)
  | 1, hx, 0, hy => cases hx; cases hy; exact absurd (hh.sep 2 0 _ _ rfl ax rfl ay hb) (by decide)
 ·match i, hx with
  | 0, hx => cases hx; exact hh.nI 0 _ rfl ax
  | 1, hx => cases hx; exact hh.nI 2 _ rfl ax
 ·cases hv with
  | ownNil _ _ _ _ g1 => cases g1; exact .ownNil 0 _ _ _ rfl
  | own _ _ _ es ad g0 g1 => cases g1; exact .own 0 _ _ _ ad g0 rfl
 ·cases hv with
  | ownNil _ _ _ _ g1 => cases g1
  | own _ _ _ es ad g0 g1 => cases g1; exact .own 1 _ _ _ ad g0 rfl
 ·rintro b ⟨o, ob, h1, h2, h3⟩
  match o, h1 with
  | 0, h1 => cases h1; exact ⟨0, _, rfl, h2, h3⟩
  | 1, h1 => cases h1; exact ⟨2, _, rfl, h2, h3⟩
theorem zkl (S : List DStep) (x v cv : Value) (k : Int) (c : List Int) (nn fl : Bool) {w : World} {I : Nat -> Prop} {G : Nat -> Pl} (r : lU 89 21 S x v w I G) (hc : Rep w I (.sl nn fl (aA c)) cv) (hne : c ≠ []) (hcl : c.length < 1000000000) (hS : S.length < 1000000000)
 (hk : ∀ S' s, S = S' ++ [s] -> s.kind ≠ k) :
 Calls qa 37 #[v, .int .i64 k, cv] w fun e w' => ∃ v' x' I' G', e = .returned v' /\ lU 89 21 (S ++ [⟨k, 1, c⟩]) x' v' w' I' G' /\ TrH w I G (fA 89 21 S x) w' I' G' (fA 89 21 (S ++ [⟨k, 1, c⟩]) x') := by
 obtain ⟨I0, nl, hnl, hh, hv, t0⟩ := zvl r;have hnn : nn = false := zvk hc (by cases c with | nil => exact absurd rfl hne | cons => simp [aA])
 subst hnn;have hc : Rep w I0 (.sl false fl (aA c)) cv := hc.mono (fun _ _ _ => rfl) (fun b hb _ => t0.t.i1 b hb);obtain ⟨q0, q1, q2, q3, q4, q5, q6⟩ := zhl;obtain ⟨z1, z2, z3⟩ := zkk;refine zA (args := [.own 0, .pv (.int .i64 k), .pv (.sl false fl (aA c))]) Tryz.func37 zhk (qaw (by kernel_rfl)) hh rfl (fun i u hi => ?_) fun a Qx hs hd hq => ?_
 ·match i, hi with
  | 0, hi => cases hi; exact hv
  | 1, hi => cases hi; exact .pv _ _ (.int _ _)
  | 2, hi => cases hi; exact .pv _ _ hc
 have hs : SRel w I0 G (gO false fl (aA c) k) (iT nl (S.map encDS)) 49 a := hs;refine wp_seq (mP q0 (by rw [zvf]; exact ⟨rfl, rfl⟩ : aT qa (fun _ => none) 49 _ _ _ _ (fun e' h' => e' = _ /\ h' = _)) hs ?_);rintro _ _ w1 I1 G1 a1 ⟨rfl, rfl⟩ hs1 hd1 ht1;refine wp_seq (wp_seq (mP q1 (by rw [zvg, qe]; exact ⟨rfl, rfl⟩ : aT qa (fun _ => none) 49 _ _ _ _ (fun e' h' => e' = _ /\ h' = _)) (hs1.le (e' := gO false fl (aA c) k) (LeE.le ⟨rfl, rfl, rfl, trivial⟩)) ?_));rintro _ _ w2 I2 G2 a2 ⟨rfl, rfl⟩ hs2 hd2 ht2;have hw : i64.wrap ((S.length : Int) - 1) = (S.length : Int) - 1 := aC (by omega) (by omega);rw [hw] at hs2;have hs2 := hs2.le (e' := gP false fl (aA c) k ((S.length : Int) - 1)) (LeE.le ⟨rfl, rfl, rfl, rfl, trivial⟩)
 refine wp_seq (mP q2 (K := fun e' h' => ∃ e0, e' = (21, .pv (.bool false)) :: e0 /\ LeE (gP false fl (aA c) k ((S.length : Int) - 1)) e' /\ h' = iT nl (S.map encDS)) (by
  rw [zvh];rcases kO S with rfl | ⟨S', s, rfl⟩
  ·rw [if_neg (by simp)];exact ⟨_, rfl, ⟨rfl, rfl, rfl, rfl, trivial⟩, rfl⟩
  ·have hl : ((S' ++ [s]).length : Int) - 1 = (S'.length : Nat) := by simp
   rw [hl, if_pos (by simp), qc, qae];have hg := vH (S'.map encDS) (encDS s) [];rw [qe] at hg;refine ⟨z8 _ _ _ (by simp) rfl, s.kind, by show (qd 0 ((S'.map encDS ++ [encDS s]).getD S'.length [])).head? = _; rw [hg]; rfl, ?_⟩;have hb : (s.kind == k) = false := by simpa using hk S' s rfl
   rw [hb]
   exact ⟨_, rfl, ⟨rfl, rfl, rfl, rfl, trivial⟩, rfl⟩) hs2 ?_)
 rintro _ _ w3 I3 G3 a3 ⟨e0, rfl, le0, rfl⟩ hs3 hd3 ht3;refine wp_cond (show a3.eval (.tmp 21) = .bool false from (hs3.he 21 _ rfl).bool_eq) ?_;have hs3 := (hs3.le le0.le).le (e' := gO false fl (aA c) k) (LeE.le ⟨rfl, rfl, rfl, trivial⟩);refine wp_skip ?_;have t3 := ((t0.trans ht1).trans ht2).trans ht3
 refine wp_seq (r7 (Φ := fun a' w' => ∃ x' I' G', SRel w' I' G' [(6, .own 0)] (jM true false (S.map encDS ++ [bE ⟨k, 1, c⟩ x']) (aA c)) 49 a' /\ LRel w' I' G' (jM true false (S.map encDS ++ [bE ⟨k, 1, c⟩ x']) (aA c)) (.own 2) x' /\ a'.defers = [] /\
  Tr w I (aO (fA 89 21 S x) G) w' I' (aO (jM true false (S.map encDS ++ [bE ⟨k, 1, c⟩ x']) (aA c)) G')) ?_ ?_)
 ·refine OpsN.step q6 4 (by rw [z1]; omega) (K := fun e' h' => LeE [(45, .own 2), (42, .own 0), (43, .pv (.int .i64 k))] e' /\ h' = jM true nl (S.map encDS) (aA c)) (by
   rw [zvi];refine (zck false fl (aA c) (fun h => by cases h) ?_).mono ?_
   ·show lE true [] (aA c) 1 4;exact ⟨rfl, .inl rfl, fun e he => (by cases he), nO (enc := fun n => [.int .i32 n]) (fun _ => rfl) c, by rw [zaa, qw]; omega⟩
   ·rintro r h' ⟨rfl, rfl⟩
    exact ⟨(), ⟨rfl, rfl⟩, trivial, ⟨rfl, rfl, rfl, trivial⟩, rfl⟩) hs3 ?_
  rintro e4 _ w4 I4 G4 a4 ⟨le4, rfl⟩ hs4 hd4 ht4;have hs4 := hs4.le le4.le;have hx4 : LRel w4 I4 G4 (jM true nl (S.map encDS) (aA c)) (.own 2) (a4.tmps.getD 45 undef) := hs4.he 45 _ rfl;obtain ⟨ad, l, c0, ex⟩ := zhj hx4 rfl;rw [ex] at hx4;have hs5 := (hs4.view (d := 45) (v := .pv (.raw (.slice (some ad) l c0))) (by rw [ex]; exact .pv _ _ (.raw _))).le (e' := [(45, .pv (.raw (.slice (some ad) l c0))), (42, .own 0), (43, .pv (.int .i64 k))]) (LeE.le ⟨rfl, rfl, rfl, trivial⟩)
  refine OpsN.step (k := 0 + 4) q6 4 (by rw [z1]; omega) (K := fun e' h' => LeE [(6, .own 0)] e' /\ h' = jM true false (S.map encDS ++ [bE ⟨k, 1, c⟩ (.slice (some ad) l c0)]) (aA c)) (by
   rw [zvj];refine ⟨⟨fun e he => by cases he; rfl, by rw [qe]; omega⟩, ⟨rfl, trivial⟩, ?_⟩
   rw [Bool.and_false]; rfl) hs5 ?_
  rintro e6 _ w6 I6 G6 a6 ⟨le6, rfl⟩ hs6 hd6 ht6;refine OpsN.last (by rw [z1]; omega) ⟨_, I6, G6, hs6.le le6.le, mQ hx4 rfl rfl rfl ht6, ?_, ((t3.trans ht4).trans ht6).t⟩;rw [hd6, hd4, hd3, hd2, hd1, hd]
 rintro a8 w8 ⟨x', I8, G8, hs8, hx8, hd8, t8⟩;obtain ⟨u, hu, cv', g1, g2⟩ := pJ (P := qa) (fn := Tryz.f37) (K := fun u => u = .own 0) hs8.hh hs8.he (by rw [z2]; exact rfl);subst hu;obtain ⟨G9, p1, p2, p3, p4⟩ := zvm hs8.hh;refine wp_ret ((hq a8 w8 hd8 ⟨cv', g1, cv', x', I8, G9, rfl, ⟨?_, ?_, fun _ => ?_⟩, ⟨?_, ?_, fun o ob' ho h1 h2 => ?_⟩⟩).2)
 ·rw [jH]; exact p1
 ·rw [jH]; exact p2 _ g2
 ·rw [jH]; exact p3 _ hx8
 ·rw [jH]; exact t8.trans (Tr.less p4)
 ·rw [jH];rcases kO S with rfl | ⟨S', s, rfl⟩
  ·exact qj _
  ·rw [jH]; exact qj _
 ·rw [jH] at h1
  match o, h1 with
  | 0, h1 => cases h1; cases h2
  | 1, h1 => cases h1; cases h2
theorem zcm : zX qa 37 89 21 := by
 refine ⟨zkk.2.2, fun w I G S x v cv k c nn fl r hc hne hcl hk hS hb => ?_⟩;rcases kO S with rfl | ⟨S', s, rfl⟩
 ·exact zkl [] x v cv k c nn fl r hc hne hcl hS (fun S' s h => by simp at h)
 ·rw [pV];by_cases e : s.kind = k
  ·subst e;rw [if_pos rfl];exact zrs S' s x v cv c nn fl r hc hcl (by simp at hS; omega) (hb s (by simp))
  ·rw [if_neg e]
   exact zkl (S' ++ [s]) x v cv k c nn fl r hc hne hcl hS (fun S'' s' h => by
    have := List.append_inj' h rfl;have h2 : s = s' := by simpa using this.2
    rw [<- h2]; exact e)
end Go.Eng
namespace Go.Eng
open Go Go.Eng.Rows
section
variable {H : Nat -> Option HSpec} {tS tr : Nat} {w0 : World} {I0 : Nat -> Prop} {P : Program} {N : Nat}
theorem CodeY.regAdd {f : Nat} (ha : zX P f tS tr) {ops : Array Oper} {id : Nat} (hd : c9 ops.toList = true) {kc : Nat} {o : Oper} (ho : ops[kc]? = some o) (hg : o.guard = none) {d : Nat} (hdst : o.dst = some d) (hdN : d < N) {c : Call} (hop : o.op = .call c) (hcal : c.callee = .value (.func f))
 {x0 x2 : Operand} {kk : Int} (hargs : c.args = #[x0, .const (.int .i64 kk), x2]) (hk : 0 <= kk /\ kk < 3) {s : List DStep × Value} (hS : s.1.length < 1000000000) (hb : ∀ d ∈ s.1, 0 <= d.n /\ d.n < 1000000000000 /\ d.text.length < 1000000000000) {e : Env} {h : Hp} {Q : List DStep × Value -> Qt}
 (hpre : aT P H N ops.toList ((ops.toList.drop 0).take kc) e h fun e1 h1 => aV [] e1 x0 = some (.pv (.raw s.2)) /\ ∃ nn fl c, aV [] e1 x2 = some (.pv (.sl nn fl (aA c))) /\ c ≠ [] /\ c.length < 1000000000 /\
  ∀ v', aT P H N ops.toList ((ops.toList.drop (kc + 1)).take (ops.size - (kc + 1))) (set e1 d (.pv (.raw v'))) h1 fun e2 h2 => Q (dA s.1 (kk, c), v') .normal e2 h2) :
 CodeY (OutZ tS tr w0 I0) P N (.region id ops false) s e h Q := by
 intro w I G a Qx hs hz hq;have hlt : kc < ops.size := (Array.getElem?_eq_some_iff.1 ho).1;refine r7 (Φ := fun a' w' => ∃ s' e' h' I' G', Q s' .normal e' h' /\ SRel w' I' G' e' h' N a' /\ a'.defers = a.defers /\ OutZ tS tr w0 I0 s' w' I' G' h') ?_ (fun a' w' ⟨s', e', h', I', G', q1, q2, q3, q4⟩ => hq s' .normal e' h' w' I' G' a' q1 q2 q3 q4);refine OpsN.step hd kc (by omega) hpre hs ?_;rintro e1 h1 w1 I1 G1 a1 ⟨p0, nn, fl, cc, p2, hne, hcl, hpost⟩ hs1 hd1 ht1;have hz1 := OutZ.stab _ _ _ _ _ _ _ _ _ hz hs.hh hs1.hh (ht1.toN (n0 := 0))
 have v0 : a1.eval x0 = s.2 := by
  have := aM hs1.he (AOK.nil _) p0;generalize a1.eval x0 = u at this ⊢;cases this with | pv _ _ h => cases h; rfl
 have v2 : Rep w1 I1 (.sl nn fl (aA cc)) (a1.eval x2) := by
  have := aM hs1.he (AOK.nil _) p2;cases this with | pv _ _ h => exact h
 have hrun := tW (P := P) (w := w1) hop hcal (a := a1) (f := f) (cc := #[]) rfl ha.1;rw [hargs] at hrun
 have e3 : (#[x0, Operand.const (.int .i64 kk), x2].map a1.eval ++ #[] : Array Value) = #[s.2, .int .i64 kk, a1.eval x2] := by
  rw [<- v0]; simp [Act.eval]
 rw [e3] at hrun;rw [qbf];refine OpsN.call (R := fun cv w' => ∃ I', HRel w' I' G1 h1 /\ Keeps w1 I1 w' I' /\ OutZ tS tr w0 I0 (dA s.1 (kk, cc), cv) w' I' G1 h1) ho hg hrun ((OutZ.call ha hz1 hs1.hh v2 hne hcl hk hS hb).mono fun e w' ⟨v', I', q1, q2, q3, q4⟩ => ⟨v', q1, I', q2, q3, q4⟩) ?_;rintro cv w2 ⟨I2, g1, g2, g3⟩;obtain ⟨hs2, hd2⟩ := kE (o := o) (v := .pv (.raw cv)) (N := N) (by unfold iK; rw [hdst]; simp [hdN]) hs1.hn g1 (hs1.he.mono g2 (.refl _ _)) (.pv _ _ (.raw cv));have hput : put o (.pv (.raw cv)) e1 = set e1 d (.pv (.raw cv)) := by unfold put; rw [hdst]
 rw [hput] at hs2;refine OpsN.step hd (ops.size - (kc + 1)) (by omega) (hpost cv) hs2 ?_;rintro e3 h3 w3 I3 G3 a3 hQ hs3 hd3 ht3;refine OpsN.last (by omega) ⟨_, e3, h3, I3, G3, hQ, hs3, ?_, OutZ.stab _ _ _ _ _ _ _ _ _ g3 g1 hs3.hh (ht3.toN (n0 := 0))⟩;rw [hd3, hd2, hd1]
theorem CodeY.region {id : Nat} {ops : Array Oper} {s : List DStep × Value} {e : Env} {h : Hp} {Q : List DStep × Value -> Qt} (hK : aT P H N ops.toList ops.toList e h (fun e h => Q s .normal e h)) (hd : c9 ops.toList = true) : CodeY (OutZ tS tr w0 I0) P N (.region id ops false) s e h Q := by
 intro w I G a Qx hs hz hq;refine r7 (Φ := fun a' w' => ∃ e' h' I' G', Q s .normal e' h' /\ SRel w' I' G' e' h' N a' /\ a'.defers = a.defers /\ OutZ tS tr w0 I0 s w' I' G' h') ?_ (fun a' w' ⟨e', h', I', G', q1, q2, q3, q4⟩ => hq s .normal e' h' w' I' G' a' q1 q2 q3 q4);refine OpsN.step hd ops.size (by omega) (K := fun e h => Q s .normal e h) (by rw [qbs, qh (by simp)]; exact hK) hs fun e' h' w' I' G' a' k1 k2 k3 k4 => OpsN.last (by omega) ⟨e', h', I', G', k1, k2, k3, OutZ.stab _ _ _ _ _ _ _ _ _ hz hs.hh k2.hh (k4.toN (n0 := 0))⟩
theorem CodeY.nilRaw {c : Code} {s : List DStep × Value} {e : Env} {h : Hp} {Q : List DStep × Value -> Qt} {d : Nat} {fl : Bool} (hg : get e d = some (.pv (.sl true fl []))) (hK : CodeY (OutZ tS tr w0 I0) P N c s ((d, .pv (.raw (.slice none 0 0))) :: e) h Q) : CodeY (OutZ tS tr w0 I0) P N c s e h Q := by
 intro w I G a Qx hs hz hq;have hv : LRel w I G h (.pv (.sl true fl [])) (a.tmps.getD d undef) := hs.he d _ hg;refine hK w I G a Qx (hs.view (d := d) ?_) hz hq;generalize a.tmps.getD d undef = u at hv ⊢;cases hv with
 | pv _ _ h =>
   cases h;exact .pv _ _ (.raw _)
def wC (v : LV) (p : PV) : Prop := v = .pv p ∨ ∃ ps : List PV, v = .tup (ps.map .pv) /\ p = .tup ps
theorem zvn {w : World} {I : Nat -> Prop} {G : Nat -> Pl} {h : Hp} {v : LV} {cv : Value} {p : PV} (hr : LRel w I G h v cv) (hp : wC v p) : Rep w I p cv := by
 rcases hp with rfl | ⟨ps, rfl, rfl⟩
 ·cases hr; assumption
 ·cases hr with
  | tup _ vs h1 h6 =>
    refine .tup ps vs (by simpa using h1) fun k u hk => ?_
    have := h6 k (.pv u) (by rw [qbj, hk]; rfl);generalize vs.getD k undef = y at this ⊢;cases this; assumption
def zkm (P : Program) (rs : List ResultVar) (R : PV -> Prop) (s : List DStep × Value) (e : Env) (h : Hp) : Prop :=
 gH P e h rs (jS fun v => ∃ p, wC v p /\ R p) ∨ (get e 6 = some (.pv (.raw s.2)) /\ ∀ nl, (nl = true -> s.1 = []) -> gH P ((6, .pv (.sl nl false (s.1.map encDS))) :: e) h rs (jS fun v => ∃ p, wC v p /\ R p))
theorem PCall.ofY {f : Nat} {fn : Func} {c : Code} {ps : List PV} {R : PV -> Prop} (hf : P.funcs[f]? = some fn) (hb : fn.body = some c) (hn : (fn.name == "runtime.NumGoroutine") = false) (hl : (ps.map LV.pv).length <= fn.ntmps)
 (hC : ∀ w0 I0, CodeY (OutZ tS tr w0 I0) P fn.ntmps c ([], .slice none 0 0) (fI (ps.map .pv) 0) [] fun s x e h => match x with | .exit _ => False | _ => zkm P fn.results.toList R s e h) : PCall P f ps R := by
 refine ⟨⟨fn, hf, by rw [hb]; rfl, hn⟩, fun w I G cargs hh hsz hrel => ?_⟩;refine zA hf hb hl hh hsz hrel fun a Qx hs hd hq => ?_;have noOwn : ∀ b, ¬ aO [] G b := fun b ⟨o, ob, h1, _⟩ => by simp at h1
 have hz : OutZ tS tr w I ([], .slice none 0 0) w I G [] := by
  refine ⟨⟨rfl, rfl, rfl, qj _, fun _ _ _ => rfl, fun _ h => h, fun _ h => .inl h, fun b hb => (noOwn b hb).elim, fun _ _ => rfl, qj _⟩, .slice none 0 0, fun _ => ⟨0, 0, 0, 0⟩, ?_, ?_⟩
  ·have dead : ∀ (o : Nat) ob, (fA tS tr [] (.slice none 0 0))[o]? = some ob -> ¬ ob.alive ⟨0, 0, 0, 0⟩ := fun o ob ho ha => by
    match o, ho with
    | 0, ho => cases ho; cases ha.1
    | 1, ho => cases ho; exact ha
   refine ⟨⟨fun o ob ho => ?_, fun o o' ob ob' ho ha => (dead o ob ho ha).elim, fun o ob ho ha => (dead o ob ho ha).elim, hh.cl⟩, .ownNil 0 _ _ _ rfl, fun h => absurd rfl h⟩
   match o, ho with
   | 0, ho => cases ho; rfl
   | 1, ho => cases ho; trivial
  ·rintro b ⟨o, ob, ho, ha, _⟩
   match o, ho with
   | 0, ho => cases ho; cases ha.1
   | 1, ho => cases ho; exact ha.elim
 refine hC w I w I G a Qx hs hz fun s x e' h' w' I' G' a' hk hs' hd' hz' => ?_
 have fin : zkm P fn.results.toList R s e' h' -> ∃ cv, (results fn a'.tmps).run P w' = .ok cv w' /\ ∃ cv' r h2 I2 G2, Ending.returned cv = .returned cv' /\ (∃ v, r = .pv v /\ R v) /\ HRel w' I2 G2 h2 /\ LRel w' I2 G2 h2 r cv' /\ TrH w I G [] w' I2 G2 h2 := by
  have done : ∀ {e2 : Env} {I2 : Nat -> Prop}, SRel w' I2 G' e2 h' fn.ntmps a' -> Tr w I (fun _ => False) w' I2 (aO h' G') -> gH P e2 h' fn.results.toList (jS fun v => ∃ p, wC v p /\ R p) -> ∃ cv, (results fn a'.tmps).run P w' = .ok cv w' /\ ∃ cv' r h2 I2 G2, Ending.returned cv = .returned cv' /\ (∃ v, r = .pv v /\ R v) /\ HRel w' I2 G2 h2 /\ LRel w' I2 G2 h2 r cv' /\ TrH w I G [] w' I2 G2 h2 := fun {e2 I2} hs2 t hr => by
   obtain ⟨v, ⟨p, hvp, hp⟩, cv, g1, g2⟩ := pJ (P := P) hs2.hh hs2.he hr;refine ⟨cv, g1, cv, .pv p, [], I2, G', rfl, ⟨p, rfl, hp⟩, HRel.nil _ hs2.hh.cl, ?_, ⟨⟨t.os, t.tape, t.output, t.size, fun b hb _ => t.keep b hb (fun x => x), t.i1, fun b hb => (t.i2 b hb).elim .inl fun x => x.elim False.elim fun x => .inr (.inr x), fun b ⟨o, ob, h1, _⟩ => by simp at h1, t.frz, t.drawn⟩, qy _, fun o ob' ho => by simp at ho⟩⟩;exact .pv _ _ (zvn g2 hvp)
  rintro (hr | ⟨h6, hr⟩)
  ·exact done hs' hz'.1 hr
  ·obtain ⟨I2, nl, q1, q2, q3, q4, q5⟩ := hz'.tree hs'.hh
   have h6v : a'.tmps.getD 6 undef = s.2 := by
    have : LRel w' I' G' h' (.pv (.raw s.2)) (a'.tmps.getD 6 undef) := hs'.he 6 _ h6;generalize a'.tmps.getD 6 undef = u at this ⊢;cases this with | pv _ _ h => cases h; rfl
   have hs2 : SRel w' I2 G' e' h' fn.ntmps a' := ⟨q3, hs'.he.mono q4 (.refl _ _), hs'.hn⟩;exact done (hs2.view (d := 6) (v := .pv (.sl nl false (s.1.map encDS))) (by rw [h6v]; exact .pv _ _ q2)) q5 (hr nl q1)
 cases x with
 | exit n => exact hk.elim
 | normal => exact (hq a' w' (hd'.trans hd) (fin hk)).1
 | ret => exact (hq a' w' (hd'.trans hd) (fin hk)).2
end
end Go.Eng
namespace Go.Eng
open Go Go.Proofs
section
variable (na fa : Bool) (xa : LL) (nb fb : Bool) (xb : LL) (nl fl : Bool) (ls : LL) (i k : Int)
def zkn (R : PV -> Prop) : Prop :=
 ∃ n f es, some (PV.sl nb fb xb) = some (PV.sl n f es) /\ R (Z6 (i64.wrap (i64.wrap (i * i64.wrap ((↑es.length : Int) + 1)) + k)))
theorem zvo {R : PV -> Prop} (h : zkn nb fb xb i k R) : PCall qa 38 [.ptr [.sl na fa xa, .sl nb fb xb, .sl nl fl ls], .int .i64 i, .int .i64 k] R :=
 PCall.wz Tryz.func38 aP [0, 1, 2, 6] bG h
end
def zcn (na fa : Bool) (xa : LL) (nb fb : Bool) (xb : LL) (x2 : Int) (n_1 : Bool) (s_1 : LL) : Env × Hp := ([(0, LV.box 0 0), (2, Y6 x2)], [.box [LV.pv (PV.sl na fa xa), LV.pv (PV.sl nb fb xb), LV.own 1], .sl (3, 1) true n_1 s_1])
def zco (na fa : Bool) (xa : LL) (nb fb : Bool) (xb : LL) (x2 x3 : Int) (n_1 : Bool) (s_1 : LL) : Env × Hp := ([(0, LV.box 0 0), (2, Y6 x2), (3, Y6 x3)], [.box [LV.pv (PV.sl na fa xa), LV.pv (PV.sl nb fb xb), LV.own 1], .sl (3, 1) true n_1 s_1])
section
variable (na fa : Bool) (xa : LL) (nb fb : Bool) (xb : LL) (J : Int -> Bool -> LL -> Prop) (μ : Int -> Bool -> LL -> Nat) (J2 : Int -> Int -> Bool -> LL -> Int -> Int -> Bool -> LL -> Prop) (μ2 : Int -> Int -> Bool -> LL -> Nat)
def zko (R : LV -> Hp -> Prop) : Prop :=
 ((0 : Int) <= i64.wrap (i64.wrap ((↑xa.length : Int) + 1) * i64.wrap ((↑xb.length : Int) + 1)) /\ i64.wrap (i64.wrap ((↑xa.length : Int) + 1) * i64.wrap ((↑xb.length : Int) + 1)) <= i64.wrap (i64.wrap ((↑xa.length : Int) + 1) * i64.wrap ((↑xb.length : Int) + 1)) /\ (↑8 : Int) * i64.wrap (i64.wrap ((↑xa.length : Int) + 1) * i64.wrap ((↑xb.length : Int) + 1)) <= 281474976710656 /\ i64.wrap (i64.wrap ((↑xa.length : Int) + 1) * i64.wrap ((↑xb.length : Int) + 1)) <= 9223372036854775807) /\ (aH (zcn na fa xa nb fb xb (i64.wrap ((↑xa.length : Int) - 1)) false (qap (i64.wrap (i64.wrap ((↑xa.length : Int) + 1) * i64.wrap ((↑xb.length : Int) + 1))).toNat [Z6 0])) /\ J (i64.wrap ((↑xa.length : Int) - 1)) false (qap (i64.wrap (i64.wrap ((↑xa.length : Int) + 1) * i64.wrap ((↑xb.length : Int) + 1))).toNat [Z6 0])) /\ ∀ (x2 : Int) (n_1 : Bool) (s_1 : LL), J x2 n_1 s_1 -> if decide (x2 >= 0) = true then (aH (zco na fa xa nb fb xb x2 (i64.wrap ((↑xb.length : Int) - 1)) n_1 s_1) /\ J2 x2 (i64.wrap ((↑xb.length : Int) - 1)) n_1 s_1 x2 (i64.wrap ((↑xb.length : Int) - 1)) n_1 s_1) /\ ∀ (x21 x3 : Int) (n_11 : Bool) (s_11 : LL), J2 x2 (i64.wrap ((↑xb.length : Int) - 1)) n_1 s_1 x21 x3 n_11 s_11 ->
 let K5 := fun (y0_ y1_ : Int) (y2_ : Bool) (y3_ : LL) => aH (zco na fa xa nb fb xb y0_ y1_ y2_ y3_) /\ J2 x2 (i64.wrap ((↑xb.length : Int) - 1)) n_1 s_1 y0_ y1_ y2_ y3_ /\ μ2 y0_ y1_ y2_ y3_ < μ2 x21 x3 n_11 s_11; if decide (x3 >= 0) = true then aI xa x21 1 /\ ∃ n f es, (xa.getD x21.toNat []).head? = some (PV.sl n f es) /\ aI xb x3 1 /\ ∃ n1 f1 es1, (xb.getD x3.toNat []).head? = some (PV.sl n1 f1 es1) /\ PCall qa 36 [PV.sl n f es, PV.sl n1 f1 es1] fun v => ∃ b, v = Zb b /\ if b = true then PCall qa 38 [PV.ptr [PV.sl na fa xa, PV.sl nb fb xb, PV.sl n_11 false s_11], Z6 x21, Z6 x3] fun v1 => ∃ n2, v1 = Z6 n2 /\ true = true /\ PCall qa 38 [PV.ptr [PV.sl na fa xa, PV.sl nb fb xb, PV.sl n_11 false s_11], Z6 (i64.wrap (x21 + 1)), Z6 (i64.wrap (x3 + 1))] fun v2 => ∃ n3, v2 = Z6 n3 /\ true = true /\ aI s_11 n3 1 /\ ∃ n4, (qd 0 (s_11.getD n3.toNat [])).head? = some (Z6 n4) /\ aI s_11 n2 1 /\ (1 = 1 /\ 1 <= (s_11.getD n2.toNat []).length) /\ K5 x21 (i64.wrap (x3 - 1)) n_11 (s_11.set n2.toNat (Z6 (i64.wrap (n4 + 1)) :: (qd 1 (s_11.getD n2.toNat [])))) else PCall qa 38 [PV.ptr [PV.sl na fa xa, PV.sl nb fb xb, PV.sl n_11 false s_11], Z6 x21, Z6 x3] fun v1 => ∃ n2, v1 = Z6 n2 /\ true = true /\ PCall qa 38 [PV.ptr [PV.sl na fa xa, PV.sl nb fb xb, PV.sl n_11 false s_11], Z6 (i64.wrap (x21 + 1)), Z6 x3] fun v2 => ∃ n3, v2 = Z6 n3 /\ true = true /\ aI s_11 n3 1 /\ ∃ n4, (qd 0 (s_11.getD n3.toNat [])).head? = some (Z6 n4) /\ PCall qa 38 [PV.ptr [PV.sl na fa xa, PV.sl nb fb xb, PV.sl n_11 false s_11], Z6 x21, Z6 (i64.wrap (x3 + 1))] fun v3 => ∃ n5, v3 = Z6 n5 /\ true = true /\ aI s_11 n5 1 /\ ∃ n6, (qd 0 (s_11.getD n5.toNat [])).head? = some (Z6 n6) /\ aI s_11 n2 1 /\ (1 = 1 /\ 1 <= (s_11.getD n2.toNat []).length) /\ K5 x21 (i64.wrap (x3 - 1)) n_11 (s_11.set n2.toNat (Z6 (if n4 < n6 then n6 else n4) :: (qd 1 (s_11.getD n2.toNat [])))) else aH (zcn na fa xa nb fb xb (i64.wrap (x21 - 1)) n_11 s_11) /\ J (i64.wrap (x21 - 1)) n_11 s_11 /\ μ (i64.wrap (x21 - 1)) n_11 s_11 < μ x2 n_1 s_1 else R (LV.tup []) [Ob.box [LV.pv (PV.sl na fa xa), LV.pv (PV.sl nb fb xb), LV.own 1], Ob.sl (3, 1) true n_1 s_1]
theorem zvp {R : LV -> Hp -> Prop} (h : zko na fa xa nb fb xb J μ J2 μ2 R) : ACall qa 35 [.box 0 0] [.box [.pv (.sl na fa xa), .pv (.sl nb fb xb), .pv (.sl true true [])]] R :=
 ACall.wz Tryz.func35 aP [0, 2, 3, 28, 38, 55] (iL [(2, (bP eH (zcn na fa xa nb fb xb) J μ (fun e h => (gI e 2, oN h 1, oS h 1)) [] [0, 2] [])), (5, (hE jD (zco na fa xa nb fb xb) J2 μ2 (fun e h => (gI e 2, gI e 3, oN h 1, oS h 1)) [] [0, 2, 3] []))]) [0, 1] h
end
def zcp (n f : Bool) (es : LL) (x3 x8 : Int) : Env × Hp := ([(3, Y6 x3), (6, LV.pv (PV.sl n f es)), (7, LV.pv (PV.int i64 (es.length : Int))), (8, Y6 x8)], [])
section
variable (n f : Bool) (es : LL) (J : Int -> Int -> Prop) (μ : Int -> Int -> Nat)
def zkp (R : PV -> Prop) : Prop :=
 (aH (zcp n f es (0 : Int) (0 : Int)) /\ J (0 : Int) (0 : Int)) /\ ∀ (x3 x8 : Int), J x3 x8 ->
 let K3 := fun (y0_ y1_ : Int) => aH (zcp n f es y0_ y1_) /\ J y0_ y1_ /\ μ y0_ y1_ < μ x3 x8; if decide (x8 < (↑es.length : Int)) = true then aI es x8 3 /\ ∃ n1, (es.getD x8.toNat []).head? = some (Z6 n1) /\ ∃ n2, (es.getD x8.toNat []).tail.head? = some (Z6 n2) /\ ∃ n3 f1 es1, (es.getD x8.toNat []).tail.tail.head? = some (PV.sl n3 f1 es1) /\ if (n1 != 0) = true then K3 (i64.wrap (x3 + n2)) (i64.wrap (x8 + 1)) else K3 x3 (i64.wrap (x8 + 1)) else R (Z6 x3)
theorem zvq {R : PV -> Prop} (h : zkp n f es J μ R) : PCall qa 15 [.sl n f es] R :=
 PCall.wz Tryz.func15 aP [0, 2, 3, 5, 6, 7, 8, 9, 14] (dC 3 (bP kH (zcp n f es) J μ (fun e h => (gI e 3, gI e 8)) [] [3, 6, 7, 8] [])) h
end
def wD (n f : Bool) (es : LL) (x8 : Int) (n_0 : Bool) (s_0 : LL) : Env × Hp := ([(3, LV.own 0), (6, LV.pv (PV.sl n f es)), (7, LV.pv (PV.int i64 (es.length : Int))), (8, Y6 x8)], [.sl (89, 3) true n_0 s_0])
section
variable (n f : Bool) (es : LL) (J : Int -> Bool -> LL -> Prop) (μ : Int -> Bool -> LL -> Nat)
def zkq (R : PV -> Prop) : Prop :=
 (aH (wD n f es (0 : Int) true []) /\ J (0 : Int) true []) /\ ∀ (x8 : Int) (n_0 : Bool) (s_0 : LL), J x8 n_0 s_0 ->
 let K3 := fun (y0_ : Int) (y1_ : Bool) (y2_ : LL) => aH (wD n f es y0_ y1_ y2_) /\ J y0_ y1_ y2_ /\ μ y0_ y1_ y2_ < μ x8 n_0 s_0; if decide (x8 < (↑es.length : Int)) = true then aI es x8 3 /\ ∃ n1, (es.getD x8.toNat []).head?
  = some (Z6 n1) /\ ∃ n2, (es.getD x8.toNat []).tail.head? = some (Z6 n2) /\ ∃ n3 f1 es1, (es.getD x8.toNat []).tail.tail.head? = some (PV.sl n3 f1 es1) /\
 let V1 := PCall qa 47 [PV.sl n3 f1 es1] fun v => ∃ n4 f2 es2, v = PV.sl n4 f2 es2 /\ (aR [[Z6 (i64.wrap ((3 : Int) - n1)), Z6 n2, PV.sl n4 f2 es2]] 3 /\ (s_0.length + 1) * 40 <=
  140737488355328) /\ K3 (i64.wrap (x8 + 1)) (n_0 && false) (s_0 ++ [[Z6 (i64.wrap ((3 : Int) - n1)), Z6 n2, PV.sl n4 f2 es2]]); if (n1 == 1) = true then V1 else if (n1 == 2) = true then V1 else PCall qa 47 [PV.sl n3
  f1 es1] fun v => ∃ n4 f2 es2, v = PV.sl n4 f2 es2 /\ (aR [[Z6 n1, Z6 n2, PV.sl n4 f2 es2]] 3 /\ (s_0.length + 1) * 40 <= 140737488355328) /\ K3 (i64.wrap (x8 + 1)) (n_0 && false) (s_0 ++ [[Z6
  n1, Z6 n2, PV.sl n4 f2 es2]]) else R (PV.sl n_0 false s_0)
theorem zvr {R : PV -> Prop} (h : zkq n f es J μ R) : PCall qa 17 [.sl n f es] R :=
 PCall.wz Tryz.func17 aP [0, 2, 3, 5, 6, 7, 8, 9, 19] (dC 3 (bP eH (wD n f es) J μ (fun e h => (gI e 8, oN h 0, oS h 0)) [(3, 89, 3)] [3, 6, 7, 8] [])) h
end
def zcq (n2 f2 : Bool) (ss : LL) (n1 f1 : Bool) (s1 : LL) (x16 : Int) (n_0 : Bool) (s_0 : LL) : Env × Hp := ([(1, .pv (.sl n1 f1 s1)), (8, LV.own 0), (14, LV.pv (PV.sl n2 f2 ss)), (15, LV.pv (PV.int i64 (ss.length : Int))), (16, Y6 x16)], [.sl (21, 1) true n_0 s_0])
section
variable (tc tg tj tf tp : PV) (M S : List (PV × PV)) (n f : Bool) (es : LL) (n2 f2 : Bool) (ss : LL) (J : Bool -> Bool -> LL -> Int -> Bool -> LL -> Prop) (μ : Bool -> Bool -> LL -> Int -> Bool -> LL -> Nat)
def zkr (R : PV -> Prop) : Prop :=
 PCall qa 34 [PV.ptr [tc, tg, tj, tf, tp, PV.mp M, PV.mp S], PV.sl n f es] fun v => ∃ n1 f1 es1, v = PV.sl n1 f1 es1 /\ (aH (zcq n2 f2 ss n1 f1 es1 (0 : Int) true []) /\ J n1 f1 es1 (0 : Int) true []) /\ ∀ (n11 f11 : Bool) (s1 : LL) (x16 : Int) (n_0 : Bool) (s_0 : LL), J n11 f11 s1 x16 n_0 s_0 ->
 let K4 := fun (y0_ y1_ : Bool) (y2_ : LL) (y3_ : Int) (y4_ : Bool) (y5_ : LL) => aH (zcq n2 f2 ss y0_ y1_ y2_ y3_ y4_ y5_) /\ J y0_ y1_ y2_ y3_ y4_ y5_ /\ μ y0_ y1_ y2_ y3_ y4_ y5_ < μ n11 f11 s1 x16 n_0 s_0; if decide (x16 < (↑ss.length : Int)) = true then aI ss x16 3 /\ ∃ n3, (ss.getD x16.toNat []).head? = some (Z6 n3) /\ ∃ n4, (ss.getD x16.toNat []).tail.head? = some (Z6 n4) /\ ∃ n5 f3 es2, (ss.getD x16.toNat []).tail.tail.head? = some (PV.sl n5 f3 es2) /\ if (n3 == 2) = true then (aR es2 1 /\ (s_0.length + es2.length) * 4 <= 140737488355328) /\ K4 n11 f11 s1 (i64.wrap (x16 + 1)) (n_0 && es2.isEmpty) (s_0 ++ es2) else if (n3 == 0) = true then (aR es2 1 /\ (s_0.length + es2.length) * 4 <= 140737488355328) /\ if decide ((↑s1.length : Int) < (↑es2.length : Int)) = true then R (PV.tup [PV.sl true true [], Zb false]) else (d9 s1.length none (some (↑es2.length : Int)) none /\ aR s1 1) /\ PCall qa 36 [PV.sl n11 (f11 && decide ((↑es2.length : Int) = (↑s1.length : Int))) (qd 0 (qam (↑es2.length : Int).toNat s1)), PV.sl n5 f3 es2] fun v1 => ∃ b, v1 = Zb b /\ if (!b) = true then R (PV.tup [PV.sl true true [], Zb false]) else (d9 s1.length (some (↑es2.length : Int)) none none /\ aR s1 1) /\ K4 n11 (f11 && decide ((↑s1.length : Int) = (↑s1.length : Int))) (qd (↑es2.length : Int).toNat (qam (↑s1.length : Int).toNat s1)) (i64.wrap (x16 + 1)) (n_0 && es2.isEmpty) (s_0 ++ es2) else if (n3 == 1) = true then if decide ((↑s1.length : Int) < (↑es2.length : Int)) = true then R (PV.tup [PV.sl true true [], Zb false]) else (d9 s1.length none (some (↑es2.length : Int)) none /\ aR s1 1) /\ PCall qa 36 [PV.sl n11 (f11 && decide ((↑es2.length : Int) = (↑s1.length : Int))) (qd 0 (qam (↑es2.length : Int).toNat s1)), PV.sl n5 f3 es2] fun v1 => ∃ b, v1 = Zb b /\ if (!b) = true then R (PV.tup [PV.sl true true [], Zb false]) else (d9 s1.length (some (↑es2.length : Int)) none none /\ aR s1 1) /\ K4 n11 (f11 && decide ((↑s1.length : Int) = (↑s1.length : Int))) (qd (↑es2.length : Int).toNat (qam (↑s1.length : Int).toNat s1)) (i64.wrap (x16 + 1)) n_0 s_0 else R (PV.tup [PV.sl true true [], Zb false]) else R (PV.tup [PV.sl n_0 false s_0, Zb ((↑s1.length : Int) == 0)])
theorem zvs {R : PV -> Prop} (h : zkr tc tg tj tf tp M S n f es n2 f2 ss J μ R) : PCall qa 23 [.ptr [tc, tg, tj, tf, tp, .mp M, .mp S], .sl n f es, .sl n2 f2 ss] R :=
 PCall.wz Tryz.func23 aP [0, 1, 2, 6, 7, 8, 10, 14, 15, 16, 17, 21, 22, 28, 34, 52] (dC 4 (bP cz6 (zcq n2 f2 ss) J μ (fun e h => (gN e 1, gF e 1, gS e 1, gI e 16, oN h 0, oS h 0)) [(8, 21, 1)] [1, 8, 14, 15, 16] [])) h
end
def zks  (R : PV -> Prop) : Prop :=
 PCall qa 8 [] fun v => ∃ n f es, v = PV.sl n f es /\ PCall qa 10 [PV.sl n f es] fun v1 => PCall qa 9 [v1, PV.sl false true [[Z3 97], [Z3 98], [Z3 99]], PV.sl false true [[Z3 97], [Z3 120], [Z3 99]]] fun v2 => ∃ vs, v2 = PV.tup vs /\ vs.length = 2 /\ ∃ x, vs.head? = some x /\ ∃ n1 f1 es1, x = PV.sl n1 f1 es1 /\ ∃ x1, vs.tail.head? = some x1 /\ ∃ n2, x1 = Z6 n2 /\ if (n2 == 0 && (↑es1.length : Int) == 4) = true then aI es1 (0 : Int) 3 /\ ∃ n3, (qd 0 (es1.getD 0 [])).head? = some (Z6 n3) /\ if (n3 == 0) = true then aI es1 (1 : Int) 3 /\ ∃ n4, (qd 0 (es1.getD 1 [])).head? = some (Z6 n4) /\ if (n4 == 1) = true then aI es1 (2 : Int) 3 /\ ∃ n5, (qd 0 (es1.getD 2 [])).head? = some (Z6 n5) /\ if (n5 == 2) = true then PCall qa 15 [PV.sl n1 f1 es1] fun v3 => ∃ n6, v3 = Z6 n6 /\ R (Zb (n6 == 2)) else R (Zb false) else R (Zb false) else R (Zb false) else R (Zb false)
theorem zvt  {R : PV -> Prop} (h : zks  R) : PCall qa 13 [] R :=
 PCall.wz Tryz.func13 aP [0, 1, 2] bG h

section
variable (n f : Bool) (es : LL) (n2 f2 : Bool) (ss : LL)
def zkt (R : PV -> Prop) : Prop :=
 PCall qa 7 [PV.sl n f es, Z6 40] fun v => ∃ n1 f1 es1, v = PV.sl n1 f1 es1 /\ PCall qa 7 [PV.sl n2 f2 ss, Z6 40] fun v1 => ∃ n3 f3 es2, v1 = PV.sl n3 f3 es2 /\ PCall qa 8 [] fun v2 => ∃ n4 f4 es3, v2 = PV.sl n4 f4 es3 /\ PCall qa 10 [PV.sl n4 f4 es3] fun v3 => PCall qa 9 [v3, PV.sl n1 f1 es1, PV.sl n3 f3 es2] fun v4 => ∃ vs, v4 = PV.tup vs /\ vs.length = 2 /\ ∃ x, vs.head? = some x /\ ∃ n5 f5 es4, x = PV.sl n5 f5 es4 /\ ∃ x1, vs.tail.head? = some x1 /\ ∃ n6, x1 = Z6 n6 /\ PCall qa 23 [v3, PV.sl n1 f1 es1, PV.sl n5 f5 es4] fun v5 => ∃ vs1, v5 = PV.tup vs1 /\ vs1.length = 2 /\ ∃ x2, vs1.head? = some x2 /\ ∃ n7 f6 es5, x2 = PV.sl n7 f6 es5 /\ ∃ x3, vs1.tail.head? = some x3 /\ ∃ b, x3 = Zb b /\ PCall qa 17 [PV.sl n5 f5 es4] fun v6 => ∃ n8 f7 es6, v6 = PV.sl n8 f7 es6 /\ PCall qa 23 [v3, PV.sl n3 f3 es2, PV.sl n8 f7 es6] fun v7 => ∃ vs2, v7 = PV.tup vs2 /\ vs2.length = 2 /\ ∃ x4, vs2.head? = some x4 /\ ∃ n9 f8 es7, x4 = PV.sl n9 f8 es7 /\ ∃ x5, vs2.tail.head? = some x5 /\ ∃ b1, x5 = Zb b1 /\ if (n6 == 0 && b && b1) = true then PCall qa 24 [PV.sl n4 f4 es3, PV.sl n3 f3 es2] fun v8 => ∃ n10 f9 es8, v8 = PV.sl n10 f9 es8 /\ PCall qa 21 [PV.sl n7 f6 es5, PV.sl n10 f9 es8] fun v9 => ∃ b2, v9 = Zb b2 /\ if b2 = true then PCall qa 24 [PV.sl n4 f4 es3, PV.sl n1 f1 es1] fun v10 => ∃ n11 f10 es9, v10 = PV.sl n11 f10 es9 /\ PCall qa 21 [PV.sl n9 f8 es7, PV.sl n11 f10 es9] fun v11 => ∃ b3, v11 = Zb b3 /\ if b3 = true then PCall qa 13 [] fun v12 => ∃ b4, v12 = Zb b4 /\ R (Zb b4) else R (Zb false) else R (Zb false) else R (Zb false)
theorem zvu {R : PV -> Prop} (h : zkt n f es n2 f2 ss R) : PCall qa 6 [.sl n f es, .sl n2 f2 ss] R :=
 PCall.wz Tryz.func6 aP [0, 1, 4, 5, 6, 7, 8, 9, 10, 11, 12] bG h
end
section
variable (n f : Bool) (es : LL) (k : Int)
def zku (R : PV -> Prop) : Prop :=
 if decide ((↑es.length : Int) > k) = true then (d9 es.length none (some k) none /\ aR es 1) /\ R (PV.sl n (f && decide (k = (↑es.length : Int))) (qd 0 (qam k.toNat es))) else R (PV.sl n f es)
theorem zvv {R : PV -> Prop} (h : zku n f es k R) : PCall qa 7 [.sl n f es, .int .i64 k] R :=
 PCall.wz Tryz.func7 aP [0, 1, 4, 8] bG h
end
def zcr (n f : Bool) (es : LL) (n2 f2 : Bool) (es2 : LL) (x5 : Int) : Env × Hp := ([(0, LV.pv (PV.sl n f es)), (1, LV.pv (PV.sl n2 f2 es2)), (5, Y6 x5)], [])
section
variable (n f : Bool) (es : LL) (n2 f2 : Bool) (es2 : LL) (J : Int -> Prop) (μ : Int -> Nat)
def zcs (R : PV -> Prop) : Prop :=
 if ((↑es.length : Int) != (↑es2.length : Int)) = true then R (Zb false) else (aH (zcr n f es n2 f2 es2 (0 : Int)) /\ J (0 : Int)) /\ ∀ (x5 : Int), J x5 -> if decide (x5 < (↑es.length : Int)) = true then aI es x5 1 /\ ∃ n1, (es.getD x5.toNat []).head? = some (Z3 n1) /\ aI es2 x5 1 /\ ∃ n3, (es2.getD x5.toNat []).head? = some (Z3 n3) /\ if (n1 != n3) = true then R (Zb false) else aH (zcr n f es n2 f2 es2 (i64.wrap (x5 + 1))) /\ J (i64.wrap (x5 + 1)) /\ μ (i64.wrap (x5 + 1)) < μ x5 else R (Zb true)
theorem zvw {R : PV -> Prop} (h : zcs n f es n2 f2 es2 J μ R) : PCall qa 21 [.sl n f es, .sl n2 f2 es2] R :=
 PCall.wz Tryz.func21 aP [0, 1, 4, 5, 10, 14, 25] (dC 4 (bP cz1 (zcr n f es n2 f2 es2) J μ (fun e h => (((gI e 5), ()))) [] [0, 1, 5] [])) h
end
def zct (n f : Bool) (es : LL) (n2 f2 : Bool) (ss : LL) (x7 : Int) (n_0 : Bool) (s_0 : LL) (n_1 : Bool) (s_1 : LL) : Env × Hp := ([(0, LV.pv (PV.sl n f es)), (1, LV.pv (PV.sl n2 f2 ss)), (5, LV.own 0), (6, LV.own 1), (7, Y6 x7)], [.sl (21, 1) true n_0 s_0, .sl (3, 1) true n_1 s_1])
def zcu (n f : Bool) (es : LL) (n2 f2 : Bool) (ss : LL) (x7 x8 x9 : Int) (n_0 : Bool) (s_0 : LL) (n_1 : Bool) (s_1 : LL) : Env × Hp := ([(0, LV.pv (PV.sl n f es)), (1, LV.pv (PV.sl n2 f2 ss)), (5, LV.own 0), (6, LV.own 1), (7, Y6 x7), (8, Y6 x8), (9, Y6 x9)], [.sl (21, 1) true n_0 s_0, .sl (3, 1) true n_1 s_1])
section
variable (n f : Bool) (es : LL) (n2 f2 : Bool) (ss : LL) (J : Int -> Bool -> LL -> Bool -> LL -> Prop) (μ : Int -> Bool -> LL -> Bool -> LL -> Nat) (J2 : Int -> Int -> Int -> Bool -> LL -> Bool -> LL -> Int -> Int -> Int -> Bool -> LL -> Bool -> LL -> Prop) (μ2 : Int -> Int -> Int -> Bool -> LL -> Bool -> LL -> Nat)
def zkv (R : PV -> Prop) : Prop :=
 (aH (zct n f es n2 f2 ss (0 : Int) true [] true []) /\ J (0 : Int) true [] true []) /\ ∀ (x7 : Int) (n_0 : Bool) (s_0 : LL) (n_1 : Bool) (s_1 : LL), J x7 n_0 s_0 n_1 s_1 -> if decide (x7 < (↑ss.length : Int)) = true then aI ss x7 1 /\ ∃ n1, (ss.getD x7.toNat []).head? = some (Z3 n1) /\ PCall qa 96 [PV.sl n f es, Z3 n1] fun v => ∃ n3, v = Z6 n3 /\ aI ss x7 1 /\ ∃ n4, (ss.getD x7.toNat []).head? = some (Z3 n4) /\ (aR [[Z3 n4]] 1 /\ (s_0.length + 1) * 4 <= 140737488355328) /\ (aR [[Z6 n3]] 1 /\ (s_1.length + 1) * 8 <= 140737488355328) /\ (aH (zcu n f es n2 f2 ss x7 n3 (↑s_0.length : Int) (n_0 && false) (s_0 ++ [[Z3 n4]]) (n_1 && false) (s_1 ++ [[Z6 n3]])) /\ J2 x7 n3 (↑s_0.length : Int) (n_0 && false) (s_0 ++ [[Z3 n4]]) (n_1 && false) (s_1 ++ [[Z6 n3]]) x7 n3 (↑s_0.length : Int) (n_0 && false) (s_0 ++ [[Z3 n4]]) (n_1 && false) (s_1 ++ [[Z6 n3]])) /\ ∀ (x71 x8 x9 : Int) (n_01 : Bool) (s_01 : LL) (n_11 : Bool) (s_11 : LL), J2 x7 n3 (↑s_0.length : Int) (n_0 && false) (s_0 ++ [[Z3 n4]]) (n_1 && false) (s_1 ++ [[Z6 n3]]) x71 x8 x9 n_01 s_01 n_11 s_11 ->
 let V1 := aH (zct n f es n2 f2 ss (i64.wrap (x71 + 1)) n_01 s_01 n_11 s_11) /\ J (i64.wrap (x71 + 1)) n_01 s_01 n_11 s_11 /\ μ (i64.wrap (x71 + 1)) n_01 s_01 n_11 s_11 < μ x7 n_0 s_0 n_1 s_1; if (decide (x9 > 0) && x8 != 0) = true then aI s_11 (i64.wrap (x9 - 1)) 1 /\ ∃ n5, (qd 0 (s_11.getD (i64.wrap (x9 - 1)).toNat [])).head? = some (Z6 n5) /\ if decide (n5 > x8) = true then aI s_01 (i64.wrap (x9 - 1)) 1 /\ ∃ n6, (qd 0 (s_01.getD (i64.wrap (x9 - 1)).toNat [])).head? = some (Z3 n6) /\ aI s_01 x9 1 /\ (1 = 1 /\ 1 <= (s_01.getD x9.toNat []).length) /\ aI s_11 (i64.wrap (x9 - 1)) 1 /\ ∃ n7, (qd 0 (s_11.getD (i64.wrap (x9 - 1)).toNat [])).head? = some (Z6 n7) /\ aI s_11 x9 1 /\ (1 = 1 /\ 1 <= (s_11.getD x9.toNat []).length) /\ aI ss x71 1 /\ ∃ n8, (ss.getD x71.toNat []).head? = some (Z3 n8) /\ aI (s_01.set x9.toNat (Z3 n6 :: zq (qd 1 (s_01.getD x9.toNat [])))) (i64.wrap (x9 - 1)) 1 /\ (1 = 1 /\ 1 <= ((s_01.set x9.toNat (Z3 n6 :: zq (qd 1 (s_01.getD x9.toNat [])))).getD (i64.wrap (x9 - 1)).toNat []).length) /\ aI (s_11.set x9.toNat (Z6 n7 :: zq (qd 1 (s_11.getD x9.toNat [])))) (i64.wrap (x9 - 1)) 1 /\ (1 = 1 /\ 1 <= ((s_11.set x9.toNat (Z6 n7 :: zq (qd 1 (s_11.getD x9.toNat [])))).getD (i64.wrap (x9 - 1)).toNat []).length) /\ aH (zcu n f es n2 f2 ss x71 x8 (i64.wrap (x9 - 1)) n_01 ((s_01.set x9.toNat (Z3 n6 :: zq (qd 1 (s_01.getD x9.toNat [])))).set (i64.wrap (x9 - 1)).toNat (Z3 n8 :: zq (qd 1 ((s_01.set x9.toNat (Z3 n6 :: zq (qd 1 (s_01.getD x9.toNat [])))).getD (i64.wrap (x9 - 1)).toNat [])))) n_11 ((s_11.set x9.toNat (Z6 n7 :: zq (qd 1 (s_11.getD x9.toNat [])))).set (i64.wrap (x9 - 1)).toNat (Z6 x8 :: zq (qd 1 ((s_11.set x9.toNat (Z6 n7 :: zq (qd 1 (s_11.getD x9.toNat [])))).getD (i64.wrap (x9 - 1)).toNat []))))) /\ J2 x7 n3 (↑s_0.length : Int) (n_0 && false) (s_0 ++ [[Z3 n4]]) (n_1 && false) (s_1 ++ [[Z6 n3]]) x71 x8 (i64.wrap (x9 - 1)) n_01 ((s_01.set x9.toNat (Z3 n6 :: zq (qd 1 (s_01.getD x9.toNat [])))).set (i64.wrap (x9 - 1)).toNat (Z3 n8 :: zq (qd 1 ((s_01.set x9.toNat (Z3 n6 :: zq (qd 1 (s_01.getD x9.toNat [])))).getD (i64.wrap (x9 - 1)).toNat [])))) n_11 ((s_11.set x9.toNat (Z6 n7 :: zq (qd 1 (s_11.getD x9.toNat [])))).set (i64.wrap (x9 - 1)).toNat (Z6 x8 :: zq (qd 1 ((s_11.set x9.toNat (Z6 n7 :: zq (qd 1 (s_11.getD x9.toNat [])))).getD (i64.wrap (x9 - 1)).toNat [])))) /\ μ2 x71 x8 (i64.wrap (x9 - 1)) n_01 ((s_01.set x9.toNat (Z3 n6 :: zq (qd 1 (s_01.getD x9.toNat [])))).set (i64.wrap (x9 - 1)).toNat (Z3 n8 :: zq (qd 1 ((s_01.set x9.toNat (Z3 n6 :: zq (qd 1 (s_01.getD x9.toNat [])))).getD (i64.wrap (x9 - 1)).toNat [])))) n_11 ((s_11.set x9.toNat (Z6 n7 :: zq (qd 1 (s_11.getD x9.toNat [])))).set (i64.wrap (x9 - 1)).toNat (Z6 x8 :: zq (qd 1 ((s_11.set x9.toNat (Z6 n7 :: zq (qd 1 (s_11.getD x9.toNat [])))).getD (i64.wrap (x9 - 1)).toNat [])))) < μ2 x71 x8 x9 n_01 s_01 n_11 s_11 else V1 else V1 else R (PV.sl n_0 false s_0)
theorem zvx {R : PV -> Prop} (h : zkv n f es n2 f2 ss J μ J2 μ2 R) : PCall qa 78 [.sl n f es, .sl n2 f2 ss] R :=
 PCall.wz Tryz.func78 aP [0, 1, 4, 5, 6, 7, 8, 9, 13, 49] (iL [(4, (bP cz5 (zct n f es n2 f2 ss) J μ (fun e h => (gI e 7, oN h 0, oS h 0, oN h 1, oS h 1)) [(5, 21, 1), (6, 3, 1)] [0, 1, 5, 6, 7] [])), (10, (hE cz7 (zcu n f es n2 f2 ss) J2 μ2 (fun e h => (gI e 7, gI e 8, gI e 9, oN h 0, oS h 0, oN h 1, oS h 1)) [] [0, 1, 5, 6, 7, 8, 9] []))]) h
end
def zcv (tc tg tj tf tp : PV) (M S : List (PV × PV)) (n f : Bool) (es : LL) (x12 : Int) (h0_0 : PV) (n_1 : Bool) (s_1 : LL) : Env × Hp := ([(0, LV.pv (PV.ptr [tc, tg, tj, tf, tp, PV.mp M, PV.mp S])), (5, LV.box 0 0), (10, LV.pv (PV.sl n f es)), (11, LV.pv (PV.int i64 (es.length : Int))), (12, Y6 x12)], [.box [.pv h0_0, LV.own 1], .sl (21, 1) true n_1 s_1])
section
variable (tc tg tj tf tp : PV) (M S : List (PV × PV)) (n f : Bool) (es : LL) (J : Int -> PV -> Bool -> LL -> Prop) (μ : Int -> PV -> Bool -> LL -> Nat)
def zkw (R : PV -> Prop) : Prop :=
 fY (PV.ptr [tc, tg, tj, tf, tp, PV.mp M, PV.mp S]) = true /\ (aH (zcv tc tg tj tf tp M S n f es (0 : Int) (PV.ptr [tc, tg, tj, tf, tp, PV.mp M, PV.mp S]) true []) /\ J (0 : Int) (PV.ptr [tc, tg, tj, tf, tp, PV.mp M, PV.mp S]) true []) /\ ∀ (x12 : Int) (h0_0 : PV) (n_1 : Bool) (s_1 : LL), J x12 h0_0 n_1 s_1 -> if decide (x12 < (↑es.length : Int)) = true then aI es x12 1 /\ ∃ n1, (es.getD x12.toNat []).head? = some (Z3 n1) /\ ACall qa 81 [LV.box 0 0, LV.pv (Z3 n1), Y6 8] [Ob.box [LV.pv h0_0, LV.own 1], Ob.sl (21, 1) false n_1 s_1] fun (r : LV) (h' : Hp) => ∃ (t : Bool × LL), (r = LV.tup [] /\ h' = [Ob.box [LV.pv h0_0, LV.own 1], Ob.sl (21, 1) true t.fst t.snd]) /\ (True /\ True /\ True) /\ aH (zcv tc tg tj tf tp M S n f es (i64.wrap (x12 + 1)) h0_0 t.fst t.snd) /\ J (i64.wrap (x12 + 1)) h0_0 t.fst t.snd /\ μ (i64.wrap (x12 + 1)) h0_0 t.fst t.snd < μ x12 h0_0 n_1 s_1 else PCall qa 82 [PV.ptr [tc, tg, tj, tf, tp, PV.mp M, PV.mp S], PV.sl n_1 false s_1] fun v => ∃ n1 f1 es1, v = PV.sl n1 f1 es1 /\ R (PV.sl n1 f1 es1)
theorem zvy {R : PV -> Prop} (h : zkw tc tg tj tf tp M S n f es J μ R) : PCall qa 55 [.ptr [tc, tg, tj, tf, tp, .mp M, .mp S], .sl n f es] R :=
 PCall.wz Tryz.func55 (fun zz_ => match zz_ with | 81 => some ⟨Bool × LL, fun _ hs t => (.tup [], match hs with | [.box (x :: _), .sl ty _ _ _] => [.box [x, .own 1], .sl ty true t.1 t.2] | [.box (x :: _)] => [.box [x, .own 1], .sl (21, 1) true t.1 t.2] | h => h), none⟩ | _ => none) [0, 1, 4, 5, 7, 10, 11, 12, 13] (dC 3 (bP jD (zcv tc tg tj tf tp M S n f es) J μ (fun e h => (gI e 12, hP h 0 0, oN h 1, oS h 1)) [(1000001, 21, 1)] [0, 5, 10, 11, 12] [])) h
end
def zcw (n f : Bool) (es : LL) (n2 f2 : Bool) (ss : LL) (x6 : Int) (n_0 : Bool) (s_0 : LL) : Env × Hp := ([(0, LV.pv (PV.sl n f es)), (1, LV.pv (PV.sl n2 f2 ss)), (5, LV.own 0), (6, Y6 x6)], [.sl (21, 1) true n_0 s_0])
section
variable (n f : Bool) (es : LL) (n2 f2 : Bool) (ss : LL) (J : Int -> Bool -> LL -> Prop) (μ : Int -> Bool -> LL -> Nat)
def zkx (R : PV -> Prop) : Prop :=
 (aH (zcw n f es n2 f2 ss (0 : Int) true []) /\ J (0 : Int) true []) /\ ∀ (x6 : Int) (n_0 : Bool) (s_0 : LL), J x6 n_0 s_0 ->
 let K3 := fun (y0_ : Int) (y1_ : Bool) (y2_ : LL) => aH (zcw n f es n2 f2 ss y0_ y1_ y2_) /\ J y0_ y1_ y2_ /\ μ y0_ y1_ y2_ < μ x6 n_0 s_0; if decide (x6 < (↑ss.length : Int)) = true then aI ss x6 1 /\ ∃ n1, (ss.getD x6.toNat []).head? = some (Z3 n1) /\ ACall qa 77 [LV.pv (PV.sl n f es), LV.pv (Z3 n1), Y6 8] [] fun (r : LV) (h' : Hp) => (∃ (t : Bool × LL), (r = LV.own 0 /\ h' = [Ob.sl (21, 1) true t.fst t.snd]) /\ True /\ (aR t.snd 1 /\ (s_0.length + t.snd.length) * 4 <= 140737488355328) /\ K3 (i64.wrap (x6 + 1)) (n_0 && t.snd.isEmpty) (s_0 ++ t.snd)) ∨ ∃ (t : LL), (r = LV.pv (PV.sl false true t) /\ h' = []) /\ True /\ (aR t 1 /\ (s_0.length + t.length) * 4 <= 140737488355328) /\ K3 (i64.wrap (x6 + 1)) (n_0 && t.isEmpty) (s_0 ++ t) else PCall qa 78 [PV.sl n f es, PV.sl n_0 false s_0] fun v => ∃ n1 f1 es1, v = PV.sl n1 f1 es1 /\ R (PV.sl n1 f1 es1)
theorem zvz {R : PV -> Prop} (h : zkx n f es n2 f2 ss J μ R) : PCall qa 52 [.sl n f es, .sl n2 f2 ss] R :=
 PCall.wz Tryz.func52 (fun zz_ => match zz_ with | 77 => some ⟨Bool × LL, fun _ hs t => (.own hs.length, hs ++ [.sl (21, 1) true t.1 t.2]), some ⟨LL, fun _ hs t => (.pv (.sl false true t), hs)⟩⟩ | _ => none) [0, 1, 4, 5, 6, 10] (dC 3 (bP eH (zcw n f es n2 f2 ss) J μ (fun e h => (gI e 6, oN h 0, oS h 0)) [(5, 21, 1)] [0, 1, 5, 6] [])) h
end
def zcx (n f : Bool) (es : LL) (n2 f2 : Bool) (ss : LL) (x13 : Int) : Env × Hp := ([(0, LV.pv (PV.sl n f es)), (1, LV.pv (PV.sl n2 f2 ss)), (12, LV.pv (PV.int i64 (es.length : Int))), (13, Y6 x13)], [])
section
variable (n f : Bool) (es : LL) (n2 f2 : Bool) (ss : LL) (J : Int -> Prop) (μ : Int -> Nat)
def zcy (R : PV -> Prop) : Prop :=
 if ((↑es.length : Int) != (↑ss.length : Int)) = true then R (Zb false) else (aH (zcx n f es n2 f2 ss (0 : Int)) /\ J (0 : Int)) /\ ∀ (x13 : Int), J x13 -> if decide (x13 < (↑es.length : Int)) = true then aI es x13 1 /\ ∃ n1, (es.getD x13.toNat []).head? = some (Z3 n1) /\ aI ss x13 1 /\ ∃ n3, (ss.getD x13.toNat []).head? = some (Z3 n3) /\ if (n1 != n3) = true then R (Zb false) else aH (zcx n f es n2 f2 ss (i64.wrap (x13 + 1))) /\ J (i64.wrap (x13 + 1)) /\ μ (i64.wrap (x13 + 1)) < μ x13 else R (Zb true)
theorem zv0 {R : PV -> Prop} (h : zcy n f es n2 f2 ss J μ R) : PCall qa 36 [.sl n f es, .sl n2 f2 ss] R :=
 PCall.wz Tryz.func36 aP [0, 1, 4, 5, 10, 12, 13, 14, 24] (dC 4 (bP cz1 (zcx n f es n2 f2 ss) J μ (fun e h => (((gI e 13), ()))) [] [0, 1, 12, 13] [])) h
end
end Go.Eng
namespace Go.Eng
open Go Go.Proofs Go.Eng.Rows Go.Eng.Trie
theorem wE : dJ tab := zqd (by kernel_rfl)
theorem sU : eQ tab := zqf (by kernel_rfl)
theorem wF : iN tab := zqh (by kernel_rfl)
theorem q1 : sC tab false 0 [101, 769] = 2 := by kernel_rfl
theorem q2 : sC tab false 0 [233] = 0 := by kernel_rfl
theorem q3 : sC tab false 0 [769, 807] = 1 := by kernel_rfl
theorem q4 : sC tab false 0 [8491] = 1 := by kernel_rfl
theorem q5 : zK tab 101 = true := by kernel_rfl
theorem q6 : zK tab 769 = false := by kernel_rfl
theorem q7 : zK tab 4449 = false := by kernel_rfl
theorem zky {α : Type} (p : α -> Bool) : ∀ {A : List α} (B : List α), (∀ x ∈ A, p x = false) -> (A ++ B).find? p = B.find? p
 | [], B, _ => rfl
 | a :: A, B, h => by
   rw [qbo, qat, h a qq];exact zky p B fun x hx => h x (ql _ hx)
theorem zkz {α : Type} (p : α -> Bool) : ∀ (A : List α) {B : List α}, (∀ x ∈ B, p x = false) -> (A ++ B).find? p = A.find? p
 | [], B, h => List.find?_eq_none.2 fun x hx => by rw [h x hx]; simp
 | a :: A, B, h => by
   rw [qbo, qat, qat];cases p a with
   | true => rfl
   | false => exact zkz p A h
def noK (k : Int) (l : List Row) : Bool := l.all fun x => !decide (x.kind = k)
theorem zk0 {k r : Int} {l : List Row} (h : noK k l = true) : ∀ x ∈ l, x.has k r = false := fun x hx => by
 have := List.all_eq_true.1 h x hx;simp only [qak, dZ] at this;simp [Row.has, this]
theorem zv1 {A B C : List Row} {k : Int} (h1 : noK k A = true) (h2 : noK k C = true) (r : Int) : cH (A ++ (B ++ C)) k r = cH B k r := by
 unfold cH first
 rw [zky _ _ (zk0 h1), zkz _ _ (zk0 h2)]
theorem zk1 : tab = za7 ++ (tab73 ++ (za8 ++ za9 ++ zba ++ zbb ++ zbc ++ zbd)) := by unfold tab; simp only [qaj]
theorem zv2 : aJ tab = aJ tab73 := funext fun r => by
 unfold aJ; rw [zk1, zv1 (by kernel_rfl) (by kernel_rfl)]
theorem zv3 {A B : List Row} (h : aJ A = aJ B) : ∀ d, aW A d = aW B d := fun d => by
 induction d with
 | zero => rfl
 | succ d ih => funext r; simp only [aW, h, ih]
theorem zv4 (d : Nat) : aW tab d = aW tab73 d := zv3 zv2 d
theorem zv5 {x : Row} (hx : x ∈ tab) (hk : x.kind = 2) : x ∈ tab73 := by
 rw [zk1] at hx
 have no : ∀ {l : List Row}, noK 2 l = true -> x ∉ l := fun h hx => by
  have := List.all_eq_true.1 h x hx;simp [hk] at this
 rcases List.mem_append.1 hx with h | h
 ·exact absurd h (no (by kernel_rfl))
 ·rcases List.mem_append.1 h with h | h
  ·exact h
  ·exact absurd h (no (by kernel_rfl))
end Go.Eng
namespace Go.Eng
open Go Go.Proofs Go.Eng.Rows Go.Eng.Trie
end Go.Eng
namespace Go.Eng
open Go Go.Proofs Go.Eng.Rows Go.Eng.Trie Go.Eng.Srt
theorem PCall.ofA {P : Program} {f : Nat} {args : List PV} {Q : LV -> Hp -> Prop} {R : PV -> Prop} (hc : ACall P f (args.map .pv) [] Q) (hq : ∀ r h', Q r h' -> ∃ p, j8 h' r = some p /\ R p) : PCall P f args R :=
 ⟨hc.1, fun w I G cargs h1 h2 h3 => (hc.2 w I G cargs h1 h2 h3).mono fun e w' ⟨cv, r, h', I', G', e1, e2, e3, e4, e5⟩ => by
  obtain ⟨p, hp, hR⟩ := hq r h' e2;have ht := e5.t;have hno : ∀ b, ¬ aO [] G b := fun b ⟨o, ob, ho, _⟩ => by simp at ho
  exact ⟨cv, .pv p, [], AllB I' h' G', G', e1, ⟨p, rfl, hR⟩, HRel.nil G' (fun b hb => hb.elim (e3.cl b) e3.blk_lt), .pv _ _ (rD e3 e4 hp),
   ⟨⟨ht.os, ht.tape, ht.output, ht.size, ht.keep, fun b hb => .inl (ht.i1 b hb), fun b hb => hb.elim (ht.i2 b) (fun ho => (ht.own2 b ho).elim (fun x => absurd x (hno b)) (fun x => .inr (.inr x))), fun b hb => absurd hb (fun ⟨o, ob, ho, _⟩ => by simp at ho), ht.frz, ht.drawn⟩, qj _, fun o ob ho => by simp at ho⟩⟩⟩
theorem zk2 (n f : Bool) (l : List Int) (k : Nat) (hk : k < 1000) : PCall qa 7 [.sl n f (aA l), .int .i64 k] fun v => ∃ n f, v = .sl n f (aA (l.take k)) := by
 refine zvv _ _ _ _ ?_; unfold zku;refine aG (fun hc => ?_) (fun hc => ?_)
 ·simp only [aB, bN] at hc;refine ⟨⟨by unfold d9; simp; omega, dT _⟩, n, _, by rw [show ((k : Int)).toNat = k by omega]; simp only [aA, List.map_take, qbs]; rfl⟩
 ·simp only [aB, bN] at hc;rw [qh (by omega)];exact ⟨_, _, rfl⟩
theorem zv6 (n f n2 f2 : Bool) (l m : List Int) (hl : l.length < 1000000000000) : zcs n f (aA l) n2 f2 (aA m) (fun i => 0 <= i /\ i <= l.length /\ l.take i.toNat = m.take i.toNat) (fun i => l.length - i.toNat) fun v => v = .bool (decide (l = m)) := by
 unfold zcs;refine aG (fun hc => ?_) (fun hc => ?_)
 ·simp only [bN, bne_iff_ne, ne_eq] at hc;have : l ≠ m := fun e => hc (by rw [e]);simp [this]
 ·simp only [bN, bne_iff_ne, ne_eq, qm] at hc;have hlm : l.length = m.length := by omega
  refine ⟨⟨rfl, qt _, by omega, rfl⟩, ?_⟩;rintro i ⟨i0, i1, he⟩;refine aG (fun h => ?_) (fun h => ?_)
  ·simp only [aB, bN] at h;have hi : i.toNat < l.length := by omega
   have hj : i.toNat < m.length := by omega
   obtain ⟨g1, g2⟩ := iE i0 hi;obtain ⟨k1, k2⟩ := iE i0 hj;have hw : i64.wrap (i + 1) = i + 1 := aC (by omega) (by omega);refine ⟨g1, l[i.toNat], by rw [g2]; rfl, k1, m[i.toNat], by rw [k2]; rfl, aG (fun hc2 => ?_) (fun hc2 => ?_)⟩
   ·simp only [bne_iff_ne, ne_eq] at hc2;have : l ≠ m := fun e => hc2 (by subst e; rfl);simp [this]
   ·simp only [bne_iff_ne, ne_eq, qm] at hc2;rw [hw];exact ⟨rfl, ⟨by omega, by omega, by rw [show (i + 1).toNat = i.toNat + 1 by omega, dD hi, dD hj, he, hc2]⟩, by dsimp only; omega⟩
  ·simp only [aB, bN] at h;rw [qh (by omega), qh (by omega)] at he;simp [he]
theorem zv7 (n f n2 f2 : Bool) (l m : List Int) (hl : l.length < 1000000000000) : zcy n f (aA l) n2 f2 (aA m) (fun i => 0 <= i /\ i <= l.length /\ l.take i.toNat = m.take i.toNat) (fun i => l.length - i.toNat) fun v => v = .bool (decide (l = m)) := by
 unfold zcy;refine aG (fun hc => ?_) (fun hc => ?_)
 ·simp only [bN, bne_iff_ne, ne_eq] at hc;have : l ≠ m := fun e => hc (by rw [e]);simp [this]
 ·simp only [bN, bne_iff_ne, ne_eq, qm] at hc;have hlm : l.length = m.length := by omega
  refine ⟨⟨rfl, qt _, by omega, rfl⟩, ?_⟩;rintro i ⟨i0, i1, he⟩;refine aG (fun h => ?_) (fun h => ?_)
  ·simp only [aB, bN] at h;have hi : i.toNat < l.length := by omega
   have hj : i.toNat < m.length := by omega
   obtain ⟨g1, g2⟩ := iE i0 hi;obtain ⟨k1, k2⟩ := iE i0 hj;have hw : i64.wrap (i + 1) = i + 1 := aC (by omega) (by omega);refine ⟨g1, l[i.toNat], by rw [g2]; rfl, k1, m[i.toNat], by rw [k2]; rfl, aG (fun hc2 => ?_) (fun hc2 => ?_)⟩
   ·simp only [bne_iff_ne, ne_eq] at hc2;have : l ≠ m := fun e => hc2 (by subst e; rfl);simp [this]
   ·simp only [bne_iff_ne, ne_eq, qm] at hc2;rw [hw];exact ⟨rfl, ⟨by omega, by omega, by rw [show (i + 1).toNat = i.toNat + 1 by omega, dD hi, dD hj, he, hc2]⟩, by dsimp only; omega⟩
  ·simp only [aB, bN] at h;rw [qh (by omega), qh (by omega)] at he;simp [he]
theorem zv8 (n f n2 f2 : Bool) (l m : List Int) (hl : l.length < 1000000000000) : PCall qa 21 [.sl n f (aA l), .sl n2 f2 (aA m)] fun v => v = .bool (decide (l = m)) :=
 zvw _ _ _ _ _ _ _ _ (zv6 n f n2 f2 l m hl)
theorem zcz (n f n2 f2 : Bool) (l m : List Int) (hl : l.length < 1000000000000) : PCall qa 36 [.sl n f (aA l), .sl n2 f2 (aA m)] fun v => v = .bool (decide (l = m)) :=
 zv0 _ _ _ _ _ _ (fun i => 0 <= i /\ i <= l.length /\ l.take i.toNat = m.take i.toNat) (fun i => l.length - i.toNat) (zv7 n f n2 f2 l m hl)
section
variable {rows : List Row}
end
section
variable {rows : List Row}
theorem set1 {es : List (List PV)} {k : Nat} {v x : PV} (h : es.getD k [] = [x]) : es.set k (v :: zq (qd 1 (es.getD k []))) = es.set k [v] := by rw [h]; rfl
theorem zc0 (A : List Int) (x : Int) (B : List Int) : (aA (A ++ x :: B)).getD A.length [] = [.int .i32 x] := by
 rw [zfz (by simp)]; simp
theorem zc1 (A : List Int) (x : Int) (B : List Int) : (aZ (A ++ x :: B)).getD A.length [] = [.int .i64 x] := by
 simp [aZ]
theorem zv9 (hk : iN rows) (n f n2 f2 : Bool) (L : List Int) (hrl : rows.length < 1000000) (hL : L.length < 1000000000) (hr : R32 L) :
 PCall qa 78 [.sl n f (bO rows), .sl n2 f2 (aA L)] fun v => ∃ n f, v = .sl n f (aA (cV (aD rows 1) L)) := by
 have olen : ∀ l, (cV (aD rows 1) l).length = l.length := fun l => ((sG (key := aD rows 1) hk l).len).symm
 refine zvx _ _ _ _ _ _
  (fun i _ s0 _ s1 => 0 <= i /\ i <= L.length /\ s0 = aA (cV (aD rows 1) (L.take i.toNat)) /\ s1 = aZ ((cV (aD rows 1) (L.take i.toNat)).map (aD rows 1))) (fun i _ _ _ _ => L.length - i.toNat)
  (fun i0 _ _ _ _ _ _ i c k _ s0 _ s1 => i = i0 /\ 0 <= i /\ i.toNat < L.length /\ ∃ x A B, L[i.toNat]? = some x /\ c = aD rows 1 x /\ k = (A.length : Nat) /\ cV (aD rows 1) (L.take i.toNat) = A ++ B /\ (∀ y ∈ B, fJ (aD rows 1) x y = true) /\ s0 = aA (A ++ x :: B) /\ s1 = aZ ((A ++ x :: B).map (aD rows 1))) (fun _ _ k _ _ _ _ => k.toNat) ?_
 unfold zkv;refine ⟨⟨rfl, qt _, by omega, by simp [cV, aA], by simp [cV, aZ]⟩, ?_⟩;rintro i n0 _ n1 _ ⟨i0, i1, rfl, rfl⟩;refine aG (fun hc => ?_) (fun hc => ?_)
 ·simp only [aB, bN] at hc;have hi : i.toNat < L.length := by omega
  obtain ⟨g1, g2⟩ := iE i0 hi;have hx := hr _ (qi hi);have hw : i64.wrap (i + 1) = i + 1 := aC (by omega) (by omega);have hol := olen (L.take i.toNat);rw [qk] at hol;refine ⟨g1, L[i.toNat], by rw [g2]; rfl, ?_⟩;refine (vT n f _ hrl hx).mono ?_;rintro _ rfl;refine ⟨_, rfl, g1, L[i.toNat], by rw [g2]; rfl, ⟨dT [_], by rw [bN]; omega⟩, ⟨nO (enc := fun n => [PV.int .i64 n]) (fun _ => rfl) [_], by rw [kP, qe]; omega⟩, ⟨rfl, ?_⟩, ?_⟩
  ·refine ⟨rfl, i0, hi, L[i.toNat], cV (aD rows 1) (L.take i.toNat), [], qz hi, rfl, by simp, by simp, fun y hy => (by cases hy), by simp [aA], by simp [aZ]⟩
  ·rintro i' c k n01 _ n11 _ ⟨rfl, _, _, x, A, B, hxi, rfl, rfl, hord, hB, rfl, rfl⟩;have hwi : i64.wrap (i' + 1) = i' + 1 := aC (by omega) (by omega);have hAB : A.length + B.length = min i'.toNat L.length := by rw [<- hol, hord, qb]
   have hxe : L[i'.toNat] = x := (List.getElem?_eq_some_iff.1 hxi).2
   -- the end of the walk back
   have done : (A = [] ∨ ∃ A' z, A = A' ++ [z] /\ fJ (aD rows 1) x z = false) -> 0 <= i' + 1 /\ i' + 1 <= L.length /\ aA (A ++ x :: B) = aA (cV (aD rows 1) (L.take (i' + 1).toNat)) /\ aZ ((A ++ x :: B).map (aD rows 1)) = aZ ((cV (aD rows 1) (L.take (i' + 1).toNat)).map (aD rows 1)) := fun h => by
    have : cV (aD rows 1) (L.take (i' + 1).toNat) = A ++ x :: B := by
     rw [show (i' + 1).toNat = i'.toNat + 1 by omega, dD hi, zM, hord, hxe, nU hB h]
    rw [this];exact ⟨by omega, by omega, rfl, rfl⟩
   have hmu : L.length - (i' + 1).toNat < L.length - i'.toNat := by omega
   refine aG (fun h1 => ?_) (fun h1 => ?_)
   ·simp only [qf, aB, bne_iff_ne, ne_eq] at h1
    obtain ⟨A', z, rfl⟩ : ∃ A' z, A = A' ++ [z] := by
     rcases A.eq_nil_or_concat with rfl | ⟨D, z, rfl⟩
     ·simp at h1
     ·exact ⟨D, z, by simp⟩
    have lA : (A' ++ [z]).length = A'.length + 1 := by simp
    rw [lA] at hAB;have hwk : i64.wrap ((((A' ++ [z]).length : Nat) : Int) - 1) = (A'.length : Nat) := by rw [lA, aC (by omega) (by omega)]; omega
    have e0 : (A' ++ [z]) ++ x :: B = A' ++ z :: (x :: B) := by simp
    rw [hwk, e0];simp only [qae, List.map_cons, qc];rw [lA];generalize hk2 : aD rows 1 = key at *;have i1 : aI (aA (A' ++ z :: x :: B)) ((A'.length : Nat) : Int) 1 := cE (enc := fun n => [PV.int .i32 n]) (fun _ => rfl) (by omega) (by simp; omega);have i2 : aI (aA (A' ++ z :: x :: B)) ((A'.length + 1 : Nat) : Int) 1 := cE (enc := fun n => [PV.int .i32 n]) (fun _ => rfl) (by omega) (by simp; omega);have j1 : aI (aZ (A'.map key ++ key z :: key x :: B.map key)) ((A'.length : Nat) : Int) 1 := cE oB (by omega) (by simp; omega);have j2 : aI (aZ (A'.map key ++ key z :: key x :: B.map key)) ((A'.length + 1 : Nat) : Int) 1 := cE oB (by omega) (by simp; omega);have i3 : aI (aA (A' ++ z :: z :: B)) ((A'.length : Nat) : Int) 1 := cE (enc := fun n => [PV.int .i32 n]) (fun _ => rfl) (by omega) (by simp; omega);have j3 : aI (aZ (A'.map key ++ key z :: key z :: B.map key)) ((A'.length : Nat) : Int) 1 := cE oB (by omega) (by simp; omega);have gz := zc0 A' z (x :: B);have gx : (aA (A' ++ z :: x :: B)).getD (A'.length + 1) [] = [.int .i32 x] := by have := zc0 (A' ++ [z]) x B; simpa using this
    have hz : (aZ (A'.map key ++ key z :: key x :: B.map key)).getD A'.length [] = [.int .i64 (key z)] := by have := zc1 (A'.map key) (key z) (key x :: B.map key); simpa using this
    have hx2 : (aZ (A'.map key ++ key z :: key x :: B.map key)).getD (A'.length + 1) [] = [.int .i64 (key x)] := by have := zc1 (A'.map key ++ [key z]) (key x) (B.map key); simpa using this
    have gz2 := zc0 A' z (z :: B);have hz2 : (aZ (A'.map key ++ key z :: key z :: B.map key)).getD A'.length [] = [.int .i64 (key z)] := by have := zc1 (A'.map key) (key z) (key z :: B.map key); simpa using this
    have s1 : (aA (A' ++ z :: x :: B)).set (A'.length + 1) [.int .i32 z] = aA (A' ++ z :: z :: B) := by
     have := sD (A' ++ [z]) B x z;have e : (aA (A' ++ z :: x :: B)).set (A'.length + 1) [.int .i32 z] = aA ((A' ++ z :: x :: B).set (A'.length + 1) z) := by simp [aA, List.map_set]
     rw [e]; simp at this ⊢
    have s2 : (aA (A' ++ z :: z :: B)).set A'.length [.int .i32 x] = aA (A' ++ x :: z :: B) := by simp [aA]
    have t1 : (aZ (A'.map key ++ key z :: key x :: B.map key)).set (A'.length + 1) [.int .i64 (key z)] = aZ (A'.map key ++ key z :: key z :: B.map key) := by simp [aZ]
    have t2 : (aZ (A'.map key ++ key z :: key z :: B.map key)).set A'.length [.int .i64 (key x)] = aZ (A'.map key ++ key x :: key z :: B.map key) := by simp [aZ]
    refine ⟨j1, key z, by rw [hz]; rfl, aG (fun h2 => ?_) (fun h2 => ?_)⟩
    ·simp only [aB] at h2;refine ⟨i1, z, by rw [gz]; rfl, i2, ⟨trivial, by rw [gx]; exact qj _⟩, j1, key z, by rw [hz]; rfl, j2, ⟨trivial, by rw [hx2]; exact qj _⟩, g1, x, by rw [g2, hxe]; rfl, ?_⟩;rw [set1 gx, set1 hx2, s1, t1, set1 gz2, set1 hz2, s2, t2];refine ⟨i3, ⟨trivial, by rw [gz2]; exact qj _⟩, j3, ⟨trivial, by rw [hz2]; exact qj _⟩, rfl, ⟨trivial, i0, hi, x, A', z :: B, hxi, rfl, rfl, by rw [hord]; simp, fun y hy => ?_, rfl, by simp⟩, by simp⟩;rcases List.mem_cons.1 hy with rfl | hy
     ·exact pQ.2 ⟨h1.2, h2⟩
     ·exact hB y hy
    ·simp only [aB] at h2;rw [hwi];obtain ⟨d1, d2, d3, d4⟩ := done (.inr ⟨A', z, rfl, u4.2 (.inr (by omega))⟩);refine ⟨rfl, ⟨d1, d2, ?_, ?_⟩, hmu⟩
     ·rw [<- d3, e0]
     ·rw [<- d4]; simp
   ·have hA : A = [] ∨ aD rows 1 x = 0 := by
     simp only [qf, aB, bne_iff_ne, ne_eq, not_and, qm] at h1;by_cases hA : A = []
     ·exact .inl hA
     ·exact .inr (h1 (by have := List.length_pos_iff.2 hA; omega))
    rw [hwi];refine ⟨rfl, done ?_, hmu⟩;rcases hA with h | h
    ·exact .inl h
    ·rcases A.eq_nil_or_concat with rfl | ⟨D, z, rfl⟩
     ·exact .inl rfl
     ·exact .inr ⟨D, z, by simp, u4.2 (.inl h)⟩
 ·simp only [aB, bN] at hc;rw [qh (by omega)];exact ⟨_, _, rfl⟩
end
theorem zk3 : tab.length < 1000000 := by have := zs8; omega
theorem zk4 (n f : Bool) : PCall qa 10 [.sl n f (bO tab)] (fN tab) := zuq n f tab zk3 wE
theorem R32.take {l : List Int} (h : R32 l) (k : Nat) : R32 (l.take k) := fun x hx => h x (qaa hx)
section
variable {rows : List Row} {v : PV}
theorem zwa {ts : List PV} {key : Int -> Int} (hT : ∀ r : Int, (-2147483648 <= r /\ r <= 2147483647) -> PCall qa 71 [.ptr ts, .int .i32 r] fun v => v = .int .i64 (key r)) : kQ (.ptr ts) key := by
 intro a b ha hb;refine zrt _ _ _ ?_; unfold zhn;refine .inl ⟨ts, rfl, .inl ⟨ts, rfl, ?_⟩⟩;refine (hT a ha).mono ?_;rintro _ rfl;refine ⟨_, rfl, ?_⟩;refine (hT b hb).mono ?_;rintro _ rfl;refine ⟨_, rfl, ?_⟩;refine (p61 _ _).mono ?_;rintro _ rfl;refine ⟨_, rfl, _, rfl, ?_⟩;unfold cmpS; split <;> (try split) <;> omega
theorem zwb (hk : iN rows) (hv : fN rows v) (n f : Bool) (L : List Int) (hr : R32 L) (hL : L.length < 1000000000000) : PCall qa 82 [v, .sl n f (aA L)] fun x => ∃ n f, x = .sl n f (aA (cV (aD rows 1) L)) := by
 obtain ⟨tc, tg, tj, tf, tp, made, sec, rfl, ht, hm⟩ := hv;have hT : ∀ r : Int, (-2147483648 <= r /\ r <= 2147483647) -> PCall qa 71 [.ptr [tc, tg, tj, tf, tp, .mp (eT made), .mp (jU sec)], .int .i32 r] fun v => v = .int .i64 (aD rows 1 r) := fun r hr => vO _ _ ht hr;exact PCall.ofA (args := [_, _]) (zve hk hT (zwa hT) L hr hL) fun r h' ⟨hr, hh⟩ => by subst hr; subst hh; exact ⟨_, rfl, _, _, rfl⟩
theorem zk5 (hp : dJ rows) {l : List Int} (h : R32 l) : R32 (l.flatMap (aW rows 8)) := fun x hx => by
 obtain ⟨r, hr, h2⟩ := List.mem_flatMap.1 hx;rcases uZ hp 8 r x h2 with rfl | h3
 ·exact h x hr
 ·omega
theorem wG (rows : List Row) (l : List Int) : (l.flatMap (aW rows 8)).length <= 768 * l.length := by
 induction l with
 | nil => simp
 | cons x l ih =>
   have := mI rows 8 x;rw [qbk, qb, qg]; omega
theorem zk6 (rows : List Row) {l : List Int} {i : Nat} (hi : i < l.length) : (l.take (i + 1)).flatMap (aW rows 8) = (l.take i).flatMap (aW rows 8) ++ aW rows 8 l[i] := by
 rw [dD hi, qao]; simp
theorem zwc (hp : dJ rows) (hk : iN rows) (hv : fN rows v) (n f : Bool) (L : List Int) (hr : R32 L) (hL : L.length < 1000000) : PCall qa 55 [v, .sl n f (aA L)] fun x => ∃ n f, x = .sl n f (aA (jF rows L)) := by
 have hv' := hv;obtain ⟨tc, tg, tj, tf, tp, made, sec, rfl, ht, hm⟩ := hv;refine zvy _ _ _ _ _ _ _ _ _ _ (fun i h0 _ s => h0 = .ptr [tc, tg, tj, tf, tp, .mp (eT made), .mp (jU sec)] /\ 0 <= i /\ i <= L.length /\ s = aA ((L.take i.toNat).flatMap (aW rows 8))) (fun i _ _ _ => L.length - i.toNat) ?_;unfold zkw;refine ⟨rfl, ⟨rfl, rfl, qt _, by omega, rfl⟩, ?_⟩;rintro i h0 n1 _ ⟨rfl, i0, i1, rfl⟩;refine aG (fun hc => ?_) (fun hc => ?_)
 ·simp only [aB, bN] at hc;have hi : i.toNat < L.length := by omega
  obtain ⟨g1, g2⟩ := iE i0 hi;have hx := hr _ (qi hi);have hw : i64.wrap (i + 1) = i + 1 := aC (by omega) (by omega);have hfl := wG rows (L.take i.toNat);rw [qk] at hfl;refine ⟨g1, L[i.toNat], by rw [g2]; rfl, ?_⟩;refine (zuu _ _ hp ht 8 _ n1 _ (by omega) hx (by omega)).mono ?_;rintro r h' ⟨nl, rfl, rfl⟩;rw [hw];exact ⟨(nl, _), ⟨rfl, rfl⟩, ⟨trivial, trivial, trivial⟩, rfl, ⟨rfl, by omega, by omega, by rw [show (i + 1).toNat = i.toNat + 1 by omega, zk6 rows hi]; rfl⟩, by dsimp only; omega⟩
 ·simp only [aB, bN] at hc;rw [qh (by omega)];have hfl := wG rows L;refine (zwb hk hv' n1 false _ (zk5 hp hr) (by omega)).mono ?_;rintro _ ⟨n2, f2, rfl⟩;exact ⟨_, _, _, rfl, _, _, rfl⟩
theorem zwd (hp : dJ rows) (hk : iN rows) (n f n2 f2 : Bool) (hrl : rows.length < 1000000) (L : List Int) (hr : R32 L) (hL : L.length < 1000000) : PCall qa 52 [.sl n f (bO rows), .sl n2 f2 (aA L)] fun x => ∃ n f, x = .sl n f (aA (jF rows L)) := by
 refine zvz _ _ _ _ _ _ (fun i _ s => 0 <= i /\ i <= L.length /\ s = aA ((L.take i.toNat).flatMap (aW rows 8))) (fun i _ _ => L.length - i.toNat) ?_;unfold zkx;refine ⟨⟨rfl, qt _, by omega, rfl⟩, ?_⟩;rintro i n1 _ ⟨i0, i1, rfl⟩;refine aG (fun hc => ?_) (fun hc => ?_)
 ·simp only [aB, bN] at hc;have hi : i.toNat < L.length := by omega
  obtain ⟨g1, g2⟩ := iE i0 hi;have hx := hr _ (qi hi);have hw : i64.wrap (i + 1) = i + 1 := aC (by omega) (by omega);have hfl := wG rows (L.take i.toNat);rw [qk] at hfl;have hf1 := mI rows 8 L[i.toNat]
  have he : aA ((L.take i.toNat).flatMap (aW rows 8)) ++ aA (aW rows 8 L[i.toNat]) = aA ((L.take (i + 1).toNat).flatMap (aW rows 8)) := by
   rw [show (i + 1).toNat = i.toNat + 1 by omega, zk6 rows hi, jV]
  refine ⟨g1, L[i.toNat], by rw [g2]; rfl, ?_⟩;rw [hw];refine (zus hp n f hrl 8 _ (by omega) hx).mono ?_;rintro r h' (⟨nl, rfl, rfl⟩ | ⟨rfl, rfl⟩)
  ·exact .inl ⟨(nl, _), ⟨rfl, rfl⟩, trivial, ⟨dT _, by simp only [bN, qe]; omega⟩, rfl, ⟨by omega, by omega, he⟩, by dsimp only; omega⟩
  ·exact .inr ⟨_, ⟨rfl, rfl⟩, trivial, ⟨dT _, by rw [bN, bN]; omega⟩, rfl, ⟨by omega, by omega, he⟩, by dsimp only; omega⟩
 ·simp only [aB, bN] at hc;rw [qh (by omega)];have hfl := wG rows L;refine (zv9 hk n f n1 false _ hrl (by omega) (zk5 hp hr)).mono ?_;rintro _ ⟨n2, f2, rfl⟩;exact ⟨_, _, _, rfl, _, _, rfl⟩
theorem zk7 (hk : iN rows) {l : List Int} (h : l.length < 1000000) : (jF rows l).length < 1000000000000 := by
 have := zqu hk l; omega
end
end Go.Eng
namespace Go.Eng
open Go Go.Proofs Go.Eng.Rows Go.Eng.Trie
end Go.Eng
namespace Go.Eng
open Go Go.Proofs
section
variable (a b : Int)
def zk8 (R : PV -> Prop) : Prop :=
 if (decide (a >= 4352) && decide (a < 4371) && decide (b >= 4449) && decide (b < 4470)) = true then R (PV.tup [Z3 (i32.wrap ((44032 : Int) + i32.wrap (i32.wrap (i32.wrap (i32.wrap (i32.wrap (a - 4352) * 21) + b) - 4449) * 28))), Zb true]) else PCall qa 131 [Z3 a] fun v => ∃ b1, v = Zb b1 /\ if (b1 && (i32.wrap (a - 44032)).tmod (28 : Int) == 0 && decide (b > 4519) && decide (b < 4547)) = true then R (PV.tup [Z3 (i32.wrap (i32.wrap (a + b) - 4519)), Zb true]) else R (PV.tup [Z3 0, Zb false])
theorem zwe {R : PV -> Prop} (h : zk8 a b R) : PCall qa 106 [.int .i32 a, .int .i32 b] R :=
 PCall.wz Tryz.func106 aP [0, 1, 4, 5, 6, 29] bG h
end
section
variable (tc tg tj tf tp : PV) (M S : List (PV × PV)) (a b : Int)
def zk9 (R : PV -> Prop) : Prop :=
 PCall qa 106 [Z3 a, Z3 b] fun v => ∃ vs, v = PV.tup vs /\ vs.length = 2 /\ ∃ x, vs.head? = some x /\ ∃ n, x = Z3 n /\ ∃ x1, vs.tail.head? = some x1 /\ ∃ b1, x1 = Zb b1 /\ if b1 = true then R (PV.tup [Z3 n, Zb true]) else PCall qa 107 [PV.ptr [tc, tg, tj, tf, tp, PV.mp M, PV.mp S], Z3 a, Z3 b] fun v1 => ∃ vs1, v1 = PV.tup vs1 /\ vs1.length = 2 /\ ∃ x2, vs1.head? = some x2 /\ ∃ n1, x2 = Z3 n1 /\ ∃ x3, vs1.tail.head? = some x3 /\ ∃ b2, x3 = Zb b2 /\ R (PV.tup [Z3 n1, Zb b2])
theorem zwf {R : PV -> Prop} (h : zk9 tc tg tj tf tp M S a b R) : PCall qa 80 [.ptr [tc, tg, tj, tf, tp, .mp M, .mp S], .int .i32 a, .int .i32 b] R :=
 PCall.wz Tryz.func80 aP [0, 1, 2, 6, 7, 8, 9, 16] bG h
end
def zc2 (tc tg tj tf tp : PV) (M S : List (PV × PV)) (n f : Bool) (es : LL) (x6 x7 x16 : Int) (n_0 : Bool) (s_0 : LL) : Env × Hp := ([(0, LV.pv (PV.ptr [tc, tg, tj, tf, tp, PV.mp M, PV.mp S])), (5, LV.own 0), (6, Y6 x6), (7, Y6 x7), (14, LV.pv (PV.sl n f es)), (15, LV.pv (PV.int i64 (es.length : Int))), (16, Y6 x16)], [.sl (21, 1) true n_0 s_0])
section
variable (tc tg tj tf tp : PV) (M S : List (PV × PV)) (n f : Bool) (es : LL) (J : Int -> Int -> Int -> Bool -> LL -> Prop) (μ : Int -> Int -> Int -> Bool -> LL -> Nat)
def zla (R : PV -> Prop) : Prop :=
 (aH (zc2 tc tg tj tf tp M S n f es (-1 : Int) (0 : Int) (0 : Int) true []) /\ J (-1 : Int) (0 : Int) (0 : Int) true []) /\ ∀ (x6 x7 x16 : Int) (n_0 : Bool) (s_0 : LL), J x6 x7 x16 n_0 s_0 ->
 let K5 := fun (y0_ y1_ y2_ : Int) (y3_ : Bool) (y4_ : LL) => aH (zc2 tc tg tj tf tp M S n f es y0_ y1_ y2_ y3_ y4_) /\ J y0_ y1_ y2_ y3_ y4_ /\ μ y0_ y1_ y2_ y3_ y4_ < μ x6 x7 x16 n_0 s_0; if decide (x16 < (↑es.length :
  Int)) = true then aI es x16 1 /\ ∃ n1, (es.getD x16.toNat []).head? = some (Z3 n1) /\ PCall qa 71 [PV.ptr [tc, tg, tj, tf, tp, PV.mp M, PV.mp S], Z3 n1] fun v => ∃ n2, v = Z6 n2 /\
 let V1 := if (n2 == 0) = true then (aR [[Z3 n1]] 1 /\ (s_0.length + 1) * 4 <= 140737488355328) /\ K5 (↑s_0.length : Int) n2 (i64.wrap (x16 + 1)) (n_0 && false) (s_0 ++ [[Z3 n1]]) else (aR [[Z3 n1]] 1 /\ (s_0.length + 1) * 4 <=
  140737488355328) /\ K5 x6 n2 (i64.wrap (x16 + 1)) (n_0 && false) (s_0 ++ [[Z3 n1]]); if (decide (x6 >= 0) && (x6 == i64.wrap ((↑s_0.length : Int) - 1) || x7 != 0 && decide (x7 < n2))) = true then aI s_0 x6 1 /\ ∃ (n3 :
  Int), (qd 0 (s_0.getD x6.toNat [])).head? = some (Z3 n3) /\ PCall qa 80 [PV.ptr [tc, tg, tj, tf, tp, PV.mp M, PV.mp S], Z3 n3, Z3 n1] fun v1 => ∃ vs, v1 = PV.tup vs /\ vs.length = 2 /\ ∃ x, vs.head? =
  some x /\ ∃ n4, x = Z3 n4 /\ ∃ x1, vs.tail.head? = some x1 /\ ∃ b, x1 = Zb b /\ if b = true then aI s_0 x6 1 /\ (1 = 1 /\ 1 <= (s_0.getD x6.toNat []).length) /\ K5 x6 x7 (i64.wrap (x16 + 1)) n_0 (s_0.set
  x6.toNat (Z3 n4 :: zq (qd 1 (s_0.getD x6.toNat [])))) else V1 else V1 else R (PV.sl n_0 false s_0)
theorem zwg {R : PV -> Prop} (h : zla tc tg tj tf tp M S n f es J μ R) : PCall qa 54 [.ptr [tc, tg, tj, tf, tp, .mp M, .mp S], .sl n f es] R :=
 PCall.wz Tryz.func54 aP [0, 1, 4, 5, 6, 7, 9, 10, 11, 12, 13, 14, 15, 16, 17, 41, 52, 58] (dC 5 (bP cz5 (zc2 tc tg tj tf tp M S n f es) J μ (fun e h => (gI e 6, gI e 7, gI e 16, oN h 0, oS h 0)) [(5, 21, 1)] [0, 5, 6, 7, 14, 15, 16] [])) h
end
section
variable (tc tg tj tf tp : PV) (M S : List (PV × PV)) (n f : Bool) (es : LL)
def zlb (R : PV -> Prop) : Prop :=
 PCall qa 55 [PV.ptr [tc, tg, tj, tf, tp, PV.mp M, PV.mp S], PV.sl n f es] fun v => ∃ n1 f1 es1, v = PV.sl n1 f1 es1 /\ PCall qa 54 [PV.ptr [tc, tg, tj, tf, tp, PV.mp M, PV.mp S], PV.sl n1 f1 es1] fun v1 => ∃ n2 f2 es2, v1 = PV.sl n2 f2 es2 /\ R (PV.sl n2 f2 es2)
theorem zwh {R : PV -> Prop} (h : zlb tc tg tj tf tp M S n f es R) : PCall qa 34 [.ptr [tc, tg, tj, tf, tp, .mp M, .mp S], .sl n f es] R :=
 PCall.wz Tryz.func34 aP [0, 1, 4] bG h
end
end Go.Eng
namespace Go.Eng
open Go Go.Proofs Go.Eng.Rows Go.Eng.Trie Go.Eng.Srt
def kT : Option Int -> PV
 | some r => .tup [.int .i32 r, .bool true]
 | none => .tup [.int .i32 0, .bool false]
theorem zwi {a b : Int} (ha : -2147483648 <= a /\ a <= 2147483647) (hb : -2147483648 <= b /\ b <= 2147483647) : PCall qa 106 [.int .i32 a, .int .i32 b] fun v => v = kT (eR a b) := by
 refine zwe _ _ ?_; unfold zk8;refine aG (fun hc => ?_) (fun hc => ?_)
 ·simp only [qf, aB, ge_iff_le] at hc;have w1 : i32.wrap (a - 4352) = a - 4352 := cZ (by omega) (by omega);have w2 : i32.wrap ((a - 4352) * 21) = (a - 4352) * 21 := cZ (by omega) (by omega);have w3 : i32.wrap ((a - 4352) * 21 + b) = (a - 4352) * 21 + b := cZ (by omega) (by omega);have w4 : i32.wrap ((a - 4352) * 21 + b - 4449) = (a - 4352) * 21 + b - 4449 := cZ (by omega) (by omega);have w5 : i32.wrap (((a - 4352) * 21 + b - 4449) * 28) = ((a - 4352) * 21 + b - 4449) * 28 := cZ (by omega) (by omega);have w6 : i32.wrap (44032 + ((a - 4352) * 21 + b - 4449) * 28) = 44032 + ((a - 4352) * 21 + b - 4449) * 28 := cZ (by omega) (by omega);rw [w1, w2, w3, w4, w5, w6];unfold eR;rw [if_pos (by omega)];simp only [kT];rw [show (a - 4352) * 21 + b - 4449 = (a - 4352) * 21 + (b - 4449) by omega]
 ·simp only [qf, aB, ge_iff_le] at hc;refine (zka a).mono ?_;rintro _ rfl;refine ⟨_, rfl, ?_⟩;have hn : ¬ ((4352 <= a /\ a < 4371) /\ 4449 <= b /\ b < 4470) := by omega
  cases hs : bZ a with
  | false =>
    refine bS (by simp) ?_;unfold eR; rw [if_neg hn, if_neg (by rw [hs]; simp)]; rfl
  | true =>
    have hr := hs;simp only [bZ, qf, aB] at hr;have w1 : i32.wrap (a - 44032) = a - 44032 := cZ (by omega) (by omega);have e3 : (a - 44032).tmod 28 = (a - 44032) % 28 := Int.tmod_eq_emod_of_nonneg (by omega);rw [w1, e3];refine aG (fun h2 => ?_) (fun h2 => ?_)
    ·simp only [qf, aB, gt_iff_lt, beq_iff_eq, qaz] at h2;have w2 : i32.wrap (a + b) = a + b := cZ (by omega) (by omega);have w3 : i32.wrap (a + b - 4519) = a + b - 4519 := cZ (by omega) (by omega);rw [w2, w3];unfold eR; rw [if_neg hn, if_pos ⟨⟨hs, h2.1.1⟩, h2.1.2, h2.2⟩];simp only [kT];rw [show a + b - 4519 = a + (b - 4519) by omega]
    ·simp only [qf, aB, gt_iff_lt, beq_iff_eq, qaz] at h2;unfold eR; rw [if_neg hn, if_neg (by omega)]; rfl
section
variable {rows : List Row} {v : PV}
theorem zwj (hp : dJ rows) (h1 : eQ rows) (hv : fN rows v) {a b : Int} (ha : -2147483648 <= a /\ a <= 2147483647) (hb : -2147483648 <= b /\ b <= 2147483647) : PCall qa 80 [v, .int .i32 a, .int .i32 b] fun x => x = kT (fK rows a b) := by
 obtain ⟨tc, tg, tj, tf, tp, made, sec, rfl, ht, hm⟩ := hv;refine zwf _ _ _ _ _ _ _ _ _ ?_; unfold zk9;refine (zwi ha hb).mono ?_;rintro _ rfl;unfold fK;cases eR a b with
 | some r =>
   exact ⟨_, rfl, rfl, _, rfl, _, rfl, _, rfl, _, rfl, bV rfl rfl⟩
 | none =>
   refine ⟨_, rfl, rfl, _, rfl, _, rfl, _, rfl, _, rfl, bS (by simp) ?_⟩;refine (zup _ _ _ _ _ _ made a b).mono ?_;rintro _ rfl;rw [<- zqv hp h1 hm a b];unfold vP;split
   ·exact ⟨_, rfl, rfl, _, rfl, _, rfl, _, rfl, _, rfl, rfl⟩
   ·cases cG (a, b) made with
    | none => exact ⟨_, rfl, rfl, _, rfl, _, rfl, _, rfl, _, rfl, rfl⟩
    | some r => exact ⟨_, rfl, rfl, _, rfl, _, rfl, _, rfl, _, rfl, rfl⟩
def c8 (st : CSt) : Int := match st.s with | none => -1 | some _ => st.P.length
theorem zlc {d : List Int} : ∀ m ∈ (bQ rows d).M, aD rows 1 m ≠ 0 := by
 induction d using jE with
 | h0 => intro m hm; cases hm
 | h1 d r ih =>
   rw [iB];rcases pR rows (bQ rows d) r with e | ⟨a, c, hs, hp, _, e⟩
   ·rw [e];unfold cQ;split
    ·intro m hm; cases hm
    ·rename_i h0;intro m hm;rcases List.mem_append.1 hm with hm | hm
     ·exact ih m hm
     ·rw [qbc] at hm; subst hm; exact h0
   ·rw [e]; exact ih
def JC (rows : List Row) (L : List Int) (x6 x7 i : Int) (s : List (List PV)) : Prop := (0 <= i /\ i <= L.length) /\ s = aA (bQ rows (L.take i.toNat)).out /\ x6 = c8 (bQ rows (L.take i.toNat)) /\ x7 = dK (aD rows 1) (bQ rows (L.take i.toNat)).M
theorem JC.next {L : List Int} {i : Int} (h0 : 0 <= i) (hi : i.toNat < L.length) {st : CSt} (he : cN rows (bQ rows (L.take i.toNat)) L[i.toNat] = st) : JC rows L (c8 st) (dK (aD rows 1) st.M) (i + 1) (aA st.out) := by
 have e : bQ rows (L.take (i + 1).toNat) = st := by
  rw [show (i + 1).toNat = i.toNat + 1 by omega, dD hi, iB, he]
 exact ⟨⟨by omega, by omega⟩, by rw [e], by rw [e], by rw [e]⟩
theorem zwk (hp : dJ rows) (h1 : eQ rows) (hv : fN rows v) (n f : Bool) (L : List Int) (hr : R32 L) (hL : L.length < 1000000000000) : PCall qa 54 [v, .sl n f (aA L)] fun x => ∃ n f, x = .sl n f (aA (iA rows L)) := by
 have hv' := hv;obtain ⟨tc, tg, tj, tf, tp, made, sec, rfl, ht, hm⟩ := hv;refine zwg _ _ _ _ _ _ _ _ _ _ (fun x6 x7 i _ s => JC rows L x6 x7 i s) (fun _ _ i _ _ => L.length - i.toNat) ?_;unfold zla;refine ⟨⟨rfl, ⟨qt _, by omega⟩, rfl, rfl, rfl⟩, ?_⟩;rintro x6 x7 i n0 _ ⟨⟨i0, i1⟩, rfl, rfl, rfl⟩;refine aG (fun hc => ?_) (fun hc => ?_)
 ·simp only [aB, bN] at hc;have hi : i.toNat < L.length := by omega
  obtain ⟨g1, g2⟩ := iE i0 hi;have hx := hr _ (qi hi);have hw : i64.wrap (i + 1) = i + 1 := aC (by omega) (by omega);refine ⟨g1, L[i.toNat], by rw [g2]; rfl, ?_⟩;refine (vO _ _ ht hx).mono ?_;rintro _ rfl;refine ⟨_, rfl, ?_⟩;rw [hw];have hlen := zR rows (L.take i.toNat);have hrng := zS h1 (L.take i.toNat);have hnz := zlc (rows := rows) (d := L.take i.toNat);have hnP := sI (rows := rows) (d := L.take i.toNat);rw [qk] at hlen;unfold iA at hlen hrng;have next := fun st => JC.next (rows := rows) (st := st) i0 hi
  generalize bQ rows (L.take i.toNat) = st at *;have hmu : L.length - (i + 1).toNat < L.length - i.toNat := by omega
  have hsz : aR [[PV.int .i32 L[i.toNat]]] 1 /\ ((aA st.out).length + 1) * 4 <= 140737488355328 := ⟨dT [_], by rw [bN]; omega⟩;have hout : aA st.out ++ [[PV.int .i32 L[i.toNat]]] = aA (st.out ++ [L[i.toNat]]) := by rw [jV]; rfl
  have hl : ((aA st.out).length : Int) = st.out.length := by rw [bN]
  have app0 : cN rows st L[i.toNat] = cQ (aD rows 1) st L[i.toNat] -> aD rows 1 L[i.toNat] = 0 -> JC rows L (aA st.out).length (aD rows 1 L[i.toNat]) (i + 1) (aA st.out ++ [[PV.int .i32 L[i.toNat]]]) := fun he h0 => by
   have := next _ (he.trans (by unfold cQ; rw [if_pos h0]))
   rw [hout, hl, h0];simpa [c8, dK, CSt.out] using this
  have app1 : cN rows st L[i.toNat] = cQ (aD rows 1) st L[i.toNat] -> aD rows 1 L[i.toNat] ≠ 0 -> JC rows L (c8 st) (aD rows 1 L[i.toNat]) (i + 1) (aA st.out ++ [[PV.int .i32 L[i.toNat]]]) := fun he h0 => by
   have := next _ (he.trans (by unfold cQ; rw [if_neg h0]))
   rw [hout];simp only [sH] at this;have e2 : st.out ++ [L[i.toNat]] = CSt.out ⟨st.P, st.s, st.M ++ [L[i.toNat]]⟩ := by simp [CSt.out]
   rw [e2];exact this
  refine aG (fun hf => ?_) (fun hf => ?_)
  ·simp only [qf, aB, qp, beq_iff_eq, bne_iff_ne, ne_eq, ge_iff_le] at hf;obtain ⟨hf1, hf2⟩ := hf;cases hs : st.s with
   | none => simp [c8, hs] at hf1
   | some a =>
     have hsi : c8 st = st.P.length := by simp [c8, hs]
     have hol : st.out.length = st.P.length + 1 + st.M.length := by simp [CSt.out, hs]; omega
     have hw2 : i64.wrap ((aA st.out).length - 1) = st.out.length - 1 := by rw [hl]; exact aC (by omega) (by omega)
     have hfree : st.M = [] ∨ dK (aD rows 1) st.M < aD rows 1 L[i.toNat] := by
      rcases hf2 with h | h
      ·rw [hw2, hsi] at h;exact .inl (qab (by omega))
      ·exact .inr h.2
     have hat : st.out[st.P.length]'(by omega) = a := by simp [CSt.out, hs]
     obtain ⟨k1, k2⟩ := iE (l := st.out) (i := c8 st) (by omega) (by omega);have hta : (c8 st).toNat = st.P.length := by omega
     have k3 : (aA st.out).getD (c8 st).toNat [] = [PV.int .i32 a] := by
      rw [k2]; simp only [hta, hat]
     have ha : -2147483648 <= a /\ a <= 2147483647 := by
      rcases hrng a (by simp [CSt.out, hs]) with h | h
      ·exact hr a (qaa h)
      ·omega
     refine ⟨k1, a, by rw [k3]; rfl, ?_⟩;refine (zwj hp h1 hv' ha hx).mono ?_;rintro _ rfl;cases hpc : fK rows a L[i.toNat] with
     | some c =>
       refine ⟨_, rfl, rfl, _, rfl, _, rfl, _, rfl, _, rfl, bV rfl ⟨k1, ⟨rfl, by rw [k3]; exact qj _⟩, rfl, ?_, by dsimp only; omega⟩⟩;rw [k3, hta]
       have he : cN rows st L[i.toNat] = ⟨st.P, some c, st.M⟩ := by
        unfold cN; rw [hs]; simp only; rw [if_pos hfree, hpc]
       have := next _ he
       have e2 : (aA st.out).set st.P.length [PV.int .i32 c] = aA (CSt.out ⟨st.P, some c, st.M⟩) := by
        simp [CSt.out, hs, aA]
       have e3 : c8 ⟨st.P, some c, st.M⟩ = c8 st := by rw [hsi]; rfl
       rw [e3] at this;show JC rows L (c8 st) (dK (aD rows 1) st.M) (i + 1) ((aA st.out).set st.P.length [PV.int .i32 c]);rw [e2];exact this
     | none =>
       have he : cN rows st L[i.toNat] = cQ (aD rows 1) st L[i.toNat] := by
        unfold cN; rw [hs]; simp only; rw [if_pos hfree, hpc]
       refine ⟨_, rfl, rfl, _, rfl, _, rfl, _, rfl, _, rfl, bS (by simp) (aG (fun h0 => ?_) (fun h0 => ?_))⟩
       ·exact ⟨hsz, rfl, app0 he (by simpa using h0), by dsimp only; omega⟩
       ·exact ⟨hsz, rfl, app1 he (by simpa using h0), by dsimp only; omega⟩
  ·simp only [qf, aB, qp, beq_iff_eq, bne_iff_ne, ne_eq, ge_iff_le] at hf
   have he : cN rows st L[i.toNat] = cQ (aD rows 1) st L[i.toNat] := by
    rcases pR rows st L[i.toNat] with e | ⟨a, c, hs, hpc, hfree, e⟩
    ·exact e
    ·have hsi : c8 st = st.P.length := by simp [c8, hs]
     have hol : st.out.length = st.P.length + 1 + st.M.length := by simp [CSt.out, hs]; omega
     have hw2 : i64.wrap ((aA st.out).length - 1) = st.out.length - 1 := by rw [hl]; exact aC (by omega) (by omega)
     refine absurd ⟨by omega, ?_⟩ hf;by_cases hM : st.M = []
     ·left; rw [hw2, hsi, hol, hM]; simp
     ·right;obtain ⟨m, hm, e⟩ := zV (key := aD rows 1) hM;exact ⟨by rw [e]; exact hnz m hm, hfree.elim (fun e => absurd e hM) id⟩
   refine aG (fun h0 => ?_) (fun h0 => ?_)
   ·exact ⟨hsz, rfl, app0 he (by simpa using h0), by dsimp only; omega⟩
   ·exact ⟨hsz, rfl, app1 he (by simpa using h0), by dsimp only; omega⟩
 ·simp only [aB, bN] at hc;rw [qh (by omega)];exact ⟨_, _, rfl⟩
theorem zwl (hp : dJ rows) (h1 : eQ rows) (hk : iN rows) (hv : fN rows v) (n f : Bool) (L : List Int) (hr : R32 L) (hL : L.length < 1000000) : PCall qa 34 [v, .sl n f (aA L)] fun x => ∃ n f, x = .sl n f (aA (dL rows L)) := by
 have hv' := hv;obtain ⟨tc, tg, tj, tf, tp, made, sec, rfl, ht, hm⟩ := hv;refine zwh _ _ _ _ _ _ _ _ _ _ ?_; unfold zlb;refine (zwc hp hk hv' n f L hr hL).mono ?_;rintro _ ⟨n1, f1, rfl⟩;refine ⟨_, _, _, rfl, ?_⟩;refine (zwk hp h1 hv' _ _ _ (zN hk hp hr) (zk7 hk hL)).mono ?_;rintro _ ⟨n2, f2, rfl⟩;exact ⟨_, _, _, rfl, _, _, rfl⟩
theorem zwm (hp : dJ rows) (h1 : eQ rows) (hk : iN rows) {l : List Int} (h : R32 l) : R32 (dL rows l) := fun x hx => by
 rcases zS h1 _ x hx with h2 | h2
 ·exact zN hk hp h x h2
 ·omega
end
theorem v22 : Tryz.prog.underlying 22 = some (.slice 21) := by kernel_rfl
theorem v21 : Tryz.prog.underlying 21 = some (.int .i32) := by kernel_rfl
theorem zld {v : PV} (h : pM qa 8 22 v) : ∃ nl l, v = .sl nl false (aA l) /\ R32 l := by
 obtain ⟨nl, l, e, hl, _, hr⟩ := zpi v22 v21 (zpj (by kernel_rfl) h);cases e;exact ⟨nl, l, rfl, hr⟩
end Go.Eng
namespace Go.Eng
open Go Go.Proofs
end Go.Eng
namespace Go.Eng
open Go Go.Proofs Go.Eng.Rows Go.Eng.Trie Go.Eng.Srt
theorem zc3 {t : PV} (ht : fN tab t) (n f : Bool) (L : List Int) (hr : R32 L) (hL : L.length < 1000000) : PCall qa 34 [t, .sl n f (aA L)] fun x => ∃ n f, x = .sl n f (aA (dL tab L)) := zwl wE sU wF ht n f L hr hL
theorem zle (n f n2 f2 : Bool) (a b : List Int) (hl : a.length < 1000000000000) : PCall qa 21 [.sl n f (aA a), .sl n2 f2 (aA b)] fun x => x = .bool (decide (a = b)) := zv8 n f n2 f2 a b hl
theorem zlf {l : List Int} (h : R32 l) : R32 (dL tab l) := zwm wE sU wF h
theorem zlg (l : List Int) (k : Nat) : (l.take k).length <= k := by rw [qk]; omega
theorem zwn {len : Nat} {i j : Int} (h0 : 0 <= i) (h1 : i <= j) (h2 : j <= len) : d9 len (some i) (some j) none := ⟨h0, h1, h2, trivial⟩
theorem zc4 (L : List Int) (i j : Nat) : qd i (qam j (aA L)) = aA (dQ L i j) := by simp [aA, dQ]
theorem R32.sub {L : List Int} (h : R32 L) (i j : Nat) : R32 (dQ L i j) := fun x hx => h x (qaa (List.mem_of_mem_drop hx))
theorem zwo (L : List Int) (i j : Nat) : (dQ L i j).length <= L.length := by unfold dQ; rw [qac, qk]; omega
theorem w3 : Tryz.prog.underlying 3 = some (.int .i64) := by kernel_rfl
end Go.Eng

namespace Go.Eng.Rows
open Go Go.Eng Go.Eng.Trie Go.Eng.Srt
def wH (rows : List Row) (hard : List Int) (lo hi : Int) : Bool := rows.all fun y => !(decide (y.kind = 4) && hard.contains y.a) || (decide (y.to < lo) || decide (hi < y.fr))
theorem zlh {rows : List Row} {hard : List Int} {lo hi r : Int} (h : wH rows hard lo hi = true) (h0 : hard.contains 0 = false) (h1 : hard.contains 12 = false) (h2 : hard.contains 13 = false) (hr : lo <= r /\ r <= hi) : hard.contains (bW rows r) = false := by
 unfold bW;split
 ·split <;> assumption
 ·unfold aD;cases hf : cH rows 4 r with
  | none => exact h0
  | some p =>
    obtain ⟨x, hx, hk, ha, _, h3, h4, _⟩ := kK hf;dsimp only;rw [<- ha];have := List.all_eq_true.1 h x hx;simp only [qp, qak, qax, aB, dZ] at this;rcases this with (h5 | h5) | h5 | h5
    ·exact absurd hk h5
    ·exact h5
    ·omega
    ·omega
def zwp (rows : List Row) : Bool := rows.all fun x =>
 (!(decide (x.kind = 5) && decide (x.a = 1)) || wH rows [1, 2, 3, 5] x.fr x.to) &&
 (!decide (x.kind = 6) || (wH rows [1, 2, 3] x.fr x.to && ((decide (0 <= x.a) && decide (x.a <= 2)) && (!decide (x.a = 1) || (decide (x.fr = x.to) && (decide (bW rows x.fr = 4) || (decide (bW rows x.fr = 5) || decide (bW rows x.fr = 8))))))))
theorem zwq {b : Int} (h : ([1, 2, 3] : List Int).contains b = false) : gL b = false := by
 simp only [qbg, qbl, qbu, qai, beq_eq_false_iff_ne, ne_eq] at h;unfold gL;simp only [qai, dZ]; omega
theorem zwr {rows : List Row} (h : zwp rows = true) : kN rows := by
 have hall := List.all_eq_true.1 h
 have h6 : ∀ r, aD rows 6 r ≠ 0 -> ∃ x ∈ rows, x.kind = 6 /\ x.a = aD rows 6 r /\ x.fr <= r /\ r <= x.to := fun r hr => by
  unfold aD at hr ⊢;cases hf : cH rows 6 r with
  | none => rw [hf] at hr; exact absurd rfl hr
  | some p =>
    obtain ⟨x, hx, hk, ha, _, h3, h4, _⟩ := kK hf;exact ⟨x, hx, hk, ha, h3, h4⟩
 have g6 : ∀ x ∈ rows, x.kind = 6 -> wH rows [1, 2, 3] x.fr x.to = true /\ (0 <= x.a /\ x.a <= 2) /\ (x.a ≠ 1 ∨ (x.fr = x.to /\ (bW rows x.fr = 4 ∨ bW rows x.fr = 5 ∨ bW rows x.fr = 8))) := fun x hx hk => by
  have := hall x hx;simp only [qf, qp, qak, aB, dZ] at this;rcases this.2 with h | h
  ·exact absurd hk h
  ·exact h
 refine ⟨fun r hr => ?_, fun r => ?_, fun r hr => ?_, fun r hr => ?_⟩
 ·unfold dG at hr;cases hf : cH rows 5 r with
  | none => rw [hf] at hr; cases hr
  | some p =>
    rw [hf] at hr;obtain ⟨x, hx, hk, ha, _, h3, h4, _⟩ := kK hf;have := hall x hx;simp only [qf, qp, qak, qax, dZ] at this;rcases this.1 with (h5 | h5) | h5
    ·exact absurd hk h5
    ·exact absurd (ha.trans (of_decide_eq_true hr)) h5
    ·have := zlh h5 (by decide) (by decide) (by decide) ⟨h3, h4⟩;simp only [qbg, qbl, qbu, qai, beq_eq_false_iff_ne, ne_eq] at this;refine ⟨?_, this.2.2.2⟩;unfold gL;simp only [qai, dZ]; exact ⟨this.2.2.1, this.1, this.2.1⟩
 ·unfold dM;split
  ·rename_i hn;obtain ⟨x, hx, hk, ha, _, _⟩ := h6 r hn;have := (g6 x hx hk).2.1;omega
  ·split
   ·exact .inr (.inr (.inr rfl))
   ·exact .inl rfl
 ·unfold dM at hr;split at hr
  ·rename_i hn;obtain ⟨x, hx, hk, ha, h3, h4⟩ := h6 r hn;exact zwq (zlh (g6 x hx hk).1 (by decide) (by decide) (by decide) ⟨h3, h4⟩)
  ·split at hr
   ·rename_i h4;unfold gL;rcases h4.1 with e | e <;> rw [e] <;> rfl
   ·exact absurd rfl hr
 ·unfold dM at hr;split at hr
  ·rename_i hn;obtain ⟨x, hx, hk, ha, h3, h4⟩ := h6 r hn;obtain ⟨_, g2, g3⟩ := g6 x hx hk;have h1 : x.a = 1 := by omega
   obtain ⟨g4, g5⟩ := g3.resolve_left (fun h => h h1);rw [show r = x.fr by omega]; exact g5
  ·split at hr
   ·rename_i h4;rcases h4.1 with e | e
    ·exact .inl e
    ·exact .inr (.inl e)
   ·omega
end Go.Eng.Rows
namespace Go.Eng
open Go.Eng.Rows
theorem zli : kN tab := zwr (by kernel_rfl)
end Go.Eng

namespace Go.Eng
open Go Go.Proofs
section
variable (tc tg tj tf tp : PV) (M S : List (PV × PV)) (r : Int)
def zlj (R : PV -> Prop) : Prop :=
 if (decide (r >= 44032) && decide (r <= 55203) && (i32.wrap (r - 44032)).tmod (28 : Int) == 0) = true then R (Z6 12) else if (decide (r >= 44032) && decide (r <= 55203)) = true then R (Z6 13) else (∃ ps, some tg = some (PV.ptr ps) /\ PCall qa 94 [PV.ptr ps, Z6 (i64.wrap r)] fun v => ∃ n, v = Z6 n /\ R (Z6 n)) ∨ some tg = some PV.nilp /\ PCall qa 94 [PV.nilp, Z6 (i64.wrap r)] fun v => ∃ n, v = Z6 n /\ R (Z6 n)
theorem zws {R : PV -> Prop} (h : zlj tg r R) : PCall qa 102 [.ptr [tc, tg, tj, tf, tp, .mp M, .mp S], .int .i32 r] R :=
 PCall.wz Tryz.func102 aP [0, 1, 4, 5, 18, 25] bG h
end
section
variable (tc tg tj tf tp : PV) (M S : List (PV × PV)) (r : Int)
def zlk (R : PV -> Prop) : Prop :=
 let V1 := PCall qa 102 [PV.ptr [tc, tg, tj, tf, tp, PV.mp M, PV.mp S], Z3 r] fun v1 => ∃ n1, v1 = Z6 n1 /\ if ((n1 == 4 || n1 == 5) && r != 8204) = true then R (Z6 3) else R (Z6 0); (∃ ps, some tj = some (PV.ptr ps) /\ PCall qa 94 [PV.ptr ps, Z6 (i64.wrap r)] fun v => ∃ n, v = Z6 n /\ if (n != 0) = true then R (Z6 n) else V1) ∨ some tj = some PV.nilp /\ PCall qa 94 [PV.nilp, Z6 (i64.wrap r)] fun v => ∃ n, v = Z6 n /\ if (n != 0) = true then R (Z6 n) else V1
theorem zwt {R : PV -> Prop} (h : zlk tc tg tj tf tp M S r R) : PCall qa 104 [.ptr [tc, tg, tj, tf, tp, .mp M, .mp S], .int .i32 r] R :=
 PCall.wz Tryz.func104 aP [0, 1, 4, 5, 6, 8, 17, 31] bG h
end
section
variable (tc tg tj tf tp : PV) (M S : List (PV × PV)) (r : Int)
def zll (R : PV -> Prop) : Prop :=
 (∃ ps, some tf = some (PV.ptr ps) /\ PCall qa 70 [PV.ptr ps, Z6 (i64.wrap r)] fun v => ∃ cs, v = PV.agg cs /\ cs.length = 4 /\ ∃ b, cs.head? = some (Zb b) /\ ∃ b1, cs.tail.head? = some (Zb b1) /\ ∃ b2, cs.tail.tail.head? = some (Zb b2) /\ ∃ b3, cs.tail.tail.tail.head? = some (Zb b3) /\ R (Zb b)) ∨ some tf = some PV.nilp /\ PCall qa 70 [PV.nilp, Z6 (i64.wrap r)] fun v => ∃ cs, v = PV.agg cs /\ cs.length = 4 /\ ∃ b, cs.head? = some (Zb b) /\ ∃ b1, cs.tail.head? = some (Zb b1) /\ ∃ b2, cs.tail.tail.head? = some (Zb b2) /\ ∃ b3, cs.tail.tail.tail.head? = some (Zb b3) /\ R (Zb b)
theorem zwu {R : PV -> Prop} (h : zll tf r R) : PCall qa 103 [.ptr [tc, tg, tj, tf, tp, .mp M, .mp S], .int .i32 r] R :=
 PCall.wz Tryz.func103 aP [0, 1, 4] bG h
end
section
variable (a b : Int)
def zlm (R : PV -> Prop) : Prop :=
 let X := if (a == 13) = true then if (a == 13) = true then R (Zb (b == 11)) else R (Zb false) else if (a == 11) = true then R (Zb (b == 11)) else R (Zb false)
 let A := if (a == 7) = true then R (Zb true) else if (a == 9) = true then R (Zb (b == 9 || b == 10 || b == 12 || b == 13)) else if (a == 12) = true then if (a == 12) = true then R (Zb (b == 10 || b == 11)) else X else if (a == 10) = true then R (Zb (b == 10 || b == 11)) else X
 let B := if (b == 4) = true then if (b == 4) = true then R (Zb true) else A else if (b == 5) = true then if (b == 5) = true then R (Zb true) else A else if (b == 8) = true then R (Zb true) else A
 let C := if (b == 1) = true then if (b == 1) = true then R (Zb false) else B else if (b == 2) = true then if (b == 2) = true then R (Zb false) else B else if (b == 3) = true then R (Zb false) else B
 if (a == 1) = true then R (Zb (b == 2)) else if (a == 2) = true then if (a == 2) = true then R (Zb false) else C else if (a == 3) = true then R (Zb false) else C
theorem zwv {R : PV -> Prop} (h : zlm a b R) : PCall qa 105 [.int .i64 a, .int .i64 b] R :=
 PCall.wz Tryz.func105 aP [0, 1, 4, 5, 6, 10, 13, 14, 18, 22, 23, 25, 41, 50] bG h
end
section
variable (so od : Bool) (la pi co : Int) (tc tg tj tf tp : PV) (M S : List (PV × PV)) (r : Int)
def zln (R : PV -> Prop) : Prop :=
 PCall qa 102 [PV.ptr [tc, tg, tj, tf, tp, PV.mp M, PV.mp S], Z3 r] fun v => ∃ n, v = Z6 n /\ PCall qa 103 [PV.ptr [tc, tg, tj, tf, tp, PV.mp M, PV.mp S], Z3 r] fun v1 => ∃ b, v1 = Zb b /\ PCall
 qa 104 [PV.ptr [tc, tg, tj, tf, tp, PV.mp M, PV.mp S], Z3 r] fun v2 => ∃ n1, v2 = Z6 n1 /\ PCall qa 105 [Z6 la, Z6 n] fun v3 => ∃ b1, v3 = Zb b1 /\
 let C : Int -> Bool -> Bool -> Prop := fun p o c => if (n1 == 2) = true then R (PV.tup [PV.agg [Zb true, Z6 n, Z6 p, Z6 1, Zb o], Zb c]) else if (co != 0 && n1 == 1) = true then R (PV.tup [PV.agg [Zb true, Z6 n, Z6 p, Z6 2, Zb o], Zb c]) else if (co != 0 && n1 == 3) = true then R (PV.tup [PV.agg [Zb true, Z6 n, Z6 p, Z6 co, Zb o], Zb c]) else R (PV.tup [PV.agg [Zb true, Z6 n, Z6 p, Z6 0, Zb o], Zb c])
 let D : Bool -> Bool -> Prop := fun o c => if b = true then C 1 o c else if (pi == 1 && n == 4) = true then C 1 o c else if (pi == 1 && n == 5) = true then C 2 o c else C 0 o c
 let E : Bool -> Prop := fun c => if (n == 6) = true then D (!od) c else D false c
 if (!b1) = true then if (!(pi == 2 && b)) = true then if (!(co == 2 && n1 == 2)) = true then E (!so || !(od && n == 6)) else E (!so || false) else E (!so || false) else E (!so || false)
theorem zww {R : PV -> Prop} (h : zln so od la pi co tc tg tj tf tp M S r R) : PCall qa 79 [.agg [.bool so, .int .i64 la, .int .i64 pi, .int .i64 co, .bool od], .ptr [tc, tg, tj, tf, tp, .mp M, .mp S], .int .i32 r] R :=
 PCall.wz Tryz.func79 aP [0, 1, 2, 3, 6, 7, 8, 9, 10, 11, 12, 64, 67, 76, 85, 89, 98] bG h
end
def zc5 (tc tg tj tf tp : PV) (M S : List (PV × PV)) (n f : Bool) (es : LL) (x2 : Int) (h0_0 : Bool) (h0_1 h0_2 h0_3 : Int) (h0_4 : Bool) : Env × Hp := ([(0, LV.pv (PV.ptr [tc, tg, tj, tf, tp, PV.mp M, PV.mp S])), (1, LV.pv (PV.sl n f es)), (2, Y6 x2), (7, LV.box 0 0)], [.box [.pv (.bool h0_0), Y6 h0_1, Y6 h0_2, Y6 h0_3, .pv (.bool h0_4)]])
section
variable (tc tg tj tf tp : PV) (M S : List (PV × PV)) (n f : Bool) (es : LL) (k : Int) (J : Int -> Bool -> Int -> Int -> Int -> Bool -> Prop) (μ : Int -> Bool -> Int -> Int -> Int -> Bool -> Nat)
def zlo (R : PV -> Prop) : Prop :=
 if (decide (k < 0) || decide (k >= (↑es.length : Int))) = true then R (Z6 (↑es.length : Int)) else aI es k 1 /\ ∃ n1, (es.getD k.toNat []).head? = some (Z3 n1) /\ PCall qa 79 [PV.agg [Zb false, Z6 0, Z6 0, Z6 0, Zb false],
  PV.ptr [tc, tg, tj, tf, tp, PV.mp M, PV.mp S], Z3 n1] fun v => ∃ vs, v = PV.tup vs /\ vs.length = 2 /\ ∃ x, vs.head? = some x /\ ∃ cs, x = PV.agg cs /\ cs.length = 5 /\ ∃ b, cs.head? = some (Zb b)
  /\ ∃ n2, cs.tail.head? = some (Z6 n2) /\ ∃ n3, cs.tail.tail.head? = some (Z6 n3) /\ ∃ n4, cs.tail.tail.tail.head? = some (Z6 n4) /\ ∃ b1, cs.tail.tail.tail.tail.head? = some (Zb b1) /\ ∃ (x1 : PV),
  vs.tail.head? = some x1 /\ ∃ b2, x1 = Zb b2 /\ (aH (zc5 tc tg tj tf tp M S n f es (i64.wrap (k + 1)) b n2 n3 n4 b1) /\ J (i64.wrap (k + 1)) b n2 n3 n4 b1) /\ ∀ (x2 : Int) (h0_0 : Bool) (h0_1 h0_2 h0_3 : Int)
  (h0_4 : Bool), J x2 h0_0 h0_1 h0_2 h0_3 h0_4 ->
 let K5 := fun (y0_ : Int) (y1_ : Bool) (y2_ y3_ y4_ : Int) (y5_ : Bool) => aH (zc5 tc tg tj tf tp M S n f es y0_ y1_ y2_ y3_ y4_ y5_) /\ J y0_ y1_ y2_ y3_ y4_ y5_ /\ μ y0_ y1_ y2_ y3_ y4_ y5_ < μ x2 h0_0 h0_1 h0_2 h0_3
  h0_4; if decide (x2 < (↑es.length : Int)) = true then aI es x2 1 /\ ∃ n5, (es.getD x2.toNat []).head? = some (Z3 n5) /\ (PCall qa 79 [PV.agg [Zb h0_0, Z6 h0_1, Z6 h0_2, Z6 h0_3, Zb h0_4], PV.ptr [tc, tg, tj, tf, tp, PV.mp
  M, PV.mp S], Z3 n5] fun v1 => ∃ vs1, v1 = PV.tup vs1 /\ vs1.length = 2 /\ ∃ x3, vs1.head? = some x3 /\ ∃ cs1, x3 = PV.agg cs1 /\ cs1.length = 5 /\ ∃ b3, cs1.head? = some (Zb b3) /\ ∃ (n6 : Int),
  cs1.tail.head? = some (Z6 n6) /\ ∃ n7, cs1.tail.tail.head? = some (Z6 n7) /\ ∃ n8, cs1.tail.tail.tail.head? = some (Z6 n8) /\ ∃ b4, cs1.tail.tail.tail.tail.head? = some (Zb b4) /\ ∃ x4, vs1.tail.head? = some
  x4 /\ ∃ b5, x4 = Zb b5 /\
 let V1 := if b5 = true then R (Z6 x2) else K5 (i64.wrap (x2 + 1)) b3 n6 n7 n8 b4; V1 /\ V1 /\ V1) /\ PCall qa 79 [PV.agg [Zb h0_0, Z6 h0_1, Z6 h0_2, Z6 h0_3, Zb h0_4], PV.ptr [tc, tg, tj, tf, tp, PV.mp M, PV.mp S], Z3 n5] fun
  (v1 : PV) => ∃ vs1, v1 = PV.tup vs1 /\ vs1.length = 2 /\ ∃ x3, vs1.head? = some x3 /\ ∃ cs1, x3 = PV.agg cs1 /\ cs1.length = 5 /\ ∃ b3, cs1.head? = some (Zb b3) /\ ∃ n6, cs1.tail.head? = some (Z6
  n6) /\ ∃ n7, cs1.tail.tail.head? = some (Z6 n7) /\ ∃ n8, cs1.tail.tail.tail.head? = some (Z6 n8) /\ ∃ b4, cs1.tail.tail.tail.tail.head? = some (Zb b4) /\ ∃ x4, vs1.tail.head? = some x4 /\ ∃ b5, x4 = Zb
  b5 /\
 let V2 := if b5 = true then R (Z6 x2) else K5 (i64.wrap (x2 + 1)) b3 n6 n7 n8 b4; V2 /\ V2 else R (Z6 x2)
theorem zwx {R : PV -> Prop} (h : zlo tc tg tj tf tp M S n f es k J μ R) : PCall qa 53 [.ptr [tc, tg, tj, tf, tp, .mp M, .mp S], .sl n f es, .int .i64 k] R :=
 PCall.wz Tryz.func53 aP [0, 1, 2, 6, 7, 9, 10, 18, 36, 49] (dC 5 (bP cz6 (zc5 tc tg tj tf tp M S n f es) J μ (fun e h => (gI e 2, hB h 0 0, hI h 0 1, hI h 0 2, hI h 0 3, hB h 0 4)) [] [0, 1, 2, 7] [])) h
end
def zc6 (tc tg tj tf tp : PV) (M S : List (PV × PV)) (n f : Bool) (es : LL) (x6 : Int) (n_0 : Bool) (s_0 : LL) : Env × Hp := ([(0, LV.pv (PV.ptr [tc, tg, tj, tf, tp, PV.mp M, PV.mp S])), (1, LV.pv (PV.sl n f es)), (5, LV.own 0), (6, Y6 x6)], [.sl (22, 1) true n_0 s_0])
section
variable (tc tg tj tf tp : PV) (M S : List (PV × PV)) (n f : Bool) (es : LL) (J : Int -> Bool -> LL -> Prop) (μ : Int -> Bool -> LL -> Nat)
def zlp (R : PV -> Prop) : Prop :=
 (aH (zc6 tc tg tj tf tp M S n f es (0 : Int) true []) /\ J (0 : Int) true []) /\ ∀ (x6 : Int) (n_0 : Bool) (s_0 : LL), J x6 n_0 s_0 -> if decide (x6 < (↑es.length : Int)) = true then PCall qa 53 [PV.ptr [tc, tg, tj, tf, tp, PV.mp M, PV.mp S], PV.sl n f es, Z6 x6] fun v => ∃ n1, v = Z6 n1 /\ (d9 es.length (some x6) (some n1) none /\ aR es 1) /\ PCall qa 47 [PV.sl n (f && decide (n1 = (↑es.length : Int))) (qd x6.toNat (qam n1.toNat es))] fun v1 => ∃ n2 f1 es1, v1 = PV.sl n2 f1 es1 /\ (aR [[PV.sl n2 f1 es1]] 1 /\ (s_0.length + 1) * 24 <= 140737488355328) /\ aH (zc6 tc tg tj tf tp M S n f es n1 (n_0 && false) (s_0 ++ [[PV.sl n2 f1 es1]])) /\ J n1 (n_0 && false) (s_0 ++ [[PV.sl n2 f1 es1]]) /\ μ n1 (n_0 && false) (s_0 ++ [[PV.sl n2 f1 es1]]) < μ x6 n_0 s_0 else R (PV.sl n_0 false s_0)
theorem zwy {R : PV -> Prop} (h : zlp tc tg tj tf tp M S n f es J μ R) : PCall qa 33 [.ptr [tc, tg, tj, tf, tp, .mp M, .mp S], .sl n f es] R :=
 PCall.wz Tryz.func33 aP [0, 1, 4, 5, 6, 7, 11] (dC 3 (bP eH (zc6 tc tg tj tf tp M S n f es) J μ (fun e h => (gI e 6, oN h 0, oS h 0)) [(5, 22, 1)] [0, 1, 5, 6] [])) h
end
end Go.Eng
namespace Go.Eng
open Go Go.Proofs Go.Eng.Rows Go.Eng.Trie Go.Eng.Srt
def zc7 (st : SSt) : PV := .agg [.bool st.some, .int .i64 st.last, .int .i64 st.pict, .int .i64 st.conj, .bool st.odd]
theorem zwz {r : Int} (h : 44032 <= r /\ r <= 55203) : i32.wrap (r - 44032) = r - 44032 := cZ (by omega) (by omega)
section
variable {rows : List Row} {v : PV}
theorem zlq (hv : fN rows v) {r : Int} (hr : -2147483648 <= r /\ r <= 2147483647) : PCall qa 102 [v, .int .i32 r] fun x => x = .int .i64 (bW rows r) := by
 obtain ⟨tc, tg, tj, tf, tp, made, sec, rfl, ht, hm⟩ := hv;refine zws _ _ _ _ _ _ _ _ ?_; unfold zlj;by_cases hh : 44032 <= r /\ r <= 55203
 ·rw [zwz hh];by_cases hm28 : (r - 44032).tmod 28 = 0
  ·refine bV (by simp [hh, hm28]) ?_;unfold bW; rw [if_pos hh, if_pos hm28]
  ·refine bS (by simp [hm28]) (bV (by simp [hh]) ?_);unfold bW; rw [if_pos hh, if_neg hm28]
 ·refine bS (by simp; omega) (bS (by simp; omega) ?_);obtain ⟨ps, rfl⟩ := ht.g.ptr;refine .inl ⟨ps, rfl, ?_⟩;have hw : i64.wrap r = r := aC (by omega) (by omega);rw [hw];refine (zbj ht.g r (by omega)).mono ?_;rintro _ rfl;refine ⟨_, rfl, ?_⟩;rw [zb6]; unfold bW; rw [if_neg hh]
theorem zw0 (hv : fN rows v) {r : Int} (hr : -2147483648 <= r /\ r <= 2147483647) : PCall qa 104 [v, .int .i32 r] fun x => x = .int .i64 (dM rows r) := by
 have hb := zlq hv hr;obtain ⟨tc, tg, tj, tf, tp, made, sec, rfl, ht, hm⟩ := hv;refine zwt _ _ _ _ _ _ _ _ ?_; unfold zlk;obtain ⟨ps, rfl⟩ := ht.j.ptr;refine .inl ⟨ps, rfl, ?_⟩;have hw : i64.wrap r = r := aC (by omega) (by omega);rw [hw];refine (zbj ht.j r (by omega)).mono ?_;rintro _ rfl;refine ⟨_, rfl, ?_⟩;rw [zb6];unfold dM;refine aG (fun hc => ?_) (fun hc => ?_)
 ·simp only [bne_iff_ne, ne_eq] at hc;rw [if_pos hc]
 ·simp only [bne_iff_ne, ne_eq, qm] at hc;rw [if_neg (fun h => h hc)];refine hb.mono ?_;rintro _ rfl;refine ⟨_, rfl, aG (fun h2 => ?_) (fun h2 => ?_)⟩
  ·simp only [qf, qp, beq_iff_eq, bne_iff_ne, ne_eq] at h2;rw [if_pos h2]
  ·simp only [qf, qp, beq_iff_eq, bne_iff_ne, ne_eq] at h2;rw [if_neg h2]
theorem zw1 (hv : fN rows v) {r : Int} (hr : -2147483648 <= r /\ r <= 2147483647) : PCall qa 103 [v, .int .i32 r] fun x => x = .bool (dG rows 5 r) := by
 obtain ⟨tc, tg, tj, tf, tp, made, sec, rfl, ht, hm⟩ := hv;refine zwu _ _ _ _ _ _ _ _ ?_; unfold zll;obtain ⟨ps, rfl⟩ := ht.f.ptr;refine .inl ⟨ps, rfl, ?_⟩;have hw : i64.wrap r = r := aC (by omega) (by omega);rw [hw];refine (zji ht.f r (by omega)).mono ?_;rintro _ rfl;rw [zj9];exact ⟨_, rfl, rfl, _, rfl, _, rfl, _, rfl, _, rfl, rfl⟩
theorem zw2 (a b : Int) : PCall qa 105 [.int .i64 a, .int .i64 b] fun x => x = .bool (pS a b) := by
 refine zwv _ _ ?_; unfold zlm;simp only [beq_iff_eq];have hd : ∀ x y : Int, (x == y) = decide (x = y) := fun x y => by by_cases h : x = y <;> simp [h]
 simp only [hd];unfold pS zg4;rcases (by omega : b = 1 ∨ b = 2 ∨ b = 3 ∨ b = 4 ∨ b = 5 ∨ b = 8 ∨ (b ≠ 1 /\ b ≠ 2 /\ b ≠ 3 /\ b ≠ 4 /\ b ≠ 5 /\ b ≠ 8)) with rfl | rfl | rfl | rfl | rfl | rfl | ⟨b1, b2, b3, b4, b5, b8⟩
 all_goals
  rcases (by omega : a = 1 ∨ a = 2 ∨ a = 3 ∨ a = 7 ∨ a = 9 ∨ a = 10 ∨ a = 11 ∨ a = 12 ∨ a = 13 ∨ (a ≠ 1 /\ a ≠ 2 /\ a ≠ 3 /\ a ≠ 7 /\ a ≠ 9 /\ a ≠ 10 /\ a ≠ 11 /\ a ≠ 12 /\ a ≠ 13)) with rfl | rfl | rfl | rfl | rfl | rfl | rfl | rfl | rfl | ⟨a1, a2, a3, a7, a9, a10, a11, a12, a13⟩
 all_goals simp [*, Bool.or_assoc]
theorem zw3 (hv : fN rows v) (st : SSt) {r : Int} (hr : -2147483648 <= r /\ r <= 2147483647) : PCall qa 79 [zc7 st, v, .int .i32 r] fun x => x = .tup [zc7 (eS rows st r), .bool (pT rows st r)] := by
 have h1 := zlq hv hr;have h2 := zw1 hv hr;have h3 := zw0 hv hr;obtain ⟨tc, tg, tj, tf, tp, made, sec, rfl, ht, hm⟩ := hv;obtain ⟨so, la, pi, co, od⟩ := st;refine zww _ _ _ _ _ _ _ _ _ _ _ _ _ ?_; unfold zln;refine h1.mono ?_;rintro _ rfl;refine ⟨_, rfl, ?_⟩;refine h2.mono ?_;rintro _ rfl;refine ⟨_, rfl, ?_⟩;refine h3.mono ?_;rintro _ rfl;refine ⟨_, rfl, ?_⟩;refine (zw2 la (bW rows r)).mono ?_;rintro _ rfl;refine ⟨_, rfl, ?_⟩;unfold eS pT u9 zc7;dsimp only;have hd : ∀ x y : Int, (x == y) = decide (x = y) := fun x y => by by_cases h : x = y <;> simp [h]
 have hd2 : ∀ x y : Int, (x != y) = !decide (x = y) := fun x y => by by_cases h : x = y <;> simp [h]
 simp only [hd, hd2];generalize pS la (bW rows r) = b1;generalize dG rows 5 r = b;generalize dM rows r = c;generalize bW rows r = n;by_cases n6 : n = 6
 ·subst n6;cases b1 <;> cases b <;> by_cases p2 : pi = 2 <;> by_cases c2 : c = 2 <;> by_cases k2 : co = 2 <;> by_cases c1 : c = 1 <;> by_cases c3 : c = 3 <;> by_cases k0 : co = 0 <;> first | omega | simp [*]
 ·by_cases p1 : pi = 1
  ·subst p1;by_cases n4 : n = 4
   ·subst n4;cases b1 <;> cases b <;> by_cases c2 : c = 2 <;> by_cases k2 : co = 2 <;> by_cases c1 : c = 1 <;> by_cases c3 : c = 3 <;> by_cases k0 : co = 0 <;> first | omega | simp [*]
   ·by_cases n5 : n = 5
    ·subst n5;cases b1 <;> cases b <;> by_cases c2 : c = 2 <;> by_cases k2 : co = 2 <;> by_cases c1 : c = 1 <;> by_cases c3 : c = 3 <;> by_cases k0 : co = 0 <;> first | omega | simp [*]
    ·cases b1 <;> cases b <;> by_cases c2 : c = 2 <;> by_cases k2 : co = 2 <;> by_cases c1 : c = 1 <;> by_cases c3 : c = 3 <;> by_cases k0 : co = 0 <;> first | omega | simp [*]
  ·cases b1 <;> cases b <;> by_cases p2 : pi = 2 <;> by_cases c2 : c = 2 <;> by_cases k2 : co = 2 <;> by_cases c1 : c = 1 <;> by_cases c3 : c = 3 <;> by_cases k0 : co = 0 <;> first | omega | simp [*]
end
theorem zlr {L : List Int} (h : R32 L) (i : Nat) : -2147483648 <= L.getD i 0 /\ L.getD i 0 <= 2147483647 := by
 by_cases hi : i < L.length
 ·rw [show L.getD i 0 = L[i] by simp [qad, hi]]; exact h _ (qi hi)
 ·rw [show L.getD i 0 = 0 by simp [qad, hi]]; omega
theorem zls {l : List Int} {i : Int} (h0 : 0 <= i) (hi : i.toNat < l.length) : aI (aA l) i 1 /\ (aA l).getD i.toNat [] = [.int .i32 (l.getD i.toNat 0)] := by
 obtain ⟨h1, h2⟩ := iE h0 hi;exact ⟨h1, by rw [h2]; simp [qad, hi]⟩
theorem zw4 {α : Type} {l : List α} {i : Nat} (d : α) (h : i < l.length) : l.getD i d = l[i] := by simp [qad, h]
theorem PCall.vac {P : Program} {f : Nat} {args args' : List PV} {Q Q' : PV -> Prop} (h : PCall P f args' Q') {k : Nat} {fl : Bool} {es : List (List PV)} (hk : args[k]? = some (.sl true fl es)) (hne : es ≠ []) : PCall P f args Q :=
 ⟨h.1, fun w I G cargs _ _ h3 => by
  have := h3 k (.pv (.sl true fl es)) (by rw [qbj, hk]; rfl);generalize cargs.getD k undef = c at this;cases this with
  | pv _ _ h =>
    generalize hx : es = xs at h;cases h with
    | slnil => exact absurd hx hne⟩
theorem zw5 {L : List Int} (h : L ≠ []) : aA L ≠ [] := fun e => h (by cases L with | nil => rfl | cons a b => cases e)
section
variable {rows : List Row} {v : PV}
theorem zw6 {L : List Int} {i : Nat} (hi : i < L.length) (hb : iC rows L i = false) : iD rows L (L.length - i) i = iD rows L (L.length - (i + 1)) (i + 1) := by
 rw [show L.length - i = (L.length - (i + 1)) + 1 by omega, iD, if_neg (by rw [hb]; decide)]
theorem zw7 {L : List Int} {i : Nat} (hi : i < L.length) (hb : iC rows L i = true) : iD rows L (L.length - i) i = i := by
 rw [show L.length - i = (L.length - (i + 1)) + 1 by omega, iD, if_pos hb]
theorem zw8 (ht : kN rows) (hv : fN rows v) (n f : Bool) (L : List Int) (hr : R32 L) (hL : L.length < 1000000000000) (k : Int) (k0 : 0 <= k) (k1 : k < L.length) (hb : iC rows L k.toNat = true) :
 PCall qa 53 [v, .sl n f (aA L), .int .i64 k] fun x => x = .int .i64 (cW rows L k.toNat : Nat) := by
 have hs := fun st {r : Int} hr => zw3 hv st (r := r) hr;obtain ⟨tc, tg, tj, tf, tp, made, sec, rfl, ht', hm⟩ := hv
 refine zwx _ _ _ _ _ _ _ _ _ _ _
  (fun i so la pi co od => (k + 1 <= i /\ i <= L.length) /\ dX rows L k.toNat (i.toNat - k.toNat) = ⟨so, la, pi, co, od⟩ /\ cW rows L k.toNat = iD rows L (L.length - i.toNat) i.toNat) (fun i _ _ _ _ _ => L.length - i.toNat) ?_
 unfold zlo;have hl8 : ((aA L).length : Int) = L.length := by rw [bN]
 rw [hl8];refine bS (by simp; omega) ?_;have hk : k.toNat < L.length := by omega
 obtain ⟨g1, g2⟩ := zls k0 hk;have hw : i64.wrap (k + 1) = k + 1 := aC (by omega) (by omega);refine ⟨g1, _, by rw [g2]; rfl, ?_⟩;refine (hs st0 (zlr hr k.toNat)).mono ?_;rintro _ rfl;rw [hw];refine ⟨_, rfl, rfl, _, rfl, _, rfl, rfl, _, rfl, _, rfl, _, rfl, _, rfl, _, rfl, _, rfl, _, rfl, ⟨rfl, ⟨by omega, by omega⟩, ?_, ?_⟩, ?_⟩
 ·rw [show (k + 1).toNat - k.toNat = 1 by omega]; rfl
 ·rw [show (k + 1).toNat = k.toNat + 1 by omega]; rfl
 rintro i so la pi co od ⟨⟨i0, i1⟩, hst, hn⟩;refine aG (fun hc => ?_) (fun hc => ?_)
 ·simp only [aB] at hc;have hi : i.toNat < L.length := by omega
  obtain ⟨j, hj⟩ : ∃ j, i.toNat = k.toNat + (j + 1) := ⟨i.toNat - k.toNat - 1, by omega⟩;obtain ⟨g1, g2⟩ := zls (l := L) (i := i) (by omega) hi;have hwi : i64.wrap (i + 1) = i + 1 := aC (by omega) (by omega)
  have hcut : pT rows ⟨so, la, pi, co, od⟩ (L.getD i.toNat 0) = iC rows L i.toNat := by
   rw [<- hst, hj, show k.toNat + (j + 1) - k.toNat = j + 1 by omega];exact zra ht hb j
  have hstep : dX rows L k.toNat ((i + 1).toNat - k.toNat) = eS rows ⟨so, la, pi, co, od⟩ (L.getD i.toNat 0) := by
   rw [<- hst, show (i + 1).toNat - k.toNat = (i.toNat - k.toNat) + 1 by omega];show eS rows _ (L.getD (k.toNat + (i.toNat - k.toNat)) 0) = _;rw [show k.toNat + (i.toNat - k.toNat) = i.toNat by omega]
  have body : ∀ K : Prop, K -> if iC rows L i.toNat = true then (PV.int .i64 i = .int .i64 (cW rows L k.toNat : Nat)) else K /\ ((k + 1 <= i + 1 /\ i + 1 <= L.length) /\ dX rows L k.toNat ((i + 1).toNat - k.toNat) = ⟨(eS rows ⟨so, la, pi, co, od⟩ (L.getD i.toNat 0)).some, (eS rows ⟨so, la, pi, co, od⟩ (L.getD i.toNat 0)).last, (eS rows ⟨so, la, pi, co, od⟩ (L.getD i.toNat 0)).pict, (eS rows ⟨so, la, pi, co, od⟩ (L.getD i.toNat 0)).conj, (eS rows ⟨so, la, pi, co, od⟩ (L.getD i.toNat 0)).odd⟩ /\ cW rows L k.toNat = iD rows L (L.length - (i + 1).toNat) (i + 1).toNat) /\ L.length - (i + 1).toNat < L.length - i.toNat := fun K hK => by
   split
   ·rename_i hbi;rw [hn, zw7 hi hbi, show ((i.toNat : Nat) : Int) = i by omega]
   ·rename_i hbi;refine ⟨hK, ⟨⟨by omega, by omega⟩, by rw [hstep], ?_⟩, by omega⟩;rw [hn, zw6 hi (by simpa using hbi), show (i + 1).toNat = i.toNat + 1 by omega]
  have call := hs ⟨so, la, pi, co, od⟩ (zlr hr i.toNat);rw [hcut] at call;rw [hwi];refine ⟨g1, _, by rw [g2]; rfl, call.mono ?_, call.mono ?_⟩
  ·rintro _ rfl;exact ⟨_, rfl, rfl, _, rfl, _, rfl, rfl, _, rfl, _, rfl, _, rfl, _, rfl, _, rfl, _, rfl, _, rfl, body _ rfl, body _ rfl, body _ rfl⟩
  ·rintro _ rfl;exact ⟨_, rfl, rfl, _, rfl, _, rfl, rfl, _, rfl, _, rfl, _, rfl, _, rfl, _, rfl, _, rfl, _, rfl, body _ rfl, body _ rfl⟩
 ·simp only [aB] at hc;have hie : i.toNat = L.length := by omega
  rw [hn, show L.length - i.toNat = 0 by omega];show _ = PV.int .i64 ((i.toNat : Nat) : Int);rw [show ((i.toNat : Nat) : Int) = i by omega]
theorem zlt (n f : Bool) (l : List Int) (hn : n = true -> l = []) (hl : l.length < 1000000000000) : PCall qa 47 [.sl n f (aA l)] fun x => x = .sl n false (aA l) :=
 PCall.ofA (args := [_]) (zck n f (aA l) (fun h => by rw [hn h]; rfl) ⟨rfl, .inl rfl, fun e he => (by cases he), dT _, by simp only [qw, bN]; omega⟩) fun r h' ⟨hr, hh⟩ => by subst hr; subst hh; exact ⟨_, rfl, rfl⟩
def aY (q : Bool × Bool × List Int) : List PV := [.sl q.1 q.2.1 (aA q.2.2)]
theorem zlu (q : Bool × Bool × List Int) : (aY q).length = 1 := rfl
theorem zlv (ht : kN rows) (hv : fN rows v) (n f : Bool) (L : List Int) (hn0 : n = true -> L = []) (hr : R32 L) (hL : L.length < 100000000) :
 PCall qa 33 [v, .sl n f (aA L)] fun x => ∃ (n : Bool) (Q : List (Bool × Bool × List Int)), x = .sl n false (Q.map aY) /\ Q.map (fun q => q.2.2) = jG rows L 0 /\ (∀ q ∈ Q, q.1 = true -> q.2.2 = []) /\ (n = true -> Q = []) := by
 have hnx := fun k k0 k1 hb => zw8 ht hv n f L hr (by omega) k k0 k1 hb;obtain ⟨tc, tg, tj, tf, tp, made, sec, rfl, ht', hm⟩ := hv
 refine zwy _ _ _ _ _ _ _ _ _ _
  (fun i n s => (0 <= i /\ i <= L.length) /\ (i.toNat = L.length ∨ iC rows L i.toNat = true) /\ ∃ Q : List (Bool × Bool × List Int), s = Q.map aY /\ jG rows L 0 = Q.map (fun q => q.2.2) ++ jG rows L i.toNat /\ (∀ q ∈ Q, q.1 = true -> q.2.2 = []) /\ (n = true -> Q = []) /\ Q.length <= i.toNat) (fun i _ _ => L.length - i.toNat) ?_
 unfold zlp;have hl8 : ((aA L).length : Int) = L.length := by rw [bN]
 rw [hl8];refine ⟨⟨rfl, ⟨qt _, by omega⟩, .inr rfl, [], rfl, rfl, (fun q hq => by cases hq), (fun _ => rfl), qj _⟩, ?_⟩;rintro i n2 _ ⟨⟨i0, i1⟩, hbeg, Q, rfl, hcl, hq, hnq, hql⟩;refine aG (fun hc => ?_) (fun hc => ?_)
 ·simp only [aB] at hc;have hi : i.toNat < L.length := by omega
  have hb := hbeg.resolve_left (by omega);obtain ⟨x1, x2, x3⟩ := nW (rows := rows) hi;refine (hnx i i0 hc hb).mono ?_;rintro _ rfl;refine ⟨_, rfl, ⟨zwn i0 (by omega) (by rw [bN]; omega), dT _⟩, ?_⟩;rw [show (((cW rows L i.toNat : Nat) : Int)).toNat = cW rows L i.toNat by omega, zc4];have hsl := zwo L i.toNat (cW rows L i.toNat);have hsn : n = true -> dQ L i.toNat (cW rows L i.toNat) = [] := fun h => by rw [hn0 h] at hi; cases hi
  refine (zlt n _ (dQ L i.toNat (cW rows L i.toNat)) hsn (by omega)).mono ?_;rintro _ rfl;refine ⟨_, _, _, rfl, ⟨nO (enc := aY) zlu [(n, false, dQ L i.toNat (cW rows L i.toNat))], by rw [qe]; omega⟩, rfl, ⟨⟨by omega, by omega⟩, ?_, Q ++ [(n, false, dQ L i.toNat (cW rows L i.toNat))], by rw [qae]; rfl, ?_, fun q hq2 => ?_, fun h => by simp at h, ?_⟩, ?_⟩
  ·rw [show (((cW rows L i.toNat : Nat) : Int)).toNat = cW rows L i.toNat by omega]; exact x3
  ·rw [show (((cW rows L i.toNat : Nat) : Int)).toNat = cW rows L i.toNat by omega, hcl, zg9 hi, qae, qaj]; rfl
  ·rcases List.mem_append.1 hq2 with hq2 | hq2
   ·exact hq q hq2
   ·rw [List.mem_singleton.1 hq2]; exact hsn
  ·rw [show (((cW rows L i.toNat : Nat) : Int)).toNat = cW rows L i.toNat by omega, qb, qaf]; omega
  ·dsimp only; omega
 ·simp only [aB] at hc;rw [zW (i := i.toNat) (by omega), qv] at hcl;exact ⟨n2, Q, rfl, hcl.symm, hq, hnq⟩
theorem zlw (ht : kN rows) (hv : fN rows v) (n f : Bool) (L : List Int) (hr : R32 L) (hL : L.length < 100000000) :
 PCall qa 33 [v, .sl n f (aA L)] fun x => ∃ (n : Bool) (Q : List (Bool × Bool × List Int)), x = .sl n false (Q.map aY) /\ Q.map (fun q => q.2.2) = jG rows L 0 := by
 by_cases h : n = true -> L = []
 ·exact (zlv ht hv n f L h hr hL).mono fun x ⟨n, Q, h1, h2, _⟩ => ⟨n, Q, h1, h2⟩
 ·have hn : n = true := by cases n with | true => rfl | false => exact absurd (fun h => by cases h) h
  subst hn;exact PCall.vac (zlv ht hv false f L (fun h => by cases h) hr hL) (k := 1) rfl (zw5 fun e => h fun _ => e)
theorem qAt {C : List (List Int)} {Q : List (Bool × Bool × List Int)} (hQ : Q.map (fun q => q.2.2) = C) {i : Int} (i0 : 0 <= i) (hi : i.toNat < C.length) : aI (Q.map aY) i 1 /\ ∃ n f, (Q.map aY).getD i.toNat [] = [.sl n f (aA (C.getD i.toNat []))] := by
 subst hQ;rw [qe] at hi;refine ⟨cE zlu i0 (by omega), Q[i.toNat].1, Q[i.toNat].2.1, ?_⟩;rw [cS hi, zw4 [] (by rw [qe]; exact hi), List.getElem_map]; rfl
end
end Go.Eng
namespace Go.Eng
open Go Go.Proofs Go.Eng.Rows Go.Eng.Srt
def c6 (L : List Int) : LL := L.map fun n => [.int .i64 n]
theorem zw9 (L : List Int) : (c6 L).length = L.length := by simp [c6]
theorem kU (L : List Int) (i : Nat) (h : i < L.length) : (c6 L).getD i [] = [.int .i64 (L.getD i 0)] := by simp [c6, qad, h]
theorem zlx (L : List Int) (i : Nat) (n : Int) : (c6 L).set i [.int .i64 n] = c6 (L.set i n) := by simp [c6]
theorem oH (L : List Int) (i : Nat) (h : i < L.length) : aI (c6 L) (i : Int) 1 := ⟨by omega, by rw [zw9]; omega, by rw [qc, kU L i h]; rfl⟩
theorem zly (na fa : Bool) (xa : LL) (nb fb : Bool) (xb : LL) (nl fl : Bool) (ls : LL) (i k : Nat) (hx : xb.length < 1000000000) (hi : i * (xb.length + 1) + k < 1000000000000) :
 PCall qa 38 [.ptr [.sl na fa xa, .sl nb fb xb, .sl nl fl ls], .int .i64 i, .int .i64 k] fun v => v = .int .i64 (i * (xb.length + 1) + k : Nat) := by
 refine zvo na fa xa nb fb xb nl fl ls i k ?_;unfold zkn;refine ⟨nb, fb, xb, rfl, ?_⟩;have h1 : i64.wrap ((xb.length : Int) + 1) = ((xb.length + 1 : Nat) : Int) := by rw [aC (by omega) (by omega)]; omega
 have h2 : i64.wrap ((i : Int) * ((xb.length + 1 : Nat) : Int)) = ((i * (xb.length + 1) : Nat) : Int) := by rw [<- qbq, aC (by omega) (by omega)]
 rw [h1, h2, <- Int.natCast_add, aC (by omega) (by omega)]
structure TabD (A B : List (List Int)) (D : Nat -> Nat -> Prop) (L : List Int) : Prop where
 len : L.length = (A.length + 1) * (B.length + 1)
 at' : ∀ i k, i <= A.length -> k <= B.length -> D i k -> L.getD (i * (B.length + 1) + k) 0 = (cX (A.drop i) (B.drop k) : Nat)
theorem kV {a b i k : Nat} (hi : i <= a) (hk : k <= b) : i * (b + 1) + k < (a + 1) * (b + 1) := by
 have : i * (b + 1) <= a * (b + 1) := qu _ hi;rw [qau]; omega
theorem zxa {b i k i' k' : Nat} (hk : k <= b) (hk' : k' <= b) (h : i * (b + 1) + k = i' * (b + 1) + k') : i = i' /\ k = k' := by
 have h1 : (i * (b + 1) + k) / (b + 1) = i := by rw [Nat.mul_comm, qbr (by omega), qbp (by omega)]; omega
 have h2 : (i' * (b + 1) + k') / (b + 1) = i' := by rw [Nat.mul_comm, qbr (by omega), qbp (by omega)]; omega
 have : i = i' := by rw [<- h1, <- h2, h]
 subst this;exact ⟨rfl, by omega⟩
theorem TabD.put {A B : List (List Int)} {D D' : Nat -> Nat -> Prop} {L : List Int} (h : TabD A B D L) {i k : Nat} (hi : i <= A.length) (hk : k <= B.length) {n : Int} (hn : n = (cX (A.drop i) (B.drop k) : Nat)) (hD : ∀ i' k', i' <= A.length -> k' <= B.length -> D' i' k' -> D i' k' ∨ (i' = i /\ k' = k)) :
 TabD A B D' (L.set (i * (B.length + 1) + k) n) := by
 refine ⟨by rw [List.length_set]; exact h.len, fun i' k' h1 h2 h3 => ?_⟩;have hlt := kV hi hk;by_cases e : i' = i /\ k' = k
 ·obtain ⟨rfl, rfl⟩ := e;rw [<- hn];simp [qad, h.len, hlt]
 ·have hne : i * (B.length + 1) + k ≠ i' * (B.length + 1) + k' := fun he => by
   obtain ⟨rfl, rfl⟩ := zxa hk h2 he;exact e ⟨rfl, rfl⟩
  have := h.at' i' k' h1 h2 ((hD i' k' h1 h2 h3).resolve_right e);rw [<- this];simp only [qad, List.getElem?_set_ne hne]
theorem mY {α : Type} (l : List α) (i : Nat) (d : α) (h : i < l.length) : l.drop i = l.getD i d :: l.drop (i + 1) := by
 rw [qaq h];congr 1;simp [qad, h]
section
variable {QA QB : List (Bool × Bool × List Int)} {A B : List (List Int)}
theorem zxb (na fa nb fb : Bool) (hA : QA.map (fun q => q.2.2) = A) (hB : QB.map (fun q => q.2.2) = B) (hsz : (A.length + 1) * (B.length + 1) <= 1048576) (hl : ∀ c ∈ A, c.length < 100000000) :
 ACall qa 35 [.box 0 0] [.box [.pv (.sl na fa (QA.map aY)), .pv (.sl nb fb (QB.map aY)), .pv (.sl true true [])]] fun r h' => ∃ L, r = .tup [] /\ h' = [.box [.pv (.sl na fa (QA.map aY)), .pv (.sl nb fb (QB.map aY)), .own 1], .sl (3, 1) true false (c6 L)] /\ TabD A B (fun _ _ => True) L := by
 have lA : QA.length = A.length := by rw [<- hA, qe]
 have lB : QB.length = B.length := by rw [<- hB, qe]
 have bA : A.length < 1048576 := by
  have : (A.length + 1) * 1 <= (A.length + 1) * (B.length + 1) := qbb _ (by omega);omega
 have bB : B.length < 1048576 := by
  have : 1 * (B.length + 1) <= (A.length + 1) * (B.length + 1) := qu _ (by omega);omega
 refine zvp na fa (QA.map aY) nb fb (QB.map aY)
  (fun i n s => n = false /\ -1 <= i /\ i < A.length /\ ∃ L, s = c6 L /\ TabD A B (fun i' k' => i < (i' : Int) ∨ k' = B.length) L) (fun i _ _ => (i + 1).toNat)
  (fun ti _ _ _ i k n s => i = ti /\ n = false /\ (0 <= i /\ i < A.length) /\ (-1 <= k /\ k < B.length) /\ ∃ L, s = c6 L /\ TabD A B (fun i' k' => i < (i' : Int) ∨ k' = B.length ∨ (i = (i' : Int) /\ k < (k' : Int))) L) (fun _ k _ _ => (k + 1).toNat) ?_
 unfold zko;have e1 : i64.wrap (((QA.map aY).length : Int) + 1) = ((A.length + 1 : Nat) : Int) := by rw [qe, lA, aC (by omega) (by omega)]; omega
 have e2 : i64.wrap (((QB.map aY).length : Int) + 1) = ((B.length + 1 : Nat) : Int) := by rw [qe, lB, aC (by omega) (by omega)]; omega
 have e3 : i64.wrap (((A.length + 1 : Nat) : Int) * ((B.length + 1 : Nat) : Int)) = (((A.length + 1) * (B.length + 1) : Nat) : Int) := by rw [<- qbq, aC (by omega) (by omega)]
 have e4 : i64.wrap (((QA.map aY).length : Int) - 1) = (A.length : Int) - 1 := by rw [qe, lA, aC (by omega) (by omega)]
 have e5 : i64.wrap (((QB.map aY).length : Int) - 1) = (B.length : Int) - 1 := by rw [qe, lB, aC (by omega) (by omega)]
 have lB' : (QB.map aY).length = B.length := by rw [qe, lB]
 rw [e1, e2, e3, e4, e5, qc];have hrep : (qap ((A.length + 1) * (B.length + 1)) [PV.int .i64 0] : LL) = c6 (qap ((A.length + 1) * (B.length + 1)) 0) := by simp [c6]
 rw [hrep]
 have hat : ∀ (s : LL) (i k : Nat), i <= A.length -> k <= B.length -> PCall qa 38 [.ptr [.sl na fa (QA.map aY), .sl nb fb (QB.map aY), .sl false false s], .int .i64 i, .int .i64 k] fun v => v = .int .i64 (i * (B.length + 1) + k : Nat) := fun s i k hi hk => by
  have h := kV hi hk;have := zly na fa (QA.map aY) nb fb (QB.map aY) false false s i k (by rw [lB']; omega) (by rw [lB']; omega);rwa [lB'] at this
 refine ⟨⟨by omega, qt _, by omega, by omega⟩, ⟨rfl, rfl, by omega, by omega, _, rfl, ⟨by simp, fun i k hi hk hd => ?_⟩⟩, ?_⟩
 ·have h0 : cX (A.drop i) (B.drop k) = 0 := by
   rcases hd with hd | hd
   ·rw [List.drop_eq_nil_of_le (by omega)]; exact pU _
   ·rw [hd, qah]; exact sJ _
  rw [h0];simp [qad, kV hi hk]
 ·rintro i0 n0 _ ⟨rfl, i1, i2, L0, rfl, h0⟩;refine aG (fun hc => ?_) (fun hc => ?_)
  ·simp only [aB] at hc;refine ⟨⟨rfl, rfl, rfl, ⟨by omega, i2⟩, ⟨by omega, by omega⟩, L0, rfl, ⟨h0.len, fun i k hi hk hd => h0.at' i k hi hk (hd.elim .inl fun h => h.elim .inr fun h => ?_)⟩⟩, ?_⟩
   ·omega
   rintro i k0 n1 _ ⟨rfl, rfl, ⟨j1, j2⟩, ⟨j3, j4⟩, L, rfl, h1⟩;refine aG (fun hk => ?_) (fun hk => ?_)
   ·simp only [aB] at hk;obtain ⟨a, rfl⟩ := qas j1;obtain ⟨k, rfl⟩ := qas hk;have ha : a < A.length := by omega
    have hkB : k < B.length := by omega
    obtain ⟨qa1, na2, fa2, qa2⟩ := qAt hA (i := (a : Int)) (by omega) (by omega);obtain ⟨qb1, nb2, fb2, qb2⟩ := qAt hB (i := (k : Int)) (by omega) (by omega);rw [qc] at qa2 qb2;rw [qc, qc, qa2, qb2];refine ⟨qa1, na2, fa2, _, rfl, qb1, nb2, fb2, _, rfl, ?_⟩;have hcl : (A.getD a []).length < 100000000 := hl _ (by rw [qad, qz ha]; exact qi _);refine (zcz na2 fa2 nb2 fb2 (A.getD a []) (B.getD k []) (by omega)).mono ?_;rintro _ rfl;refine ⟨_, rfl, ?_⟩;have wi : i64.wrap ((a : Int) + 1) = ((a + 1 : Nat) : Int) := by rw [aC (by omega) (by omega)]; omega
    have wk : i64.wrap ((k : Int) + 1) = ((k + 1 : Nat) : Int) := by rw [aC (by omega) (by omega)]; omega
    have wm : i64.wrap ((k : Int) - 1) = (k : Int) - 1 := aC (by omega) (by omega);rw [wi, wk, wm];have da := mY A a [] ha;have db := mY B k [] hkB;have t11 := kV (i := a) (k := k) (qo ha) (qo hkB);have t21 := kV (i := a + 1) (k := k) ha (qo hkB);have t12 := kV (i := a) (k := k + 1) (qo ha) hkB;have t22 := kV (i := a + 1) (k := k + 1) ha hkB;have v22 := h1.at' (a + 1) (k + 1) ha hkB (.inl (by omega));have v21 := h1.at' (a + 1) k ha (qo hkB) (.inl (by omega));have v12 := h1.at' a (k + 1) (qo ha) hkB (.inr (.inr ⟨rfl, by omega⟩))
    have fin : ∀ n : Int, n = (cX (A.drop a) (B.drop k) : Nat) -> TabD A B (fun i' k' => (a : Int) < (i' : Int) ∨ k' = B.length ∨ ((a : Int) = (i' : Int) /\ (k : Int) - 1 < (k' : Int))) (L.set (a * (B.length + 1) + k) n) := fun n hn =>
     h1.put (qo ha) (qo hkB) hn fun i' k' _ _ hd => by omega
    have bl : cX (A.drop (a + 1)) (B.drop (k + 1)) < 1048576 := qbh (zhb _ _) (by rw [qac]; omega);have bl2 : cX (A.drop a) (B.drop k) < 1048577 := qbh (zhb _ _) (by rw [qac]; omega);refine aG (fun hb => ?_) (fun hb => ?_)
    ·simp only [aB] at hb;refine (hat _ a k (qo ha) (qo hkB)).mono ?_;rintro _ rfl;refine ⟨_, rfl, rfl, (hat _ (a + 1) (k + 1) ha hkB).mono ?_⟩;rintro _ rfl;refine ⟨_, rfl, rfl, oH L _ (by rw [h1.len]; exact t22), _, by rw [qc, kU L _ (by rw [h1.len]; exact t22)]; rfl, oH L _ (by rw [h1.len]; exact t11), ?_, ?_⟩
     ·rw [qc, kU L _ (by rw [h1.len]; exact t11)]; exact ⟨rfl, qj _⟩
     ·rw [qc, kU L _ (by rw [h1.len]; exact t11), v22, aC (by omega) (by omega)];refine ⟨rfl, ⟨rfl, rfl, ⟨by omega, j2⟩, ⟨by omega, by omega⟩, _, zlx L _ _, fin _ ?_⟩, by dsimp only; omega⟩;rw [da, db, sK, if_pos hb]; omega
    ·simp only [aB] at hb;refine (hat _ a k (qo ha) (qo hkB)).mono ?_;rintro _ rfl;refine ⟨_, rfl, rfl, (hat _ (a + 1) k ha (qo hkB)).mono ?_⟩;rintro _ rfl;refine ⟨_, rfl, rfl, oH L _ (by rw [h1.len]; exact t21), _, by rw [qc, kU L _ (by rw [h1.len]; exact t21)]; rfl, (hat _ a (k + 1) (qo ha) hkB).mono ?_⟩;rintro _ rfl;refine ⟨_, rfl, rfl, oH L _ (by rw [h1.len]; exact t12), _, by rw [qc, kU L _ (by rw [h1.len]; exact t12)]; rfl, oH L _ (by rw [h1.len]; exact t11), ?_, ?_⟩
     ·rw [qc, kU L _ (by rw [h1.len]; exact t11)]; exact ⟨rfl, qj _⟩
     ·rw [qc, kU L _ (by rw [h1.len]; exact t11), v21, v12];refine ⟨rfl, ⟨rfl, rfl, ⟨by omega, j2⟩, ⟨by omega, by omega⟩, _, zlx L _ _, fin _ ?_⟩, by dsimp only; omega⟩;rw [da, db, sK, if_neg hb, <- da, <- db];split <;> omega
   ·simp only [aB] at hk;have wm : i64.wrap (i - 1) = i - 1 := aC (by omega) (by omega);rw [wm];refine ⟨rfl, ⟨rfl, by omega, by omega, L, rfl, ⟨h1.len, fun i' k' h1' h2' hd => h1.at' i' k' h1' h2' ?_⟩⟩, ?_⟩
    ·omega
    ·dsimp only; omega
  ·simp only [aB] at hc;exact ⟨L0, rfl, rfl, ⟨h0.len, fun i k hi hk _ => h0.at' i k hi hk (.inl (by omega))⟩⟩
end
end Go.Eng
namespace Go.Eng
open Go Go.Proofs Go.Eng.Rows Go.Eng.Trie Go.Eng.Srt
section
variable {rows : List Row}
variable (ht : kN rows) (n f n2 f2 : Bool) (hl : rows.length < 1000000) (L : List Int) (hr : R32 L) (hL : L.length < 1000000000000)
include ht hl hr hL
end
end Go.Eng
namespace Go.Eng
open Go Go.Proofs Go.Eng.Rows Go.Eng.Srt
def BdS (S : List DStep) (n t : Nat) : Prop := S.length <= n /\ ∀ s ∈ S, 0 <= s.n /\ s.n <= n /\ s.text.length <= t
theorem zlz : BdS [] 0 0 := ⟨qj _, fun s hs => by cases hs⟩
theorem zl0 {S : List DStep} {n t M : Nat} (h : BdS S n t) {k : Int} {c : List Int} (hc : c.length <= M) : BdS (dA S (k, c)) (n + 1) (t + M) := by
 obtain ⟨h1, h2⟩ := h;rcases kO S with rfl | ⟨S, s, rfl⟩
 ·rw [zhc];refine ⟨by simp, fun s hs => ?_⟩;rw [List.mem_singleton.1 hs];exact ⟨by show (0 : Int) <= 1; omega, by dsimp only; omega, by dsimp only; omega⟩
 ·rw [pV];rw [qb, qaf] at h1;split
  ·refine ⟨by rw [qb, qaf]; omega, fun x hx => ?_⟩;rcases List.mem_append.1 hx with hx | hx
   ·have := h2 x (List.mem_append_left _ hx); exact ⟨this.1, by omega, by omega⟩
   ·rw [List.mem_singleton.1 hx];have := h2 s (by simp);refine ⟨by dsimp only; omega, by dsimp only; omega, ?_⟩;show (s.text ++ c).length <= _;rw [qb]; omega
  ·refine ⟨by rw [qb, qb, qaf, qaf]; omega, fun x hx => ?_⟩;rcases List.mem_append.1 hx with hx | hx
   ·have := h2 x hx; exact ⟨this.1, by omega, by omega⟩
   ·rw [List.mem_singleton.1 hx];exact ⟨by show (0 : Int) <= 1; omega, by dsimp only; omega, by dsimp only; omega⟩
def ofA (f : Func) : Code := aU (aU (cM f))
def wI (f : Func) : Code := gM (gM (bC (aU (aU (aU (aU (ofA f)))))))
def ofY (f : Func) : Code := gM (gM (aU (wI f)))
def ofT (f : Func) : Code := vD (aU (ofY f))
def l5 (f : Func) : Code := z7 (aU (ofY f))
def bT (v : Value) (i k : Int) : Env := [(8, .box 0 0), (9, .pv (.raw v)), (10, .pv (.int .i64 i)), (11, .pv (.int .i64 k))]
def eT1 (v : Value) (i k : Int) (na fa : Bool) (xa : LL) (n f : Bool) (es : LL) : Env := (108, .pv (.sl n f es)) :: (107, .pv (.ptr (xa.getD i.toNat []))) :: (106, .pv (.int .i64 i)) :: (105, .pv (.sl na fa xa)) :: (104, .box 0 0) :: (103, .box 0 0) :: (102, .box 0 0) :: (101, .pv (.raw v)) :: bT v i k
def eU1 (v : Value) (i k : Int) (na fa : Bool) (xa : LL) (n f : Bool) (es : LL) : Env := (163, .pv (.sl n f es)) :: (162, .pv (.ptr (xa.getD i.toNat []))) :: (161, .pv (.int .i64 i)) :: (160, .pv (.sl na fa xa)) :: (159, .box 0 0) :: (158, .box 0 0) :: (157, .box 0 0) :: (156, .pv (.raw v)) :: bT v i k
def eV1 (v : Value) (i k : Int) (nb fb : Bool) (xb : LL) (n f : Bool) (es : LL) : Env := (63, .pv (.sl n f es)) :: (62, .pv (.ptr (xb.getD k.toNat []))) :: (61, .pv (.int .i64 k)) :: (60, .pv (.sl nb fb xb)) :: (59, .box 0 1) :: (58, .box 0 0) :: (57, .box 0 0) :: (56, .pv (.raw v)) :: bT v i k
def bK (na fa : Bool) (xa : LL) (nb fb : Bool) (xb : LL) (nl : Bool) (L : LL) : Hp := [.box [.pv (.sl na fa xa), .pv (.sl nb fb xb), .own 1], .sl (3, 1) true nl L]
def l6 : List Nat := [0, 1, 2, 6, 7, 8, 9, 10, 11, 37, 55, 67, 114]
def zxc : Nat -> Option HSpec := fun zz_ => match zz_ with | 35 => some ⟨Bool × List (List PV), fun _ hs t => (.tup [], match hs with | [.box (a :: b :: _)] => [.box [a, b, .own 1], .sl (3, 1) true t.1 t.2] | h => h), none⟩ | _ => none
section
variable {na fa nb fb nl : Bool} {xa xb L : LL} {v : Value} {i k : Int}
theorem pO0 (ts : List PV) (n f n2 f2 : Bool) (es ss : LL) (Q : Qt) : cR qa (fun _ => none) 0 168 l6 (fun _ => none) (bC (cM Tryz.f9)) [(0, .pv (.ptr ts)), (1, .pv (.sl n f es)), (2, .pv (.sl n2 f2 ss))] [] Q =
 Q .normal [(0, .pv (.ptr ts)), (1, .pv (.sl n f es)), (2, .pv (.sl n2 f2 ss)), (6, .pv (.sl true true [])), (7, .pv (.int .i64 0))] [] := by kernel_rfl
theorem pO1 (ts : List PV) (n f n2 f2 : Bool) (es ss : LL) (Q : Qt) : cR qa (fun _ => none) 0 168 l6 (fun _ => none) (bC (aU (cM Tryz.f9))) [(0, .pv (.ptr ts)), (1, .pv (.sl n f es)), (2, .pv (.sl n2 f2 ss)), (6, .pv (.sl true true [])), (7, .pv (.int .i64 0))] [] Q =
 PCall qa 34 [.ptr ts, .sl n f es] fun v => ∃ n1 f1 es1, v = .sl n1 f1 es1 /\ PCall qa 33 [.ptr ts, .sl n1 f1 es1] fun v1 => ∃ n3 f3 es2, v1 = .sl n3 f3 es2 /\ PCall qa 34 [.ptr ts, .sl n2 f2 ss] fun v2 => ∃ n4 f4 es3, v2 = .sl n4 f4 es3 /\
  PCall qa 33 [.ptr ts, .sl n4 f4 es3] fun v3 => ∃ n5 f5 es4, v3 = .sl n5 f5 es4 /\
   Q .normal [(0, .pv (.ptr ts)), (1, .pv (.sl n f es)), (2, .pv (.sl n2 f2 ss)), (6, .pv (.sl true true [])), (7, .pv (.int .i64 0)), (8, .box 0 0)] [.box [.pv (.sl n3 f3 es2), .pv (.sl n5 f5 es4), .pv (.sl true true [])]] := by kernel_rfl
theorem pO2 (Q : Qt) : cR qa (fun _ => none) 0 168 l6 (fun _ => none) (bC (ofA Tryz.f9)) [(8, .box 0 0), (6, .pv (.sl true true [])), (7, .pv (.int .i64 0))] [.box [.pv (.sl na fa xa), .pv (.sl nb fb xb), .pv (.sl true true [])]] Q =
 (i64.wrap ((xb.length : Int) + 1) ≠ 0 /\ if decide (i64.wrap ((xa.length : Int) + 1) > i64.wrap (qay 1048576 (i64.wrap ((xb.length : Int) + 1)))) = true then
  Q .ret [(6, .pv (.sl true true [])), (7, .pv (.int .i64 7)), (8, .box 0 0), (37, .pv (.bool (decide (i64.wrap ((xa.length : Int) + 1) > i64.wrap (qay 1048576 (i64.wrap ((xb.length : Int) + 1)))))))] [.box [.pv (.sl na fa xa), .pv (.sl nb fb xb), .pv (.sl true true [])]]
 else Q .normal [(6, .pv (.sl true true [])), (7, .pv (.int .i64 0)), (8, .box 0 0), (37, .pv (.bool (decide (i64.wrap ((xa.length : Int) + 1) > i64.wrap (qay 1048576 (i64.wrap ((xb.length : Int) + 1)))))))] [.box [.pv (.sl na fa xa), .pv (.sl nb fb xb), .pv (.sl true true [])]]) := by kernel_rfl
theorem pO4 (Q : Qt) : cR qa zxc 0 168 l6 (fun _ => none) (bC (aU (ofA Tryz.f9))) [(8, .box 0 0)] [.box [.pv (.sl na fa xa), .pv (.sl nb fb xb), .pv (.sl true true [])]] Q =
 ACall qa 35 [.box 0 0] [.box [.pv (.sl na fa xa), .pv (.sl nb fb xb), .pv (.sl true true [])]] fun r h' => ∃ t : Bool × List (List PV), (r = .tup [] /\ h' = [.box [.pv (.sl na fa xa), .pv (.sl nb fb xb), .own 1], .sl (3, 1) true t.1 t.2]) /\ (True /\ True) /\
  Q .normal [(8, .box 0 0)] (bK na fa xa nb fb xb t.1 t.2) := by kernel_rfl
theorem pO5 (Q : Qt) : cR qa (fun _ => none) 0 168 l6 (fun _ => none) (bC (aU (aU (ofA Tryz.f9)))) [(8, .box 0 0)] (bK na fa xa nb fb xb nl L) Q = Q .normal [(8, .box 0 0), (9, .pv (.sl true true []))] (bK na fa xa nb fb xb nl L) := by kernel_rfl
theorem pO6 (Q : Qt) : cR qa (fun _ => none) 0 168 l6 (fun _ => none) (bC (aU (aU (aU (ofA Tryz.f9))))) [(8, .box 0 0), (9, .pv (.sl true true []))] (bK na fa xa nb fb xb nl L) Q =
 Q .normal [(8, .box 0 0), (9, .pv (.sl true true [])), (10, .pv (.int .i64 0)), (11, .pv (.int .i64 0))] (bK na fa xa nb fb xb nl L) := by kernel_rfl
theorem pO7 (Q : Qt) : cR qa (fun _ => none) 0 168 l6 (fun _ => none) (bC (wI Tryz.f9)) (bT v i k) (bK na fa xa nb fb xb nl L) Q =
 if decide (i < (xa.length : Int)) = true then Q .normal [(8, .box 0 0), (9, .pv (.raw v)), (10, .pv (.int .i64 i)), (11, .pv (.int .i64 k)), (55, .pv (.bool true))] (bK na fa xa nb fb xb nl L)
 else if decide (k < (xb.length : Int)) = true then Q .normal [(8, .box 0 0), (9, .pv (.raw v)), (10, .pv (.int .i64 i)), (11, .pv (.int .i64 k)), (55, .pv (.bool (decide (k < (xb.length : Int)))))] (bK na fa xa nb fb xb nl L)
 else Q (.exit 0) [(8, .box 0 0), (9, .pv (.raw v)), (10, .pv (.int .i64 i)), (11, .pv (.int .i64 k)), (55, .pv (.bool (decide (k < (xb.length : Int)))))] (bK na fa xa nb fb xb nl L) := by kernel_rfl
theorem zxd (Q : Qt) : cR qa (fun _ => none) 0 168 l6 (fun _ => none) (bC (ofY Tryz.f9)) (bT v i k) (bK na fa xa nb fb xb nl L) Q =
 if decide (i < (xa.length : Int)) = true then
  if decide (k < (xb.length : Int)) = true then aI xa i 1 /\ ∃ n f es, (xa.getD i.toNat []).head? = some (.sl n f es) /\ aI xb k 1 /\ ∃ n1 f1 es1, (xb.getD k.toNat []).head? = some (.sl n1 f1 es1) /\ PCall qa 36 [.sl n f es, .sl n1 f1 es1] fun v1 => ∃ b, v1 = .bool b /\
   Q .normal [(8, .box 0 0), (9, .pv (.raw v)), (10, .pv (.int .i64 i)), (11, .pv (.int .i64 k)), (67, .pv (.bool b))] (bK na fa xa nb fb xb nl L)
  else Q .normal [(8, .box 0 0), (9, .pv (.raw v)), (10, .pv (.int .i64 i)), (11, .pv (.int .i64 k)), (67, .pv (.bool false))] (bK na fa xa nb fb xb nl L)
 else Q .normal [(8, .box 0 0), (9, .pv (.raw v)), (10, .pv (.int .i64 i)), (11, .pv (.int .i64 k)), (67, .pv (.bool false))] (bK na fa xa nb fb xb nl L) := by kernel_rfl
theorem zxe (Q : Qt) : cR qa (fun _ => none) 0 168 l6 (fun _ => none) (bC (l5 Tryz.f9)) (bT v i k) (bK na fa xa nb fb xb nl L) Q =
 if (k == (xb.length : Int)) = true then Q .normal [(8, .box 0 0), (9, .pv (.raw v)), (10, .pv (.int .i64 i)), (11, .pv (.int .i64 k)), (114, .pv (.bool true))] (bK na fa xa nb fb xb nl L)
 else if decide (i < (xa.length : Int)) = true then PCall qa 38 [.ptr [.sl na fa xa, .sl nb fb xb, .sl nl false L], .int .i64 (i64.wrap (i + 1)), .int .i64 k] fun v1 => ∃ n, v1 = .int .i64 n /\ true = true /\ aI L n 1 /\ ∃ n1, (qd 0 (L.getD n.toNat [])).head? = some (.int .i64 n1) /\
  PCall qa 38 [.ptr [.sl na fa xa, .sl nb fb xb, .sl nl false L], .int .i64 i, .int .i64 (i64.wrap (k + 1))] fun v2 => ∃ n2, v2 = .int .i64 n2 /\ true = true /\ aI L n2 1 /\ ∃ n3, (qd 0 (L.getD n2.toNat [])).head? = some (.int .i64 n3) /\
   Q .normal [(8, .box 0 0), (9, .pv (.raw v)), (10, .pv (.int .i64 i)), (11, .pv (.int .i64 k)), (114, .pv (.bool (decide (n1 >= n3))))] (bK na fa xa nb fb xb nl L)
 else Q .normal [(8, .box 0 0), (9, .pv (.raw v)), (10, .pv (.int .i64 i)), (11, .pv (.int .i64 k)), (114, .pv (.bool false))] (bK na fa xa nb fb xb nl L) := by kernel_rfl
def gW (f : Func) : Array Oper := bR (bC (ofT f))
def oT2 (f : Func) : Array Oper := bR (aU (ofT f))
def fO (f : Func) : Array Oper := bR (bC (vD (aU (l5 f))))
def mZ (f : Func) : Array Oper := bR (aU (vD (aU (l5 f))))
def fP (f : Func) : Array Oper := bR (bC (z7 (aU (l5 f))))
def m7 (f : Func) : Array Oper := bR (aU (z7 (aU (l5 f))))
def ofR (f : Func) : Array Oper := bR (bC (aU (aU (aU (aU (aU (ofA f)))))))
theorem zxf (K : Env -> Hp -> Prop) : aT qa (fun _ => none) 168 (gW Tryz.f9).toList (((gW Tryz.f9).toList.drop 0).take 8) (bT v i k) (bK na fa xa nb fb xb nl L) K =
 (aI xa i 1 /\ ∃ n f es, (xa.getD i.toNat []).head? = some (.sl n f es) /\ K (eT1 v i k na fa xa n f es) (bK na fa xa nb fb xb nl L)) := by kernel_rfl
theorem zxg (n f : Bool) (es : LL) (v' : Value) (K : Env -> Hp -> Prop) : aT qa (fun _ => none) 168 (gW Tryz.f9).toList (((gW Tryz.f9).toList.drop 9).take 1) (set (eT1 v i k na fa xa n f es) 109 (.pv (.raw v'))) (bK na fa xa nb fb xb nl L) K =
 K ((9, .pv (.raw v')) :: set (eT1 v i k na fa xa n f es) 109 (.pv (.raw v'))) (bK na fa xa nb fb xb nl L) := by kernel_rfl
theorem pT2 (K : Env -> Hp -> Prop) : aT qa (fun _ => none) 168 (oT2 Tryz.f9).toList (oT2 Tryz.f9).toList (bT v i k) (bK na fa xa nb fb xb nl L) K =
 K ((11, .pv (.int .i64 (i64.wrap (k + 1)))) :: (10, .pv (.int .i64 (i64.wrap (i + 1)))) :: (113, .pv (.int .i64 (i64.wrap (k + 1)))) :: (112, .pv (.int .i64 k)) :: (111, .pv (.int .i64 (i64.wrap (i + 1)))) :: (110, .pv (.int .i64 i)) :: bT v i k) (bK na fa xa nb fb xb nl L) := by kernel_rfl
theorem zxh (K : Env -> Hp -> Prop) : aT qa (fun _ => none) 168 (fO Tryz.f9).toList (((fO Tryz.f9).toList.drop 0).take 8) (bT v i k) (bK na fa xa nb fb xb nl L) K =
 (aI xa i 1 /\ ∃ n f es, (xa.getD i.toNat []).head? = some (.sl n f es) /\ K (eU1 v i k na fa xa n f es) (bK na fa xa nb fb xb nl L)) := by kernel_rfl
theorem zxi (n f : Bool) (es : LL) (v' : Value) (K : Env -> Hp -> Prop) : aT qa (fun _ => none) 168 (fO Tryz.f9).toList (((fO Tryz.f9).toList.drop 9).take 1) (set (eU1 v i k na fa xa n f es) 164 (.pv (.raw v'))) (bK na fa xa nb fb xb nl L) K =
 K ((9, .pv (.raw v')) :: set (eU1 v i k na fa xa n f es) 164 (.pv (.raw v'))) (bK na fa xa nb fb xb nl L) := by kernel_rfl
theorem pU2 (K : Env -> Hp -> Prop) : aT qa (fun _ => none) 168 (mZ Tryz.f9).toList (mZ Tryz.f9).toList (bT v i k) (bK na fa xa nb fb xb nl L) K =
 K ((10, .pv (.int .i64 (i64.wrap (i + 1)))) :: (166, .pv (.int .i64 (i64.wrap (i + 1)))) :: (165, .pv (.int .i64 i)) :: bT v i k) (bK na fa xa nb fb xb nl L) := by kernel_rfl
theorem zxj (K : Env -> Hp -> Prop) : aT qa (fun _ => none) 168 (fP Tryz.f9).toList (((fP Tryz.f9).toList.drop 0).take 8) (bT v i k) (bK na fa xa nb fb xb nl L) K =
 (aI xb k 1 /\ ∃ n f es, (xb.getD k.toNat []).head? = some (.sl n f es) /\ K (eV1 v i k nb fb xb n f es) (bK na fa xa nb fb xb nl L)) := by kernel_rfl
theorem zxk (n f : Bool) (es : LL) (v' : Value) (K : Env -> Hp -> Prop) : aT qa (fun _ => none) 168 (fP Tryz.f9).toList (((fP Tryz.f9).toList.drop 9).take 1) (set (eV1 v i k nb fb xb n f es) 64 (.pv (.raw v'))) (bK na fa xa nb fb xb nl L) K =
 K ((9, .pv (.raw v')) :: set (eV1 v i k nb fb xb n f es) 64 (.pv (.raw v'))) (bK na fa xa nb fb xb nl L) := by kernel_rfl
theorem pV2 (K : Env -> Hp -> Prop) : aT qa (fun _ => none) 168 (m7 Tryz.f9).toList (m7 Tryz.f9).toList (bT v i k) (bK na fa xa nb fb xb nl L) K =
 K ((11, .pv (.int .i64 (i64.wrap (k + 1)))) :: (66, .pv (.int .i64 (i64.wrap (k + 1)))) :: (65, .pv (.int .i64 k)) :: bT v i k) (bK na fa xa nb fb xb nl L) := by kernel_rfl
theorem zxl (K : Env -> Hp -> Prop) : aT qa (fun _ => none) 168 (ofR Tryz.f9).toList (ofR Tryz.f9).toList (bT v i k) (bK na fa xa nb fb xb nl L) K =
 K ((7, .pv (.int .i64 0)) :: (6, .pv (.raw v)) :: (167, .pv (.raw v)) :: bT v i k) (bK na fa xa nb fb xb nl L) := by kernel_rfl
end
theorem zxm : Tryz.f9.body = some (.seq (bC (cM Tryz.f9)) (.seq (bC (aU (cM Tryz.f9))) (.seq (bC (ofA Tryz.f9)) (.seq (bC (aU (ofA Tryz.f9))) (.seq (bC (aU (aU (ofA Tryz.f9)))) (.seq (bC (aU (aU (aU (ofA Tryz.f9))))) (.seq (.block 0 (.loop (.seq (bC (wI Tryz.f9)) (.block 1 (.block 2 (.seq (bC (ofY Tryz.f9))
 (.cond (.tmp 67) (.seq (.region 11 (gW Tryz.f9) false) (.region 12 (oT2 Tryz.f9) false)) (.seq (bC (l5 Tryz.f9)) (.cond (.tmp 114) (.seq (.region 14 (fO Tryz.f9) false) (.region 15 (mZ Tryz.f9) false)) (.seq (.region 8 (fP Tryz.f9) false) (.region 9 (m7 Tryz.f9) false))))))))))) (.seq (.region 16 (ofR Tryz.f9) false) .ret)))))))) := by kernel_rfl
theorem zc8 : c9 (gW Tryz.f9).toList = true /\ c9 (oT2 Tryz.f9).toList = true /\ c9 (fO Tryz.f9).toList = true /\ c9 (mZ Tryz.f9).toList = true /\ c9 (fP Tryz.f9).toList = true /\ c9 (m7 Tryz.f9).toList = true /\ c9 (ofR Tryz.f9).toList = true /\
 (gW Tryz.f9).size = 10 /\ (fO Tryz.f9).size = 10 /\ (fP Tryz.f9).size = 10 /\ Tryz.f9.results.toList = [.tmp 6, .tmp 7] :=
 ⟨by kernel_rfl, by kernel_rfl, by kernel_rfl, by kernel_rfl, by kernel_rfl, by kernel_rfl, by kernel_rfl, by kernel_rfl, by kernel_rfl, by kernel_rfl, by kernel_rfl⟩
theorem zxn : (gW Tryz.f9)[8]? = some ((gW Tryz.f9).toList.getD 8 default) /\ ((gW Tryz.f9).toList.getD 8 default).guard = none /\ ((gW Tryz.f9).toList.getD 8 default).dst = some 109 /\
 ((gW Tryz.f9).toList.getD 8 default).op = .call { callee := .value (.func 37), args := #[.tmp 101, .const (.int .i64 0), .tmp 108], argTypes := #[26, 3, 22] } := ⟨by kernel_rfl, by kernel_rfl, by kernel_rfl, by kernel_rfl⟩
theorem zxo : (fO Tryz.f9)[8]? = some ((fO Tryz.f9).toList.getD 8 default) /\ ((fO Tryz.f9).toList.getD 8 default).guard = none /\ ((fO Tryz.f9).toList.getD 8 default).dst = some 164 /\
 ((fO Tryz.f9).toList.getD 8 default).op = .call { callee := .value (.func 37), args := #[.tmp 156, .const (.int .i64 1), .tmp 163], argTypes := #[26, 3, 22] } := ⟨by kernel_rfl, by kernel_rfl, by kernel_rfl, by kernel_rfl⟩
theorem zxp : (fP Tryz.f9)[8]? = some ((fP Tryz.f9).toList.getD 8 default) /\ ((fP Tryz.f9).toList.getD 8 default).guard = none /\ ((fP Tryz.f9).toList.getD 8 default).dst = some 64 /\
 ((fP Tryz.f9).toList.getD 8 default).op = .call { callee := .value (.func 37), args := #[.tmp 56, .const (.int .i64 2), .tmp 63], argTypes := #[26, 3, 22] } := ⟨by kernel_rfl, by kernel_rfl, by kernel_rfl, by kernel_rfl⟩
theorem zxq {rows : List Row} {L : List Int} : ∀ k i, ∀ c ∈ fL rows L k i, c ≠ [] /\ c.length <= L.length := by
 intro k
 induction k with
 | zero => intro i c hc; cases hc
 | succ k ih =>
   intro i c hc;rw [fL] at hc;split at hc
   ·rename_i h;rcases List.mem_cons.1 hc with rfl | hc
    ·obtain ⟨x1, x2, _⟩ := nW (rows := rows) h;have : (dQ L i (cW rows L i)).length = cW rows L i - i := by unfold dQ; rw [qac, qk]; omega
     refine ⟨fun e => ?_, by omega⟩;rw [e, qw] at this; omega
    ·exact ih _ c hc
   ·cases hc
section
variable {QA QB : List (Bool × Bool × List Int)} {A B : List (List Int)}
structure JOf (A B : List (List Int)) (M : Nat) (u : Nat × Nat × (List DStep × Value)) : Prop where
 i1 : u.1 <= A.length
 k1 : u.2.1 <= B.length
 ops : ∃ l, bI A B = l ++ bI (A.drop u.1) (B.drop u.2.1) /\ u.2.2.1 = l.foldl dA []
 bd : BdS u.2.2.1 (u.1 + u.2.1) ((u.1 + u.2.1) * M)
theorem JOf.step {M : Nat} {i k : Nat} {S : List DStep} {v v' : Value} (h : JOf A B M (i, k, (S, v))) {i' k' : Nat} {o : Int} {c : List Int} (hi : i' <= A.length) (hk : k' <= B.length) (hs : bI (A.drop i) (B.drop k) = (o, c) :: bI (A.drop i') (B.drop k')) (hn : i + k + 1 = i' + k' ∨ (i + k + 2 = i' + k')) (hc : c.length <= M) :
 JOf A B M (i', k', (dA S (o, c), v')) := by
 obtain ⟨l, h1, h2⟩ := h.ops;refine ⟨hi, hk, ⟨l ++ [(o, c)], by rw [h1, hs, qaj]; rfl, by rw [qbm, <- h2]; rfl⟩, ?_⟩;obtain ⟨b1, b2⟩ := zl0 (k := o) h.bd hc;dsimp only at b1 b2 ⊢
 have hm : (i + k) * M + M <= (i' + k') * M := by
  have : (i + k + 1) * M <= (i' + k') * M := qu _ (by omega);rw [qau, Nat.one_mul] at this; exact this
 exact ⟨by omega, fun s hs => by have := b2 s hs; exact ⟨this.1, by omega, by omega⟩⟩
theorem JOf.ok {M : Nat} {u : Nat × Nat × (List DStep × Value)} (h : JOf A B M u) (hA : A.length < 1048576) (hB : B.length < 1048576) (hM : M <= 100000) : u.2.2.1.length < 1000000000 /\ ∀ s ∈ u.2.2.1, 0 <= s.n /\ s.n < 1000000000000 /\ s.text.length < 1000000000000 := by
 obtain ⟨b1, b2⟩ := h.bd;have hi := h.i1;have hk := h.k1;have hm : (u.1 + u.2.1) * M <= 2097152 * 100000 := qbt (by omega) hM;exact ⟨by omega, fun s hs => by have := b2 s hs; exact ⟨this.1, by omega, by omega⟩⟩
theorem zxr {w0 : World} {I0 : Nat -> Prop} (na fa nb fb : Bool) (hA : QA.map (fun q => q.2.2) = A) (hB : QB.map (fun q => q.2.2) = B) (hsz : (A.length + 1) * (B.length + 1) <= 1048576) {M : Nat} (hM : M <= 100000) (hcA : ∀ c ∈ A, c ≠ [] /\ c.length <= M) (hcB : ∀ c ∈ B, c ≠ [] /\ c.length <= M)
 {L : List Int} (hL : TabD A B (fun _ _ => True) L) (u : Nat × Nat × (List DStep × Value)) (hJ : JOf A B M u) :
 CodeY (OutZ 89 21 w0 I0) qa 168 (.seq (bC (wI Tryz.f9)) (.block 1 (.block 2 (.seq (bC (ofY Tryz.f9))
  (.cond (.tmp 67) (.seq (.region 11 (gW Tryz.f9) false) (.region 12 (oT2 Tryz.f9) false)) (.seq (bC (l5 Tryz.f9)) (.cond (.tmp 114) (.seq (.region 14 (fO Tryz.f9) false) (.region 15 (mZ Tryz.f9) false)) (.seq (.region 8 (fP Tryz.f9) false) (.region 9 (m7 Tryz.f9) false)))))))))
  u.2.2 (bT u.2.2.2 u.1 u.2.1) (bK na fa (QA.map aY) nb fb (QB.map aY) false (c6 L)) fun s' x e h => match x with
   | .normal => ∃ u' : Nat × Nat × (List DStep × Value), LeE (bT u'.2.2.2 u'.1 u'.2.1) e /\ h = bK na fa (QA.map aY) nb fb (QB.map aY) false (c6 L) /\ s' = u'.2.2 /\ JOf A B M u' /\ A.length + B.length - (u'.1 + u'.2.1) < A.length + B.length - (u.1 + u.2.1)
   | .exit n => n = 0 /\ LeE (bT s'.2 A.length B.length) e /\ h = bK na fa (QA.map aY) nb fb (QB.map aY) false (c6 L) /\ s'.1 = e9 A B
   | .ret => False := by
 obtain ⟨i, k, S, v⟩ := u;have lA : (QA.map aY).length = A.length := by rw [<- hA, qe, qe]
 have lB : (QB.map aY).length = B.length := by rw [<- hB, qe, qe]
 have bA : A.length < 1048576 := by
  have : (A.length + 1) * 1 <= (A.length + 1) * (B.length + 1) := qbb _ (by omega);omega
 have bB : B.length < 1048576 := by
  have : 1 * (B.length + 1) <= (A.length + 1) * (B.length + 1) := qu _ (by omega);omega
 obtain ⟨k1, k2⟩ := hJ.ok bA bB hM;have i1 := hJ.i1;have j1 := hJ.k1;dsimp only at k1 k2 i1 j1 ⊢;obtain ⟨d1, d2, d3, d4, d5, d6, d7, z1, z2, z3, _⟩ := zc8;have wi : i64.wrap ((i : Int) + 1) = ((i + 1 : Nat) : Int) := by rw [aC (by omega) (by omega)]; omega
 have wk : i64.wrap ((k : Int) + 1) = ((k + 1 : Nat) : Int) := by rw [aC (by omega) (by omega)]; omega
 have hat : ∀ (i k : Nat), i <= A.length -> k <= B.length -> PCall qa 38 [.ptr [.sl na fa (QA.map aY), .sl nb fb (QB.map aY), .sl false false (c6 L)], .int .i64 i, .int .i64 k] fun v => v = .int .i64 (i * (B.length + 1) + k : Nat) := fun i k hi hk => by
  have h := kV hi hk;have := zly na fa (QA.map aY) nb fb (QB.map aY) false false (c6 L) i k (by rw [lB]; omega) (by rw [lB]; omega);rwa [lB] at this
 -- what is kept and dropped of A
 have gA : i < A.length -> aI (QA.map aY) (i : Int) 1 /\ ∃ n f, (QA.map aY).getD i [] = [.sl n f (aA (A.getD i []))] := fun h => by
  have := qAt hA (i := (i : Int)) (by omega) (by omega);rwa [qc] at this
 have gB : k < B.length -> aI (QB.map aY) (k : Int) 1 /\ ∃ n f, (QB.map aY).getD k [] = [.sl n f (aA (B.getD k []))] := fun h => by
  have := qAt hB (i := (k : Int)) (by omega) (by omega);rwa [qc] at this
 have memA : i < A.length -> A.getD i [] ∈ A := fun h => by rw [qad, qz h]; exact qi _
 have memB' : k < B.length -> B.getD k [] ∈ B := fun h => by rw [qad, qz h]; exact qi _
 have done : ∀ (i' k' : Nat) (s' : List DStep × Value) (e : Env), LeE (bT s'.2 i' k') e -> JOf A B M (i', k', s') -> i + k < i' + k' -> ∃ u' : Nat × Nat × (List DStep × Value), LeE (bT u'.2.2.2 u'.1 u'.2.1) e /\ bK na fa (QA.map aY) nb fb (QB.map aY) false (c6 L) = bK na fa (QA.map aY) nb fb (QB.map aY) false (c6 L) /\ s' = u'.2.2 /\ JOf A B M u' /\ A.length + B.length - (u'.1 + u'.2.1) < A.length + B.length - (i + k) := fun i' k' s' e h1 h2 h3 =>
  ⟨(i', k', s'), h1, rfl, rfl, h2, by have := h2.i1; have := h2.k1; dsimp only at *; omega⟩
 -- the second question, and what follows
 have rest : (i < A.length -> k < B.length -> A.getD i [] ≠ B.getD k []) -> (i < A.length ∨ k < B.length) -> CodeY (OutZ 89 21 w0 I0) qa 168 (.seq (bC (l5 Tryz.f9)) (.cond (.tmp 114) (.seq (.region 14 (fO Tryz.f9) false) (.region 15 (mZ Tryz.f9) false)) (.seq (.region 8 (fP Tryz.f9) false) (.region 9 (m7 Tryz.f9) false))))
  (S, v) (bT v i k) (bK na fa (QA.map aY) nb fb (QB.map aY) false (c6 L)) fun s' x e h => x = .normal /\ ∃ u' : Nat × Nat × (List DStep × Value), LeE (bT u'.2.2.2 u'.1 u'.2.1) e /\ h = bK na fa (QA.map aY) nb fb (QB.map aY) false (c6 L) /\ s' = u'.2.2 /\ JOf A B M u' /\ A.length + B.length - (u'.1 + u'.2.1) < A.length + B.length - (i + k) := by
  intro hne hor
  -- an element of A is dropped
  have drop : i < A.length -> bI (A.drop i) (B.drop k) = (1, A.getD i []) :: bI (A.drop (i + 1)) (B.drop k) -> CodeY (OutZ 89 21 w0 I0) qa 168 (.seq (.region 14 (fO Tryz.f9) false) (.region 15 (mZ Tryz.f9) false))
   (S, v) (bT v i k) (bK na fa (QA.map aY) nb fb (QB.map aY) false (c6 L)) fun s' x e h => x = .normal /\ ∃ u' : Nat × Nat × (List DStep × Value), LeE (bT u'.2.2.2 u'.1 u'.2.1) e /\ h = bK na fa (QA.map aY) nb fb (QB.map aY) false (c6 L) /\ s' = u'.2.2 /\ JOf A B M u' /\ A.length + B.length - (u'.1 + u'.2.1) < A.length + B.length - (i + k) := by
   intro hi hs;obtain ⟨c1, c2, c3, c4⟩ := zxo;obtain ⟨q1, n1, f1, q2⟩ := gA hi;obtain ⟨e1, e2⟩ := hcA _ (memA hi);refine CodeY.seq (CodeY.regAdd (H := fun _ => none) zcm d3 c1 c2 c3 (by omega) c4 rfl rfl ⟨by omega, by omega⟩ k1 k2 ?_);rw [zxh, qc, q2];refine ⟨q1, n1, f1, _, rfl, rfl, n1, f1, _, rfl, e1, by omega, fun v' => ?_⟩;rw [z2];show aT qa (fun _ => none) 168 _ (((fO Tryz.f9).toList.drop 9).take 1) _ _ _;rw [zxi];refine CodeY.le (e' := bT v' i k) ⟨rfl, rfl, rfl, rfl, trivial⟩ (CodeY.region (H := fun _ => none) ?_ d4);rw [pU2, wi];exact ⟨rfl, done (i + 1) k (dA S (1, A.getD i []), v') _ ⟨rfl, rfl, rfl, rfl, trivial⟩ (hJ.step hi j1 hs (.inl (by omega)) e2) (by omega)⟩
  -- an element of B is added
  have add : k < B.length -> bI (A.drop i) (B.drop k) = (2, B.getD k []) :: bI (A.drop i) (B.drop (k + 1)) -> CodeY (OutZ 89 21 w0 I0) qa 168 (.seq (.region 8 (fP Tryz.f9) false) (.region 9 (m7 Tryz.f9) false))
   (S, v) (bT v i k) (bK na fa (QA.map aY) nb fb (QB.map aY) false (c6 L)) fun s' x e h => x = .normal /\ ∃ u' : Nat × Nat × (List DStep × Value), LeE (bT u'.2.2.2 u'.1 u'.2.1) e /\ h = bK na fa (QA.map aY) nb fb (QB.map aY) false (c6 L) /\ s' = u'.2.2 /\ JOf A B M u' /\ A.length + B.length - (u'.1 + u'.2.1) < A.length + B.length - (i + k) := by
   intro hk hs;obtain ⟨c1, c2, c3, c4⟩ := zxp;obtain ⟨q1, n1, f1, q2⟩ := gB hk;obtain ⟨e1, e2⟩ := hcB _ (memB' hk);refine CodeY.seq (CodeY.regAdd (H := fun _ => none) zcm d5 c1 c2 c3 (by omega) c4 rfl rfl ⟨by omega, by omega⟩ k1 k2 ?_);rw [zxj, qc, q2];refine ⟨q1, n1, f1, _, rfl, rfl, n1, f1, _, rfl, e1, by omega, fun v' => ?_⟩;rw [z3];show aT qa (fun _ => none) 168 _ (((fP Tryz.f9).toList.drop 9).take 1) _ _ _;rw [zxk];refine CodeY.le (e' := bT v' i k) ⟨rfl, rfl, rfl, rfl, trivial⟩ (CodeY.region (H := fun _ => none) ?_ d6);rw [pV2, wk];exact ⟨rfl, done i (k + 1) (dA S (2, B.getD k []), v') _ ⟨rfl, rfl, rfl, rfl, trivial⟩ (hJ.step i1 hk hs (.inl (by omega)) e2) (by omega)⟩
  refine CodeY.seq (CodeY.of OutZ.stab (n0 := 0) (eC (Eq.mpr (zxe _) ?_)));rw [lA, lB];refine aG (fun hk => ?_) (fun hk => ?_)
  ·have hk : k = B.length := by simp only [beq_iff_eq] at hk; omega
   have hi : i < A.length := hor.resolve_right (by omega);refine CodeY.cond (t := true) rfl (CodeY.le (e' := bT v i k) ⟨rfl, rfl, rfl, rfl, trivial⟩ (drop hi ?_));rw [hk, qah, mY A i [] hi, vB]
  ·have hk : k < B.length := by simp only [beq_iff_eq] at hk; omega
   refine aG (fun hi => ?_) (fun hi => ?_)
   ·have hi : i < A.length := by simp only [aB] at hi; omega
    rw [wi, wk];refine (hat (i + 1) k hi j1).mono ?_;rintro _ rfl;have t21 := kV (i := i + 1) (k := k) hi j1;have t12 := kV (i := i) (k := k + 1) i1 hk;refine ⟨_, rfl, rfl, oH L _ (by rw [hL.len]; exact t21), _, by rw [qc, kU L _ (by rw [hL.len]; exact t21)]; rfl, (hat i (k + 1) i1 hk).mono ?_⟩;rintro _ rfl;refine ⟨_, rfl, rfl, oH L _ (by rw [hL.len]; exact t12), _, by rw [qc, kU L _ (by rw [hL.len]; exact t12)]; rfl, ?_⟩;rw [hL.at' (i + 1) k hi j1 trivial, hL.at' i (k + 1) i1 hk trivial];have hst := sM (A.getD i []) (B.getD k []) (A.drop (i + 1)) (B.drop (k + 1));rw [if_neg (hne hi hk), <- mY A i [] hi, <- mY B k [] hk] at hst;refine CodeY.cond (t := decide (((cX (A.drop (i + 1)) (B.drop k) : Nat) : Int) >= ((cX (A.drop i) (B.drop (k + 1)) : Nat) : Int))) rfl ?_;by_cases hle : cX (A.drop i) (B.drop (k + 1)) <= cX (A.drop (i + 1)) (B.drop k)
    ·rw [if_pos hle] at hst;rw [if_pos (by simp only [aB]; omega)];exact CodeY.le (e' := bT v i k) ⟨rfl, rfl, rfl, rfl, trivial⟩ (drop hi hst)
    ·rw [if_neg hle] at hst;rw [if_neg (by simp only [aB]; omega)];exact CodeY.le (e' := bT v i k) ⟨rfl, rfl, rfl, rfl, trivial⟩ (add hk hst)
   ·have hi : i = A.length := by simp only [aB] at hi; omega
    refine CodeY.cond (t := false) rfl (CodeY.le (e' := bT v i k) ⟨rfl, rfl, rfl, rfl, trivial⟩ (add hk ?_));rw [hi, qah, mY B k [] hk, vC]
 have go : (i < A.length ∨ k < B.length) -> CodeY (OutZ 89 21 w0 I0) qa 168 (.block 1 (.block 2 (.seq (bC (ofY Tryz.f9))
  (.cond (.tmp 67) (.seq (.region 11 (gW Tryz.f9) false) (.region 12 (oT2 Tryz.f9) false)) (.seq (bC (l5 Tryz.f9)) (.cond (.tmp 114) (.seq (.region 14 (fO Tryz.f9) false) (.region 15 (mZ Tryz.f9) false)) (.seq (.region 8 (fP Tryz.f9) false) (.region 9 (m7 Tryz.f9) false))))))))
  (S, v) (bT v i k) (bK na fa (QA.map aY) nb fb (QB.map aY) false (c6 L)) fun s' x e h => x = .normal /\ ∃ u' : Nat × Nat × (List DStep × Value), LeE (bT u'.2.2.2 u'.1 u'.2.1) e /\ h = bK na fa (QA.map aY) nb fb (QB.map aY) false (c6 L) /\ s' = u'.2.2 /\ JOf A B M u' /\ A.length + B.length - (u'.1 + u'.2.1) < A.length + B.length - (i + k) := by
  intro hor
  have norm : ∀ {c : Code} {e : Env} {s : List DStep × Value} {h : Hp} {Ψ : List DStep × Value -> Env -> Hp -> Prop}, CodeY (OutZ 89 21 w0 I0) qa 168 c s e h (fun s' x e h => x = .normal /\ Ψ s' e h) -> CodeY (OutZ 89 21 w0 I0) qa 168 (.block 1 (.block 2 c)) s e h (fun s' x e h => x = .normal /\ Ψ s' e h) := fun hc =>
   CodeY.block (CodeY.block (hc.mono fun s x e h ⟨hx, hp⟩ => by subst hx; exact ⟨rfl, hp⟩))
  refine norm ?_;refine CodeY.seq (CodeY.of OutZ.stab (n0 := 0) (eC (Eq.mpr (zxd _) ?_)));rw [lA, lB];refine aG (fun hi => ?_) (fun hi => ?_)
  ·have hi : i < A.length := by simp only [aB] at hi; omega
   refine aG (fun hk => ?_) (fun hk => ?_)
   ·have hk : k < B.length := by simp only [aB] at hk; omega
    obtain ⟨q1, n1, f1, q2⟩ := gA hi;obtain ⟨q3, n3, f3, q4⟩ := gB hk;obtain ⟨e1, e2⟩ := hcA _ (memA hi);rw [qc, qc, q2, q4];refine ⟨q1, n1, f1, _, rfl, q3, n3, f3, _, rfl, (zcz n1 f1 n3 f3 (A.getD i []) (B.getD k []) (by omega)).mono ?_⟩;rintro _ rfl;refine ⟨_, rfl, CodeY.cond (t := decide (A.getD i [] = B.getD k [])) rfl ?_⟩;by_cases hab : A.getD i [] = B.getD k []
    ·rw [if_pos (by simpa using hab)]
     obtain ⟨c1, c2, c3, c4⟩ := zxn;refine CodeY.le (e' := bT v i k) ⟨rfl, rfl, rfl, rfl, trivial⟩ (CodeY.seq (CodeY.regAdd (H := fun _ => none) zcm d1 c1 c2 c3 (by omega) c4 rfl rfl ⟨by omega, by omega⟩ k1 k2 ?_));rw [zxf, qc, q2];refine ⟨q1, n1, f1, _, rfl, rfl, n1, f1, _, rfl, e1, by omega, fun v' => ?_⟩;rw [z1];show aT qa (fun _ => none) 168 _ (((gW Tryz.f9).toList.drop 9).take 1) _ _ _;rw [zxg];refine CodeY.le (e' := bT v' i k) ⟨rfl, rfl, rfl, rfl, trivial⟩ (CodeY.region (H := fun _ => none) ?_ d2);rw [pT2, wi, wk];have hst := sM (A.getD i []) (B.getD k []) (A.drop (i + 1)) (B.drop (k + 1));rw [if_pos hab, <- mY A i [] hi, <- mY B k [] hk] at hst;exact ⟨rfl, done (i + 1) (k + 1) (dA S (0, A.getD i []), v') _ ⟨rfl, rfl, rfl, rfl, trivial⟩ (hJ.step hi hk hst (.inr (by omega)) e2) (by omega)⟩
    ·rw [if_neg (by simpa using hab)]
     exact CodeY.le (e' := bT v i k) ⟨rfl, rfl, rfl, rfl, trivial⟩ (rest (fun _ _ => hab) hor)
   ·have hk : ¬ k < B.length := by simp only [aB] at hk; omega
    exact CodeY.cond (t := false) rfl (CodeY.le (e' := bT v i k) ⟨rfl, rfl, rfl, rfl, trivial⟩ (rest (fun _ h => absurd h hk) hor))
  ·have hi : ¬ i < A.length := by simp only [aB] at hi; omega
   exact CodeY.cond (t := false) rfl (CodeY.le (e' := bT v i k) ⟨rfl, rfl, rfl, rfl, trivial⟩ (rest (fun h => absurd h hi) hor))
 refine CodeY.seq (CodeY.of OutZ.stab (n0 := 0) (eC (Eq.mpr (pO7 _) ?_)));rw [lA, lB];refine aG (fun hi => ?_) (fun hi => ?_)
 ·have hi : i < A.length := by simp only [aB] at hi; omega
  exact CodeY.le (e' := bT v i k) ⟨rfl, rfl, rfl, rfl, trivial⟩ ((go (.inl hi)).mono fun s x e h ⟨hx, hp⟩ => by subst hx; exact hp)
 ·have hi : i = A.length := by simp only [aB] at hi; omega
  refine aG (fun hk => ?_) (fun hk => ?_)
  ·have hk : k < B.length := by simp only [aB] at hk; omega
   exact CodeY.le (e' := bT v i k) ⟨rfl, rfl, rfl, rfl, trivial⟩ ((go (.inr hk)).mono fun s x e h ⟨hx, hp⟩ => by subst hx; exact hp)
  ·have hk : k = B.length := by simp only [aB] at hk; omega
   obtain ⟨l, h1, h2⟩ := hJ.ops;dsimp only at h1 h2;rw [hi, hk, qah, qah, sL, qv] at h1;refine ⟨rfl, ?_, rfl, by show S = _; rw [h2, <- h1]; rfl⟩;rw [<- hi, <- hk];exact ⟨rfl, rfl, rfl, rfl, trivial⟩
end
end Go.Eng
namespace Go.Eng
open Go Go.Proofs Go.Eng.Rows Go.Eng.Trie Go.Eng.Srt
def zxs : Bool := tab73.all fun x => decide ((aW tab73 8 x.fr).length <= 8)
theorem zxt : zxs = true := by kernel_rfl
theorem zxu (r : Int) : (aW tab 8 r).length <= 8 := by
 cases hs : bZ r with
 | true => rw [kL hs]; have := sB r; omega
 | false =>
   by_cases hp : aJ tab r = (0, 0)
   ·rw [pO hs hp]; simp
   ·obtain ⟨x, hx, hk, hf, _⟩ := zO sU hp;have := List.all_eq_true.1 zxt x (zv5 hx hk);rw [zv4, <- hf];exact of_decide_eq_true this
theorem zxv (l : List Int) : (jF tab l).length <= 8 * l.length := by
 unfold jF;rw [<- (sG wF _).len]
 induction l with
 | nil => simp
 | cons x l ih =>
   have := zxu x;rw [qbk, qb, qg]; omega
theorem l7 (l : List Int) : (dL tab l).length <= 8 * l.length := qbe (zR tab _) (zxv l)
end Go.Eng
namespace Go.Eng
open Go Go.Proofs Go.Eng.Rows Go.Eng.Srt
def bF (l : List Int) : List (List Int) := jG tab (dL tab l) 0
theorem wJ (l : List Int) (h : l.length < 10000) : ∀ c ∈ bF l, c ≠ [] /\ c.length <= 100000 := fun c hc => by
 obtain ⟨h1, h2⟩ := zxq _ _ c hc;exact ⟨h1, by have := l7 l; omega⟩
theorem zl1 {a b : Nat} (hb : 0 < b) (hb2 : b < 1000000) : (((a : Nat) : Int) > i64.wrap (qay 1048576 ((b : Nat) : Int))) ↔ ¬ a * b <= 1048576 := by
 have h1 : qay 1048576 ((b : Nat) : Int) = ((1048576 / b : Nat) : Int) := rfl;have h2 : 1048576 / b <= 1048576 := Nat.div_le_self _ _;rw [h1, <- Nat.le_div_iff_mul_le hb];generalize 1048576 / b = q at h2 ⊢;rw [aC (by omega) (by omega)];omega
theorem zl2 {T : PV} (hv : fN tab T) (n f n2 f2 : Bool) (l m : List Int) (rl : R32 l) (rm : R32 m) (hl : l.length < 10000) (hm : m.length < 10000) :
 PCall qa 9 [T, .sl n f (aA l), .sl n2 f2 (aA m)] fun x =>
  (((bF l).length + 1) * ((bF m).length + 1) <= 1048576 /\ ∃ nl, (nl = true -> e9 (bF l) (bF m) = []) /\ x = .tup [.sl nl false ((e9 (bF l) (bF m)).map encDS), .int .i64 0]) ∨
  (¬ ((bF l).length + 1) * ((bF m).length + 1) <= 1048576 /\ x = .tup [.sl true true [], .int .i64 7]) := by
 have h1 := fun n f => zlw zli hv n f (dL tab l) (zlf rl) (by have := l7 l; omega);have h2 := fun n f => zlw zli hv n f (dL tab m) (zlf rm) (by have := l7 m; omega);have h3 := zc3 hv n f l rl (by omega);have h4 := zc3 hv n2 f2 m rm (by omega);obtain ⟨tc, tg, tj, tf, tp, made, sec, rfl, _, _⟩ := hv;have hres := zc8.2.2.2.2.2.2.2.2.2.2;have hR := zc8.2.2.2.2.2.2.1;have lA := wJ l hl;have lB := wJ m hm
 have bnd : ∀ {l : List Int}, l.length < 10000 -> (bF l).length < 100000 := fun {l} h => by
  have : ∀ k i, (fL tab (dL tab l) k i).length <= (dL tab l).length - i := by
   intro k
   induction k with
   | zero => intro i; exact qy _
   | succ k ih =>
     intro i;rw [fL];split
     ·rename_i hi;obtain ⟨x1, x2, _⟩ := nW (rows := tab) hi;have := ih (cW tab (dL tab l) i);rw [qg]; omega
     ·exact qy _
  have h1 := this ((dL tab l).length + 1) 0;have h2 := l7 l;show (fL tab (dL tab l) ((dL tab l).length + 1) 0).length < _;omega
 have bA := bnd hl;have bB := bnd hm;refine PCall.ofY (tS := 89) (tr := 21) Tryz.func9 zxm (by kernel_rfl) (qaw (by kernel_rfl)) fun w0 I0 => ?_;rw [hres];show CodeY _ _ 168 _ _ _ _ _;refine CodeY.seq (CodeY.of OutZ.stab (n0 := 0) (eC (Eq.mpr (pO0 _ _ _ _ _ _ _ _) ?_)));refine CodeY.seq (CodeY.of OutZ.stab (n0 := 0) (eC (Eq.mpr (pO1 _ _ _ _ _ _ _ _) ?_)));refine h3.mono ?_;rintro _ ⟨n1, f1, rfl⟩;refine ⟨n1, f1, _, rfl, (h1 n1 f1).mono ?_⟩;rintro _ ⟨n3, QA, rfl, hQA⟩;refine ⟨n3, false, _, rfl, h4.mono ?_⟩;rintro _ ⟨n4, f4, rfl⟩;refine ⟨n4, f4, _, rfl, (h2 n4 f4).mono ?_⟩;rintro _ ⟨n5, QB, rfl, hQB⟩;refine ⟨n5, false, _, rfl, ?_⟩;have hQA : QA.map (fun q => q.2.2) = bF l := hQA;have hQB : QB.map (fun q => q.2.2) = bF m := hQB;have eA : (QA.map aY).length = (bF l).length := by rw [<- hQA, qe, qe]
 have eB : (QB.map aY).length = (bF m).length := by rw [<- hQB, qe, qe]
 clear h1 h2 h3 h4;refine CodeY.le (e' := [(8, .box 0 0), (6, .pv (.sl true true [])), (7, .pv (.int .i64 0))]) ⟨rfl, rfl, rfl, trivial⟩ ?_;refine CodeY.seq (CodeY.of OutZ.stab (n0 := 0) (eC (Eq.mpr (pO2 _) ?_)));have w1 : i64.wrap (((bF l).length : Int) + 1) = (((bF l).length + 1 : Nat) : Int) := by rw [aC (by omega) (by omega)]; omega
 have w2 : i64.wrap (((bF m).length : Int) + 1) = (((bF m).length + 1 : Nat) : Int) := by rw [aC (by omega) (by omega)]; omega
 rw [eA, eB, w1, w2];refine ⟨by omega, aG (fun hc => ?_) (fun hc => ?_)⟩
 ·rw [aB, zl1 (by omega) (by omega)] at hc;exact .inl ⟨_, .inr ⟨[.sl true true [], .int .i64 7], rfl, rfl⟩, .inr ⟨hc, rfl⟩⟩
 ·rw [aB, zl1 (by omega) (by omega), qm] at hc;refine CodeY.le (e' := [(8, .box 0 0)]) ⟨rfl, trivial⟩ ?_;refine CodeY.seq (CodeY.of OutZ.stab (n0 := 0) (eC (Eq.mpr (pO4 _) ?_)));refine (zxb n3 false n5 false hQA hQB hc (fun c hc => by have := lA c hc; omega)).mono ?_;rintro r h' ⟨L, rfl, rfl, hL⟩;refine ⟨(false, c6 L), ⟨rfl, rfl⟩, ⟨trivial, trivial⟩, ?_⟩;refine CodeY.seq (CodeY.of OutZ.stab (n0 := 0) (eC (Eq.mpr (pO5 _) ?_)));refine CodeY.seq (CodeY.of OutZ.stab (n0 := 0) (eC (Eq.mpr (pO6 _) ?_)));refine CodeY.nilRaw (d := 9) rfl (CodeY.le (e' := bT (.slice none 0 0) ((0 : Nat) : Int) ((0 : Nat) : Int)) ⟨rfl, rfl, rfl, rfl, trivial⟩ ?_)
  refine CodeY.seq (CodeY.block (CodeY.loop (S := fun u : Nat × Nat × (List DStep × Value) => (bT u.2.2.2 u.1 u.2.1, bK n3 false (QA.map aY) n5 false (QB.map aY) false (c6 L))) (A := fun u => u.2.2) (J := JOf (bF l) (bF m) 100000) (μ := fun u => (bF l).length + (bF m).length - (u.1 + u.2.1)) (s0 := (0, 0, ([], .slice none 0 0)))
   ⟨rfl, rfl, rfl, rfl, trivial⟩ rfl rfl ⟨qy _, qy _, ⟨[], rfl, rfl⟩, zlz⟩ fun u hJ => ?_))
  refine (zxr n3 false n5 false hQA hQB hc (qj _) lA lB hL u hJ).mono fun s x e h hx => ?_;cases x with
  | normal => exact hx
  | ret => exact hx.elim
  | exit k =>
    obtain ⟨rfl, hle, rfl, hs⟩ := hx;show CodeY _ _ _ _ _ _ _ _;refine CodeY.le hle (CodeY.seq (CodeY.region (H := fun _ => none) ?_ hR));rw [zxl];refine CodeY.ret (.inr ⟨rfl, fun nl hnl => ?_⟩);rw [hs] at hnl ⊢;exact ⟨_, .inr ⟨[.sl nl false _, .int .i64 0], rfl, rfl⟩, .inl ⟨hc, nl, hnl, rfl⟩⟩
theorem zc9 (s : DStep) : (encDS s).length = 3 := rfl
theorem zxw (s : DStep) (l : List DStep) : dR (s :: l) = (if s.kind = 0 then 0 else s.n) + dR l := by simp [dR]
theorem zxx (l : List DStep) (s : DStep) : dR (l ++ [s]) = dR l + (if s.kind = 0 then 0 else s.n) := by simp [dR, List.sum_append]
theorem zda (M : Nat) : ∀ (l : List DStep), (∀ s ∈ l, 0 <= s.n /\ s.n <= M) -> 0 <= dR l /\ dR l <= (l.length * M : Nat)
 | [], _ => by simp [dR]
 | s :: l, h => by
   have h1 := zda M l fun x hx => h x (ql _ hx);have h2 := h s qq;rw [zxw, qg, qau, Nat.one_mul];split <;> omega
theorem zxy (n f : Bool) (S : List DStep) (hS : S.length < 100000) (hn : ∀ s ∈ S, 0 <= s.n /\ s.n <= (1000000 : Nat)) : PCall qa 15 [.sl n f (S.map encDS)] fun v => v = .int .i64 (dR S) := by
 refine zvq n f (S.map encDS) (fun c x => ∃ i : Nat, x = i /\ i <= S.length /\ c = dR (S.take i)) (fun _ x => S.length - x.toNat) ?_;unfold zkp;refine ⟨⟨rfl, 0, rfl, qy _, rfl⟩, ?_⟩;rintro _ _ ⟨i, rfl, hi, rfl⟩;rw [qe];refine aG (fun hc => ?_) (fun hc => ?_)
 ·have hi' : i < S.length := by simp only [aB] at hc; omega
  have hb := zda 1000000 (S.take (i + 1)) fun s hs => hn s (qaa hs);have hb0 := zda 1000000 (S.take i) fun s hs => hn s (qaa hs);have hs := hn S[i] (qi hi');have hl : (S.take (i + 1)).length <= 100000 := by rw [qk]; omega
  have hl0 : (S.take i).length <= 100000 := by rw [qk]; omega
  have hm : (S.take (i + 1)).length * 1000000 <= 100000 * 1000000 := qu _ hl;have hm0 : (S.take i).length * 1000000 <= 100000 * 1000000 := qu _ hl0;have hsn := zxx (S.take i) S[i];rw [<- dD hi'] at hsn;have wi : i64.wrap ((i : Int) + 1) = ((i + 1 : Nat) : Int) := by rw [aC (by omega) (by omega)]; omega
  rw [qc, cS hi', wi];refine ⟨cE zc9 (by omega) (by omega), S[i].kind, rfl, S[i].n, rfl, false, false, aA S[i].text, rfl, ?_⟩;refine aG (fun hk => ?_) (fun hk => ?_)
  ·have hk : ¬ S[i].kind = 0 := by simpa using hk
   rw [if_neg hk] at hsn;rw [aC (by omega) (by omega), <- hsn];exact ⟨rfl, ⟨i + 1, rfl, hi', rfl⟩, by dsimp only; omega⟩
  ·have hk : S[i].kind = 0 := by simpa using hk
   rw [if_pos hk, Int.add_zero] at hsn;rw [<- hsn];exact ⟨rfl, ⟨i + 1, rfl, hi', rfl⟩, by dsimp only; omega⟩
 ·have : i = S.length := by simp only [aB] at hc; omega
  subst this;rw [qal]
theorem zxz (n f : Bool) (S : List DStep) (hS : S.length < 100000) (hk : ∀ s ∈ S, (s.kind = 0 ∨ s.kind = 1 ∨ s.kind = 2) /\ s.text.length < 1000000000) : PCall qa 17 [.sl n f (S.map encDS)] fun v => ∃ nl, v = .sl nl false ((S.map dS).map encDS) := by
 refine zvr n f (S.map encDS) (fun x _ s => ∃ i : Nat, x = i /\ i <= S.length /\ s = ((S.take i).map dS).map encDS) (fun x _ _ => S.length - x.toNat) ?_;unfold zkq;refine ⟨⟨rfl, 0, rfl, qy _, rfl⟩, ?_⟩;rintro _ n0 _ ⟨i, rfl, hi, rfl⟩;rw [qe];refine aG (fun hc => ?_) (fun hc => ?_)
 ·have hi' : i < S.length := by simp only [aB] at hc; omega
  obtain ⟨hs, ht⟩ := hk S[i] (qi hi');have wi : i64.wrap ((i : Int) + 1) = ((i + 1 : Nat) : Int) := by rw [aC (by omega) (by omega)]; omega
  have w3 : i64.wrap (3 - S[i].kind) = 3 - S[i].kind := aC (by omega) (by omega);have hl : (((S.take i).map dS).map encDS).length + 1 <= 100000 := by rw [qe, qe, qk]; omega
  rw [qc, cS hi', wi];refine ⟨cE zc9 (by omega) (by omega), S[i].kind, rfl, S[i].n, rfl, false, false, aA S[i].text, rfl, ?_⟩;rw [w3];have cl := zlt false false S[i].text (fun h => by cases h) (by omega)
  have fin : ∀ k : Int, (if S[i].kind = 1 ∨ S[i].kind = 2 then 3 - S[i].kind else S[i].kind) = k -> ((S.take i).map dS).map encDS ++ [[.int .i64 k, .int .i64 S[i].n, .sl false false (aA S[i].text)]] = ((S.take (i + 1)).map dS).map encDS := fun k hk => by
   rw [dD hi', qae, qae];congr 1;show _ = [encDS (dS S[i])];rw [<- hk]; rfl
  have step : ∀ k : Int, (if S[i].kind = 1 ∨ S[i].kind = 2 then 3 - S[i].kind else S[i].kind) = k -> PCall qa 47 [.sl false false (aA S[i].text)] fun v => ∃ n4 f2 es2, v = .sl n4 f2 es2 /\ (aR [[.int .i64 k, .int .i64 S[i].n, .sl n4 f2 es2]] 3 /\ ((((S.take i).map dS).map encDS).length + 1) * 40 <= 140737488355328) /\
   aH (wD n f (S.map encDS) ((i + 1 : Nat) : Int) (n0 && false) (((S.take i).map dS).map encDS ++ [[.int .i64 k, .int .i64 S[i].n, .sl n4 f2 es2]])) /\ (∃ j : Nat, ((i + 1 : Nat) : Int) = j /\ j <= S.length /\ ((S.take i).map dS).map encDS ++ [[.int .i64 k, .int .i64 S[i].n, .sl n4 f2 es2]] = ((S.take j).map dS).map encDS) /\
    S.length - ((i + 1 : Nat) : Int).toNat < S.length - (i : Int).toNat := fun k hk => cl.mono fun v hv => by
   subst hv;exact ⟨false, false, _, rfl, ⟨fun e he => by cases he; rfl, by omega⟩, rfl, ⟨i + 1, rfl, hi', fin k hk⟩, by omega⟩
  refine aG (fun h1 => ?_) (fun h1 => ?_)
  ·have h1 : S[i].kind = 1 := by simpa using h1
   exact step _ (if_pos (.inl h1))
  ·have h1 : ¬ S[i].kind = 1 := by simpa using h1
   refine aG (fun h2 => ?_) (fun h2 => ?_)
   ·have h2 : S[i].kind = 2 := by simpa using h2
    exact step _ (if_pos (.inr h2))
   ·have h2 : ¬ S[i].kind = 2 := by simpa using h2
    exact step _ (if_neg (by omega))
 ·have : i = S.length := by simp only [aB] at hc; omega
  subst this;rw [qal];exact ⟨_, rfl⟩
theorem zx0 (s : DStep) (l : List DStep) : eZ (s :: l) = (if s.kind = 2 then [] else s.text) ++ eZ l := rfl
theorem zx1 (l : List DStep) (s : DStep) : dH (l ++ [s]) = dH l ++ (if s.kind = 1 then [] else s.text) := by simp [dH, qao]
theorem zl3 (S : List DStep) (i : Nat) : (dH (S.take i)).length <= (dH S).length := by
 have : dH S = dH (S.take i) ++ dH (S.drop i) := by
  have h := qav i S
  conv => lhs; rw [<- h]
  simp only [dH, qao]
 rw [this, qb]; omega
theorem zl4 {len k : Nat} (h : k <= len) : d9 len none (some (k : Int)) none := ⟨qt _, by show (0 : Int) <= k; omega, by show (k : Int) <= len; omega, trivial⟩
theorem zl5 {len k : Nat} (h : k <= len) : d9 len (some (k : Int)) none none := ⟨by show (0 : Int) <= k; omega, by show (k : Int) <= len; omega, qt _, trivial⟩
theorem pDo {T : PV} (hv : fN tab T) (n f n2 f2 : Bool) (l : List Int) (rl : R32 l) (hl : l.length < 10000) (S : List DStep) (hS : S.length < 100000) (hk : ∀ s ∈ S, s.kind = 0 ∨ s.kind = 1 ∨ s.kind = 2) (hsrc : eZ S = dL tab l) (hd : (dH S).length < 1000000) :
 PCall qa 23 [T, .sl n f (aA l), .sl n2 f2 (S.map encDS)] fun x => ∃ nl, x = .tup [.sl nl false (aA (dH S)), .bool true] := by
 have h3 := zc3 hv n f l rl (by omega);obtain ⟨tc, tg, tj, tf, tp, made, sec, rfl, _, _⟩ := hv;have hnl := l7 l
 refine zvs _ _ _ _ _ _ _ n f (aA l) n2 f2 (S.map encDS)
  (fun _ _ s x _ o => ∃ (i : Nat) (R : List Int), x = i /\ i <= S.length /\ s = aA R /\ R = eZ (S.drop i) /\ R.length < 100000 /\ o = aA (dH (S.take i))) (fun _ _ _ x _ _ => S.length - x.toNat) ?_
 unfold zkr;refine h3.mono ?_;rintro _ ⟨n1, f1, rfl⟩;refine ⟨n1, f1, _, rfl, ⟨rfl, 0, dL tab l, rfl, qy _, rfl, hsrc.symm, by omega, rfl⟩, ?_⟩;rintro n11 f11 _ _ n0 _ ⟨i, R, rfl, hi, rfl, hR, hRl, rfl⟩;rw [qe];refine aG (fun hc => ?_) (fun hc => ?_)
 ·have hi' : i < S.length := by simp only [aB] at hc; omega
  have wi : i64.wrap ((i : Int) + 1) = ((i + 1 : Nat) : Int) := by rw [aC (by omega) (by omega)]; omega
  have hki := hk S[i] (qi hi');rw [qaq hi', zx0] at hR;have hdn := zx1 (S.take i) S[i];rw [<- dD hi'] at hdn;have hdl := zl3 S (i + 1);have hdl0 := zl3 S i;rw [qc, cS hi', wi];refine ⟨cE zc9 (by omega) (by omega), S[i].kind, rfl, S[i].n, rfl, false, false, aA S[i].text, rfl, ?_⟩
  have tl : S[i].kind ≠ 1 -> (dH (S.take i)).length + S[i].text.length < 1000000 := fun h => by
   rw [hdn, if_neg h, qb] at hdl; omega
  have mu : S.length - (((i + 1 : Nat) : Int)).toNat < S.length - (i : Int).toNat := by omega
  have fits : S[i].kind ≠ 2 -> S[i].text.length <= R.length /\ dQ R 0 S[i].text.length = S[i].text /\ dQ R S[i].text.length R.length = eZ (S.drop (i + 1)) := fun h => by
   rw [if_neg h] at hR;subst hR;exact ⟨by rw [qb]; omega, by simp [dQ], by rw [dQ, qal, List.drop_left]⟩
  refine aG (fun h2 => ?_) (fun h2 => ?_)
  ·have h2 : S[i].kind = 2 := by simpa using h2
   have := tl (by omega);refine ⟨⟨dT _, by rw [bN, bN]; omega⟩, rfl, ⟨i + 1, R, rfl, hi', rfl, ?_, hRl, ?_⟩, mu⟩
   ·rw [hR, if_pos h2]; rfl
   ·rw [hdn, if_neg (by omega), zab]
  ·have h2 : ¬ S[i].kind = 2 := by simpa using h2
   obtain ⟨g1, g2, g3⟩ := fits h2;have hle : ¬ decide (((aA R).length : Int) < ((aA S[i].text).length : Int)) = true := by rw [bN, bN, aB]; omega
   have eq : ∀ (a b c d : Bool), PCall qa 36 [.sl a b (aA (dQ R 0 S[i].text.length)), .sl c d (aA S[i].text)] fun v => v = .bool true := fun a b c d => by
    rw [g2];exact (zcz a b c d _ _ (by omega)).mono fun v hv => by rw [hv]; simp
   refine aG (fun h0 => ?_) (fun h0 => ?_)
   ·have h0 : S[i].kind = 0 := by simpa using h0
    have := tl (by omega);refine ⟨⟨dT _, by rw [bN, bN]; omega⟩, bS hle ?_⟩;simp only [bN, qc, zc4, g3];refine ⟨⟨zl4 g1, dT _⟩, (eq _ _ _ _).mono ?_⟩;rintro _ rfl;refine ⟨true, rfl, bS (by simp) ⟨⟨zl5 g1, dT _⟩, ?_⟩⟩;refine ⟨rfl, ⟨i + 1, _, rfl, hi', rfl, rfl, ?_, ?_⟩, mu⟩
    ·rw [<- g3]; show (dQ R _ _).length < _; unfold dQ; rw [qac, qk]; omega
    ·rw [hdn, if_neg (by omega), zab]
   ·have h0 : ¬ S[i].kind = 0 := by simpa using h0
    have h1 : S[i].kind = 1 := by omega
    refine bV (by simpa using h1) (bS hle ?_)
    simp only [bN, qc, zc4, g3];refine ⟨⟨zl4 g1, dT _⟩, (eq _ _ _ _).mono ?_⟩;rintro _ rfl;refine ⟨true, rfl, bS (by simp) ⟨⟨zl5 g1, dT _⟩, ?_⟩⟩;refine ⟨rfl, ⟨i + 1, _, rfl, hi', rfl, rfl, ?_, ?_⟩, mu⟩
    ·rw [<- g3]; show (dQ R _ _).length < _; unfold dQ; rw [qac, qk]; omega
    ·rw [hdn, if_pos h1, qv]
 ·have : i = S.length := by simp only [aB] at hc; omega
  subst this;rw [qah] at hR;subst hR;rw [qal];exact ⟨n0, rfl⟩
theorem zx2 : bF [97, 98, 99] = [[97], [98], [99]] := by kernel_rfl
theorem zx3 : bF [97, 120, 99] = [[97], [120], [99]] := by kernel_rfl
theorem zx4 : e9 [[97], [98], [99]] [[97], [120], [99]] = [⟨0, 1, [97]⟩, ⟨1, 1, [98]⟩, ⟨2, 1, [120]⟩, ⟨0, 1, [99]⟩] := by
 have h : bI [[97], [98], [99]] [[97], [120], [99]] = [(0, [97]), (1, [98]), (2, [120]), (0, [99])] := by
  simp [sM, sK, vC, vB, sL, pU, sJ]
 unfold e9;rw [h]; rfl
theorem awake50 : PCall qa 13 [] fun v => v = .bool true := by
 refine zvt ?_;unfold zks;refine p42.mono ?_;rintro _ ⟨n, f, rfl⟩;refine ⟨n, f, _, rfl, (zk4 n f).mono fun T hT => ?_⟩;have r1 : R32 [97, 98, 99] := fun x hx => by simp at hx; omega
 have r2 : R32 [97, 120, 99] := fun x hx => by simp at hx; omega
 have := zl2 hT false true false true [97, 98, 99] [97, 120, 99] r1 r2 (by decide) (by decide);rw [zx2, zx3, zx4] at this;refine this.mono ?_;rintro _ (⟨_, nl, _, rfl⟩ | ⟨h, _⟩)
 ·refine ⟨_, rfl, rfl, _, rfl, nl, false, _, rfl, _, rfl, 0, rfl, bV rfl ⟨⟨by decide, by decide, rfl⟩, 0, rfl, bV rfl ⟨⟨by decide, by decide, rfl⟩, 1, rfl, bV rfl ⟨⟨by decide, by decide, rfl⟩, 2, rfl, bV rfl ?_⟩⟩⟩⟩
  refine (zxy nl false [⟨0, 1, [97]⟩, ⟨1, 1, [98]⟩, ⟨2, 1, [120]⟩, ⟨0, 1, [99]⟩] (by decide) (fun s hs => by
   simp only [List.mem_cons, List.mem_nil_iff, or_false] at hs
   rcases hs with rfl | rfl | rfl | rfl <;> exact ⟨by decide, by decide⟩)).mono ?_
  rintro _ rfl;exact ⟨_, rfl, rfl⟩
 ·exact absurd (by decide) h
end Go.Eng
namespace Go.Eng.Rows
open Go Go.Eng Go.Eng.Trie Go.Eng.Srt
section
variable {rows : List Row}
theorem zx5 {r : Int} (h : eD rows r = false) (hn : aJ rows r ≠ (0, 0)) : (aJ rows r).2 ≠ 0 /\ aD rows 1 r = 0 /\ aD rows 1 (aJ rows r).1 = 0 := by
 unfold eD at h;simp [hn] at h;exact ⟨h.1, h.2.2.1, h.2.2.2⟩
theorem zx6 (h1 : eQ rows) (hks : ∀ r, bZ r = true -> aD rows 1 r = 0) {a b c : Int} (h : fK rows a b = some c) : aD rows 1 c = 0 := by
 unfold fK at h;split at h
 ·rename_i s hj; cases h; exact hks _ (zQ hj)
 ·obtain ⟨q1, q2, q3, _⟩ := zP h1 h;exact (zx5 q3 (by rw [q1]; intro e; exact q2 (Prod.mk.inj e).2)).2.1
theorem zx7 (h1 : eQ rows) (hks : ∀ r, bZ r = true -> aD rows 1 r = 0) (d : List Int) : ∀ a, (bQ rows d).s = some a -> aD rows 1 a = 0 := by
 induction d using jE with
 | h0 => intro a h; cases h
 | h1 d r ih =>
   rw [iB];rcases pR rows (bQ rows d) r with e | ⟨b, c, hs, hp, _, e⟩
   ·rw [e];unfold cQ;split
    ·rename_i h0; intro a h; cases h; exact h0
    ·exact ih
   ·rw [e];intro a h; cases h; exact zx6 h1 hks hp
end
def zx8 (rows : List Row) (a b : Int) : Bool := rows.all fun x => !decide (x.kind = 1) || (decide (x.to < a) || decide (b < x.fr))
theorem zx9 {rows : List Row} {a b r : Int} (h : zx8 rows a b = true) (h1 : a <= r) (h2 : r <= b) : aD rows 1 r = 0 := by
 unfold aD;cases hf : cH rows 1 r with
 | none => rfl
 | some p =>
   obtain ⟨x, hx, hk, _, _, f1, f2, _⟩ := kK hf;have := List.all_eq_true.1 h x hx;simp only [hk, decide_true, qbv, qbw, qp, aB] at this;omega
end Go.Eng.Rows
namespace Go.Eng
open Go Go.Proofs Go.Eng.Rows Go.Eng.Trie
theorem zya : ∀ r, bZ r = true -> aD tab 1 r = 0 := fun r hs => by
 simp only [bZ, qf, aB] at hs;exact zx9 (a := 44032) (b := 55203) (by kernel_rfl) hs.1 hs.2
theorem zyb : ∀ (d : List Int) a, (bQ tab d).s = some a -> aD tab 1 a = 0 := zx7 sU zya
end Go.Eng
namespace Go.Eng
open Go Go.Proofs
section
variable (n f : Bool) (es : LL) (r : Int)
def zl6 (R : PV -> Prop) : Prop :=
 PCall qa 101 [PV.sl n f es, Z3 r] fun v => ∃ vs, v = PV.tup vs /\ vs.length = 3 /\ ∃ x, vs.head? = some x /\ ∃ n1, x = Z3 n1 /\ ∃ x1, vs.tail.head? = some x1 /\ ∃ n2, x1 = Z3 n2 /\ ∃ x2, vs.tail.tail.head? = some x2 /\ ∃ b, x2 = Zb b /\ if (!b) = true then R (Zb false) else if (n2 == 0) = true then R (Zb true) else PCall qa 128 [PV.sl n f es, Z6 3, Z3 r] fun v1 => ∃ n3, v1 = Z6 n3 /\ if (n3 == 1) = true then R (Zb true) else PCall qa 128 [PV.sl n f es, Z6 1, Z3 r] fun v2 => ∃ n4, v2 = Z6 n4 /\ if (n4 != 0) = true then R (Zb true) else PCall qa 128 [PV.sl n f es, Z6 1, Z3 n1] fun v3 => ∃ n5, v3 = Z6 n5 /\ R (Zb (n5 != 0))
theorem zyc {R : PV -> Prop} (h : zl6 n f es r R) : PCall qa 129 [.sl n f es, .int .i32 r] R :=
 PCall.wz Tryz.func129 aP [0, 1, 4, 5, 6, 7, 16] bG h
end
end Go.Eng
namespace Go.Eng
open Go Go.Proofs
open Go Go.Proofs Go.Eng.Rows Go.Eng.Trie
end Go.Eng
namespace Go.Eng
open Go Go.Proofs Go.Eng.Rows Go.Eng.Trie
section
variable {rows : List Row}
theorem zl7 (i : Int) : dG rows 3 i = decide (aD rows 3 i = 1) := by
 unfold dG aD;cases cH rows 3 i with
 | none => rfl
 | some p => rfl
theorem zyd (hp : dJ rows) (n f : Bool) (r : Int) (hl : rows.length < 1000000) (hr : -2147483648 <= r /\ r <= 2147483647) : PCall qa 129 [.sl n f (bO rows), .int .i32 r] fun v => v = .bool (eD rows r) := by
 refine zyc _ _ _ _ ?_; unfold zl6;refine (vU hp n f r hl hr).mono ?_;rintro _ rfl;have hrng := pN hp r;refine ⟨_, rfl, rfl, _, rfl, _, rfl, _, rfl, _, rfl, _, rfl, _, rfl, ?_⟩;refine aG (fun h1 => ?_) (fun h1 => aG (fun h2 => ?_) (fun h2 => ?_))
 ·simp only [qbi, aB] at h1;unfold eD; simp [h1]
 ·simp only [qbi, aB] at h1;simp only [beq_iff_eq] at h2;unfold eD; simp [h1, h2]
 ·simp only [qbi, aB] at h1;simp only [beq_iff_eq] at h2;refine (vS n f 3 r hl hr).mono ?_;rintro _ rfl;refine ⟨_, rfl, ?_⟩;refine aG (fun h4 => ?_) (fun h4 => ?_)
  ·simp only [beq_iff_eq] at h4;unfold eD; rw [zl7]; simp [h1, h2, h4]
  ·simp only [beq_iff_eq] at h4;refine (vS n f 1 r hl hr).mono ?_;rintro _ rfl;refine ⟨_, rfl, ?_⟩;refine aG (fun h5 => ?_) (fun h5 => ?_)
   ·simp only [bne_iff_ne, ne_eq] at h5;unfold eD; simp [h1, h2, h5]
   ·simp only [bne_iff_ne, ne_eq, qm] at h5;refine (vS n f 1 _ hl (by omega)).mono ?_;rintro _ rfl;refine ⟨_, rfl, ?_⟩;unfold eD; rw [zl7];simp only [h1, h2, h4, h5, decide_false, Bool.not_false, qaz, qbw, decide_true, qbv];rfl
end
end Go.Eng
namespace Go.Eng
open Go Go.Proofs
section
variable (a b : Int)
def zl8 (R : PV -> Prop) : Prop :=
 if (decide (a >= 4352) && decide (a <= 4370) && decide (b >= 4449) && decide (b <= 4469)) = true then R (PV.tup [Z3 (i32.wrap (i64.wrap (i64.wrap ((44032 : Int) + i64.wrap (i64.wrap (i64.wrap a - 4352) * 588)) + i64.wrap (i64.wrap (i64.wrap b - 4449) * 28)))), Zb true]) else ACall qa 100 [LV.pv (Z3 a)] [] fun (r : LV) (h' : Hp) => (∃ (t : Bool × LL), (r = LV.own 0 /\ h' = [Ob.sl (21, 1) true t.fst t.snd]) /\ True /\ if ((↑t.snd.length : Int) == 2 && decide (b >= 4520) && decide (b <= 4546)) = true then R (PV.tup [Z3 (i32.wrap (a + i32.wrap (b - 4519))), Zb true]) else R (PV.tup [Z3 0, Zb false])) ∨ ∃ (t : Bool × LL), (r = LV.pv (PV.sl t.fst true t.snd) /\ h' = []) /\ True /\ if ((↑t.snd.length : Int) == 2 && decide (b >= 4520) && decide (b <= 4546)) = true then R (PV.tup [Z3 (i32.wrap (a + i32.wrap (b - 4519))), Zb true]) else R (PV.tup [Z3 0, Zb false])
theorem zye {R : PV -> Prop} (h : zl8 a b R) : PCall qa 97 [.int .i32 a, .int .i32 b] R :=
 PCall.wz Tryz.func97 (fun zz_ => match zz_ with | 100 => some ⟨Bool × LL, fun _ hs t => (.own hs.length, hs ++ [.sl (21, 1) true t.1 t.2]), some ⟨Bool × LL, fun _ hs t => (.pv (.sl t.1 true t.2), hs)⟩⟩ | _ => none) [0, 1, 4, 5, 6, 20, 44] bG h
end
def zdb (n f : Bool) (es : LL) (a b : Int) (x8 : Int) (x9 : Bool) (x10 : Int) : Env × Hp := ([(0, LV.pv (PV.sl n f es)), (1, LV.pv (PV.int i32 a)), (2, LV.pv (PV.int i32 b)), (8, .pv (.int i32 x8)), (9, .pv (.bool x9)), (10, Y6 x10)], [])
section
variable (n f : Bool) (es : LL) (a b : Int) (J : Int -> Bool -> Int -> Prop) (μ : Int -> Bool -> Int -> Nat)
def zl9 (R : PV -> Prop) : Prop :=
 (aH (zdb n f es a b (0 : Int) false (0 : Int)) /\ J (0 : Int) false (0 : Int)) /\ ∀ (x8 : Int) (x9 : Bool) (x10 : Int), J x8 x9 x10 ->
 let K4 := fun (y0_ : Int) (y1_ : Bool) (y2_ : Int) => aH (zdb n f es a b y0_ y1_ y2_) /\ J y0_ y1_ y2_ /\ μ y0_ y1_ y2_ < μ x8 x9 x10; if decide (x10 < (↑es.length : Int)) = true then aI es x10 5 /\ ∃ n1, (qd 0 (es.getD x10.toNat [])).head? = some (Z6 n1) /\
 let V1 := K4 x8 x9 (i64.wrap (x10 + 1)); if (n1 != 2) = true then V1 else aI es x10 5 /\ ∃ n2, (qd 3 (es.getD x10.toNat [])).head? = some (Z6 n2) /\ if (n2 != i64.wrap a) = true then V1 else aI es x10 5 /\ ∃ n3, (qd 4 (es.getD x10.toNat [])).head? = some (Z6 n3) /\ if (n3 != i64.wrap b || b == 0) = true then V1 else aI es x10 5 /\ ∃ n4, (qd 1 (es.getD x10.toNat [])).head? = some (Z6 n4) /\ PCall qa 101 [PV.sl n f es, Z3 (i32.wrap n4)] fun v => ∃ vs, v = PV.tup vs /\ vs.length = 3 /\ ∃ x, vs.head? = some x /\ ∃ n5, x = Z3 n5 /\ ∃ x1, vs.tail.head? = some x1 /\ ∃ n6, x1 = Z3 n6 /\ ∃ x2, vs.tail.tail.head? = some x2 /\ ∃ b1, x2 = Zb b1 /\ if (b1 && n5 == a && n6 == b) = true then PCall qa 129 [PV.sl n f es, Z3 (i32.wrap n4)] fun v1 => ∃ b2, v1 = Zb b2 /\ if (!b2 && (!x9 || decide (i32.wrap n4 < x8))) = true then K4 (i32.wrap n4) true (i64.wrap (x10 + 1)) else V1 else V1 else R (PV.tup [Z3 x8, Zb x9])
theorem zyf {R : PV -> Prop} (h : zl9 n f es a b J μ R) : PCall qa 98 [.sl n f es, .int .i32 a, .int .i32 b] R :=
 PCall.wz Tryz.func98 aP [0, 1, 2, 6, 7, 8, 9, 10, 11, 12, 13, 14, 18, 50, 89] (dC 4 (bP eH (zdb n f es a b) J μ (fun e h => (gI e 8, gB e 9, gI e 10)) [] [0, 1, 2, 8, 9, 10] [])) h
end
section
variable (n f : Bool) (es : LL) (a b : Int)
def zma (R : PV -> Prop) : Prop :=
 PCall qa 97 [Z3 a, Z3 b] fun v => ∃ vs, v = PV.tup vs /\ vs.length = 2 /\ ∃ x, vs.head? = some x /\ ∃ n1, x = Z3 n1 /\ ∃ x1, vs.tail.head? = some x1 /\ ∃ b1, x1 = Zb b1 /\ if b1 = true then R (PV.tup [Z3 n1, Zb true]) else PCall qa 98 [PV.sl n f es, Z3 a, Z3 b] fun v1 => ∃ vs1, v1 = PV.tup vs1 /\ vs1.length = 2 /\ ∃ x2, vs1.head? = some x2 /\ ∃ n2, x2 = Z3 n2 /\ ∃ x3, vs1.tail.head? = some x3 /\ ∃ b2, x3 = Zb b2 /\ R (PV.tup [Z3 n2, Zb b2])
theorem zyg {R : PV -> Prop} (h : zma n f es a b R) : PCall qa 76 [.sl n f es, .int .i32 a, .int .i32 b] R :=
 PCall.wz Tryz.func76 aP [0, 1, 2, 6, 7, 8, 9, 16] bG h
end
def zdc (n f : Bool) (es : LL) (n2 f2 : Bool) (ss : LL) (x5 : Int) : Env × Hp := ([(0, LV.pv (PV.sl n f es)), (1, LV.pv (PV.sl n2 f2 ss)), (5, Y6 x5)], [])
section
variable (n f : Bool) (es : LL) (n2 f2 : Bool) (ss : LL) (J : Int -> Prop) (μ : Int -> Nat)
def zmb (R : PV -> Prop) : Prop :=
 (aH (zdc n f es n2 f2 ss (i64.wrap ((↑ss.length : Int) - 1))) /\ J (i64.wrap ((↑ss.length : Int) - 1))) /\ ∀ (x5 : Int), J x5 -> if decide (x5 >= 0) = true then aI ss x5 1 /\ ∃ n1, (ss.getD x5.toNat []).head? = some (Z3 n1) /\ PCall qa 96 [PV.sl n f es, Z3 n1] fun v => ∃ n3, v = Z6 n3 /\ if (n3 == 0) = true then R (Z6 x5) else aH (zdc n f es n2 f2 ss (i64.wrap (x5 - 1))) /\ J (i64.wrap (x5 - 1)) /\ μ (i64.wrap (x5 - 1)) < μ x5 else R (Z6 (-1 : Int))
theorem zyh {R : PV -> Prop} (h : zmb n f es n2 f2 ss J μ R) : PCall qa 74 [.sl n f es, .sl n2 f2 ss] R :=
 PCall.wz Tryz.func74 aP [0, 1, 4, 5, 10, 19] (dC 2 (bP cz1 (zdc n f es n2 f2 ss) J μ (fun e h => (((gI e 5), ()))) [] [0, 1, 5] [])) h
end
section
variable (n f : Bool) (es : LL) (n2 f2 : Bool) (ss : LL) (k r : Int)
def zmc (R : PV -> Prop) : Prop :=
 if (k == i64.wrap ((↑ss.length : Int) - 1)) = true then R (Zb true) else aI ss (i64.wrap ((↑ss.length : Int) - 1)) 1 /\ ∃ n1, (ss.getD (i64.wrap ((↑ss.length : Int) - 1)).toNat []).head? = some (Z3 n1) /\ PCall qa 96 [PV.sl n f es, Z3 n1] fun v => ∃ n3, v = Z6 n3 /\ PCall qa 96 [PV.sl n f es, Z3 r] fun v1 => ∃ n4, v1 = Z6 n4 /\ R (Zb (decide (n3 < n4)))
theorem zyi {R : PV -> Prop} (h : zmc n f es ss k r R) : PCall qa 75 [.sl n f es, .sl n2 f2 ss, .int .i64 k, .int .i32 r] R :=
 PCall.wz Tryz.func75 aP [0, 1, 2, 3, 8, 13] bG h
end
def zdd (n f : Bool) (es : LL) (n2 f2 : Bool) (ss : LL) (x6 : Int) (n_0 : Bool) (s_0 : LL) : Env × Hp := ([(0, LV.pv (PV.sl n f es)), (1, LV.pv (PV.sl n2 f2 ss)), (5, LV.own 0), (6, Y6 x6)], [.sl (21, 1) true n_0 s_0])
section
variable (n f : Bool) (es : LL) (n2 f2 : Bool) (ss : LL) (J : Int -> Bool -> LL -> Prop) (μ : Int -> Bool -> LL -> Nat)
def zmd (R : PV -> Prop) : Prop :=
 (aH (zdd n f es n2 f2 ss (0 : Int) true []) /\ J (0 : Int) true []) /\ ∀ (x6 : Int) (n_0 : Bool) (s_0 : LL), J x6 n_0 s_0 ->
 let K3 := fun (y0_ : Int) (y1_ : Bool) (y2_ : LL) => aH (zdd n f es n2 f2 ss y0_ y1_ y2_) /\ J y0_ y1_ y2_ /\ μ y0_ y1_ y2_ < μ x6 n_0 s_0; if decide (x6 < (↑ss.length : Int)) = true then PCall qa 74 [PV.sl n f es, PV.sl n_0 false s_0] fun v => ∃ n1, v = Z6 n1 /\ true = true /\
 let V1 := aI ss x6 1 /\ ∃ n7, (ss.getD x6.toNat []).head? = some (Z3 n7) /\ (aR [[Z3 n7]] 1 /\ (s_0.length + 1) * 4 <= 140737488355328) /\ K3 (i64.wrap (x6 + 1)) (n_0 && false) (s_0 ++ [[Z3 n7]]); if decide (n1 >= 0) = true then aI ss x6 1 /\ ∃ n3, (ss.getD x6.toNat []).head? = some (Z3 n3) /\ PCall qa 75 [PV.sl n f es, PV.sl n_0 false s_0, Z6 n1, Z3 n3] fun v1 => ∃ b, v1 = Zb b /\ true = true /\ if b = true then aI s_0 n1 1 /\ ∃ n4, (qd 0 (s_0.getD n1.toNat [])).head? = some (Z3 n4) /\ aI ss x6 1 /\ ∃ n5, (ss.getD x6.toNat []).head? = some (Z3 n5) /\ PCall qa 76 [PV.sl n f es, Z3 n4, Z3 n5] fun v2 => ∃ vs, v2 = PV.tup vs /\ vs.length = 2 /\ ∃ x, vs.head? = some x /\ ∃ n6, x = Z3 n6 /\ ∃ x1, vs.tail.head? = some x1 /\ ∃ b1, x1 = Zb b1 /\ if b1 = true then aI s_0 n1 1 /\ (1 = 1 /\ 1 <= (s_0.getD n1.toNat []).length) /\ K3 (i64.wrap (x6 + 1)) n_0 (s_0.set n1.toNat (Z3 n6 :: zq (qd 1 (s_0.getD n1.toNat [])))) else V1 else V1 else V1 else R (PV.sl n_0 false s_0)
theorem zyj {R : PV -> Prop} (h : zmd n f es n2 f2 ss J μ R) : PCall qa 51 [.sl n f es, .sl n2 f2 ss] R :=
 PCall.wz Tryz.func51 aP [0, 1, 4, 5, 6, 7, 8, 9, 13, 30, 44] (dC 3 (bP eH (zdd n f es n2 f2 ss) J μ (fun e h => (gI e 6, oN h 0, oS h 0)) [(5, 21, 1)] [0, 1, 5, 6] [])) h
end
section
variable (n f : Bool) (es : LL) (n2 f2 : Bool) (ss : LL)
def zme (R : PV -> Prop) : Prop :=
 PCall qa 52 [PV.sl n f es, PV.sl n2 f2 ss] fun v => ∃ n1 f1 es1, v = PV.sl n1 f1 es1 /\ PCall qa 51 [PV.sl n f es, PV.sl n1 f1 es1] fun v1 => ∃ n3 f3 es2, v1 = PV.sl n3 f3 es2 /\ R (PV.sl n3 f3 es2)
theorem zyk {R : PV -> Prop} (h : zme n f es n2 f2 ss R) : PCall qa 24 [.sl n f es, .sl n2 f2 ss] R :=
 PCall.wz Tryz.func24 aP [0, 1, 4] bG h
end
end Go.Eng
namespace Go.Eng
open Go Go.Proofs Go.Eng.Rows Go.Eng.Trie Go.Eng.Srt
theorem zyl {r : Int} (hs : bZ r = false) : ACall qa 100 [.pv (.int .i32 r)] [] fun r1 h' => r1 = .pv (.sl true true []) /\ h' = [] := by
 refine zhw _ ?_; unfold zao;refine (pIs r).mono ?_;rintro _ rfl;refine ⟨_, rfl, ?_⟩;rw [hs];exact bV rfl ⟨rfl, rfl⟩
theorem zym {a b : Int} (ha : -2147483648 <= a /\ a <= 2147483647) (hb : -2147483648 <= b /\ b <= 2147483647) : PCall qa 97 [.int .i32 a, .int .i32 b] fun v => v = kT (eR a b) := by
 refine zye _ _ ?_; unfold zl8;have wa : i64.wrap a = a := aC (by omega) (by omega);have wb : i64.wrap b = b := aC (by omega) (by omega);rw [wa, wb];refine aG (fun hc => ?_) (fun hc => ?_)
 ·simp only [qf, aB, ge_iff_le] at hc;have w1 : i64.wrap (a - 4352) = a - 4352 := aC (by omega) (by omega);have w2 : i64.wrap ((a - 4352) * 588) = (a - 4352) * 588 := aC (by omega) (by omega);have w3 : i64.wrap (44032 + (a - 4352) * 588) = 44032 + (a - 4352) * 588 := aC (by omega) (by omega);have w4 : i64.wrap (b - 4449) = b - 4449 := aC (by omega) (by omega);have w5 : i64.wrap ((b - 4449) * 28) = (b - 4449) * 28 := aC (by omega) (by omega);rw [w1, w2, w3, w4, w5];have w6 : i64.wrap (44032 + (a - 4352) * 588 + (b - 4449) * 28) = 44032 + (a - 4352) * 588 + (b - 4449) * 28 := aC (by omega) (by omega);rw [w6];have w7 : i32.wrap (44032 + (a - 4352) * 588 + (b - 4449) * 28) = 44032 + (a - 4352) * 588 + (b - 4449) * 28 := cZ (by omega) (by omega);rw [w7];unfold eR;rw [if_pos (by omega)];simp only [kT];rw [show 44032 + (a - 4352) * 588 + (b - 4449) * 28 = 44032 + ((a - 4352) * 21 + (b - 4449)) * 28 by omega]
 ·simp only [qf, aB, ge_iff_le] at hc;have hn : ¬ ((4352 <= a /\ a < 4371) /\ 4449 <= b /\ b < 4470) := by omega
  have fin : ∀ (l : List (List PV)), (((l.length : Int) = 2 ↔ (bZ a = true /\ (a - 44032) % 28 = 0))) -> (if (((l.length : Int)) == 2 && decide (b >= 4520) && decide (b <= 4546)) = true then (PV.tup [.int .i32 (i32.wrap (a + i32.wrap (b - 4519))), .bool true] : PV) = kT (eR a b) else (PV.tup [.int .i32 0, .bool false] : PV) = kT (eR a b)) := fun l hl => by
   refine aG (fun h2 => ?_) (fun h2 => ?_)
   ·simp only [qf, aB, beq_iff_eq, ge_iff_le] at h2;have hs := hl.1 h2.1.1;have hr := hs.1;simp only [bZ, qf, aB] at hr;have w1 : i32.wrap (b - 4519) = b - 4519 := cZ (by omega) (by omega);have w2 : i32.wrap (a + (b - 4519)) = a + (b - 4519) := cZ (by omega) (by omega);rw [w1, w2];unfold eR; rw [if_neg hn, if_pos ⟨hs, by omega, by omega⟩]; rfl
   ·simp only [qf, aB, beq_iff_eq, ge_iff_le] at h2;unfold eR; rw [if_neg hn, if_neg (fun h => h2 ⟨⟨hl.2 h.1, by omega⟩, by omega⟩)]; rfl
  cases hs : bZ a with
  | false =>
    refine (zyl hs).mono ?_;rintro _ _ ⟨rfl, rfl⟩;exact .inr ⟨(true, []), ⟨rfl, rfl⟩, trivial, fin [] (by rw [hs]; simp)⟩
  | true =>
    have hl : ((aA (eK a)).length : Int) = 2 ↔ (bZ a = true /\ (a - 44032) % 28 = 0) := by
     rw [bN, hs];unfold eK;split <;> simp [*]
    refine (zca hs).mono ?_;rintro r1 h' (⟨nl, rfl, rfl⟩ | ⟨rfl, rfl⟩)
    ·exact .inl ⟨(nl, _), ⟨rfl, rfl⟩, trivial, fin _ hl⟩
    ·exact .inr ⟨(false, _), ⟨rfl, rfl⟩, trivial, fin _ hl⟩
section
variable {rows : List Row}
def qD (o : Option Int) : Int := o.getD 0
theorem zyn (hp : dJ rows) (h1 : eQ rows) (n f : Bool) {a b : Int} (hl : rows.length < 1000000) (ha : -2147483648 <= a /\ a <= 2147483647) (hb : -2147483648 <= b /\ b <= 2147483647) :
 PCall qa 98 [.sl n f (bO rows), .int .i32 a, .int .i32 b] fun v => v = kT (mK rows a b) := by
 refine zyf _ _ _ _ _ (fun x8 x9 i => (0 <= i /\ i <= rows.length) /\ x8 = qD ((rows.take i.toNat).foldl (Rows.cmpS rows a b) none) /\ x9 = ((rows.take i.toNat).foldl (Rows.cmpS rows a b) none).isSome) (fun _ _ i => rows.length - i.toNat) ?_;unfold zl9;refine ⟨⟨rfl, ⟨qt _, by omega⟩, rfl, rfl⟩, ?_⟩;rintro x8 x9 i ⟨⟨i0, i1⟩, h8, h9⟩;have wa : i64.wrap a = a := aC (by omega) (by omega);have wb : i64.wrap b = b := aC (by omega) (by omega);rw [wa, wb];refine aG (fun hc => ?_) (fun hc => ?_)
 ·simp only [aB, jJ] at hc;have hi : i.toNat < rows.length := by omega
  have hw : i64.wrap (i + 1) = i + 1 := aC (by omega) (by omega);have hg : (bO rows).getD i.toNat [] = nZ rows[i.toNat] := cS hi;have hix : aI (bO rows) i 5 := cE p8 i0 (by omega);have hmem := qi hi
  have hst : (rows.take (i + 1).toNat).foldl (Rows.cmpS rows a b) none = Rows.cmpS rows a b ((rows.take i.toNat).foldl (Rows.cmpS rows a b) none) rows[i.toNat] := by
   rw [show (i + 1).toNat = i.toNat + 1 by omega, dD hi, qbm]; rfl
  rw [hw];generalize (rows.take i.toNat).foldl (Rows.cmpS rows a b) none = o at *;generalize rows[i.toNat] = x at *
  have skip : eE rows a b x = false -> (0 <= i + 1 /\ i + 1 <= rows.length) /\ x8 = qD ((rows.take (i + 1).toNat).foldl (Rows.cmpS rows a b) none) /\ x9 = ((rows.take (i + 1).toNat).foldl (Rows.cmpS rows a b) none).isSome := fun h => by
   rw [hst]; unfold Rows.cmpS; rw [h]; exact ⟨⟨by omega, by omega⟩, h8, h9⟩
  have hmu : rows.length - (i + 1).toNat < rows.length - i.toNat := by omega
  refine ⟨hix, x.kind, by rw [hg]; rfl, aG (fun c1 => ?_) (fun c1 => ?_)⟩
  ·simp only [bne_iff_ne, ne_eq] at c1;exact ⟨rfl, skip (by simp [eE, c1]), hmu⟩
  simp only [bne_iff_ne, ne_eq, qm] at c1;refine ⟨hix, x.a, by rw [hg]; rfl, aG (fun c2 => ?_) (fun c2 => ?_)⟩
  ·simp only [bne_iff_ne, ne_eq] at c2;exact ⟨rfl, skip (by simp [eE, c2]), hmu⟩
  simp only [bne_iff_ne, ne_eq, qm] at c2;refine ⟨hix, x.b, by rw [hg]; rfl, aG (fun c3 => ?_) (fun c3 => ?_)⟩
  ·simp only [qp, bne_iff_ne, ne_eq, beq_iff_eq] at c3;refine ⟨rfl, skip ?_, hmu⟩;rcases c3 with c3 | c3
   ·simp [eE, c3]
   ·simp [eE, c3]
  simp only [qp, bne_iff_ne, ne_eq, beq_iff_eq, not_or, qm] at c3;obtain ⟨hpx, hfr⟩ := u7 h1 hmem c1;have wf : i32.wrap x.fr = x.fr := cZ (by omega) (by omega);refine ⟨hix, x.fr, by rw [hg]; rfl, ?_⟩;rw [wf];refine (vU hp n f x.fr hl (by omega)).mono ?_;rintro _ rfl;rw [hpx, c2, c3.1];refine ⟨_, rfl, rfl, _, rfl, _, rfl, _, rfl, _, rfl, _, rfl, _, rfl, bV (by simp [c3.2]) ?_⟩;refine (zyd hp n f x.fr hl (by omega)).mono ?_;rintro _ rfl;refine ⟨_, rfl, ?_⟩;cases ho : eD rows x.fr with
  | true => exact bS (by simp) ⟨rfl, skip (by simp [eE, ho]), hmu⟩
  | false =>
    have hcb : eE rows a b x = true := by simp [eE, c1, c2, c3.1, c3.2, ho]
    cases o with
    | none =>
      simp only [qbx] at h9;refine bV (by rw [h9]; rfl) ⟨rfl, ⟨⟨by omega, by omega⟩, ?_, ?_⟩, hmu⟩
      ·rw [hst]; simp [Rows.cmpS, hcb, qD]
      ·rw [hst]; simp [Rows.cmpS, hcb]
    | some r =>
      simp only [qbx] at h9;simp only [qD, Option.getD] at h8;refine aG (fun c4 => ?_) (fun c4 => ?_)
      ·rw [h9, h8] at c4;simp at c4;refine ⟨rfl, ⟨⟨by omega, by omega⟩, ?_, ?_⟩, hmu⟩
       ·rw [hst]; simp [Rows.cmpS, hcb, qD, c4]
       ·rw [hst]; simp [Rows.cmpS, hcb, c4]
      ·rw [h9, h8] at c4;simp at c4;refine ⟨rfl, ⟨⟨by omega, by omega⟩, ?_, ?_⟩, hmu⟩
       ·have hlt : ¬ x.fr < r := by omega
        rw [hst, h8]; simp [Rows.cmpS, hcb, qD, hlt]
       ·rw [hst, h9]; simp [Rows.cmpS, hcb]; split <;> rfl
 ·simp only [aB, jJ] at hc;rw [qh (by omega)] at h8 h9;unfold mK;rw [h8, h9];cases rows.foldl (Rows.cmpS rows a b) none <;> rfl
theorem zyo (hp : dJ rows) (h1 : eQ rows) (n f : Bool) {a b : Int} (hl : rows.length < 1000000) (ha : -2147483648 <= a /\ a <= 2147483647) (hb : -2147483648 <= b /\ b <= 2147483647) :
 PCall qa 76 [.sl n f (bO rows), .int .i32 a, .int .i32 b] fun v => v = kT (fK rows a b) := by
 refine zyg _ _ _ _ _ ?_; unfold zma;refine (zym ha hb).mono ?_;rintro _ rfl;unfold fK;cases eR a b with
 | some r => exact ⟨_, rfl, rfl, _, rfl, _, rfl, _, rfl, _, rfl, bV rfl rfl⟩
 | none =>
   refine ⟨_, rfl, rfl, _, rfl, _, rfl, _, rfl, _, rfl, bS (by simp) ?_⟩;refine (zyn hp h1 n f hl ha hb).mono ?_;rintro _ rfl;cases mK rows a b with
   | none => exact ⟨_, rfl, rfl, _, rfl, _, rfl, _, rfl, _, rfl, rfl⟩
   | some r => exact ⟨_, rfl, rfl, _, rfl, _, rfl, _, rfl, _, rfl, rfl⟩
theorem zyp {st : CSt} (h0 : st.s = none -> st.P = []) (h1 : ∀ a, st.s = some a -> aD rows 1 a = 0) (h2 : ∀ m ∈ st.M, aD rows 1 m ≠ 0) :
 (c8 st = -1 /\ ∀ k (h : k < st.out.length), aD rows 1 st.out[k] ≠ 0) ∨ (∃ k : Nat, c8 st = (k : Int) /\ ∃ h : k < st.out.length, aD rows 1 st.out[k] = 0 /\ ∀ j (hj : j < st.out.length), k < j -> aD rows 1 st.out[j] ≠ 0) := by
 cases hs : st.s with
 | none =>
   have hP := h0 hs;have ho : st.out = st.M := by simp [CSt.out, hs, hP]
   refine .inl ⟨by simp [c8, hs], fun k hk => h2 _ ?_⟩;have := qi hk;rw [<- ho]; exact this
 | some a =>
   have ho : st.out = st.P ++ a :: st.M := by simp [CSt.out, hs]
   refine .inr ⟨st.P.length, by simp [c8, hs], by rw [ho]; simp, ?_, fun j hj hlt => h2 _ ?_⟩
   ·simp only [ho, qar (qj _), Nat.sub_self, List.getElem_cons_zero]; exact h1 a hs
   ·simp only [ho];rw [qar (by omega), List.getElem_cons];rw [dif_neg (by omega)];exact qi _
theorem zyq (n f n2 f2 : Bool) (hl : rows.length < 1000000) (L : List Int) (hr : R32 L) (hL : L.length < 1000000000000) :
 PCall qa 74 [.sl n f (bO rows), .sl n2 f2 (aA L)] fun v => ∃ x : Int, v = .int .i64 x /\ ((x = -1 /\ ∀ k (h : k < L.length), aD rows 1 L[k] ≠ 0) ∨ (∃ k : Nat, x = (k : Int) /\ ∃ h : k < L.length, aD rows 1 L[k] = 0 /\ ∀ j (hj : j < L.length), k < j -> aD rows 1 L[j] ≠ 0)) := by
 refine zyh _ _ _ _ _ _ (fun x => (-1 <= x /\ x < L.length) /\ ∀ j (hj : j < L.length), x < j -> aD rows 1 L[j] ≠ 0) (fun x => (x + 1).toNat) ?_;unfold zmb;have hw : i64.wrap ((aA L).length - 1) = L.length - 1 := by rw [bN]; exact aC (by omega) (by omega)
 rw [hw];refine ⟨⟨rfl, ⟨by omega, by omega⟩, fun j hj h => by omega⟩, ?_⟩;rintro x ⟨⟨x0, x1⟩, hx⟩;refine aG (fun hc => ?_) (fun hc => ?_)
 ·simp only [aB, ge_iff_le] at hc;have hi : x.toNat < L.length := by omega
  obtain ⟨g1, g2⟩ := iE hc hi;have hw1 : i64.wrap (x - 1) = x - 1 := aC (by omega) (by omega);refine ⟨g1, L[x.toNat], by rw [g2]; rfl, ?_⟩;refine (vT n f _ hl (hr _ (qi hi))).mono ?_;rintro _ rfl;refine ⟨_, rfl, ?_⟩;rw [hw1];refine aG (fun h0 => ?_) (fun h0 => ?_)
  ·simp only [beq_iff_eq] at h0;exact ⟨x, rfl, .inr ⟨x.toNat, by omega, hi, h0, fun j hj hlt => hx j hj (by omega)⟩⟩
  ·simp only [beq_iff_eq] at h0;refine ⟨rfl, ⟨⟨by omega, by omega⟩, fun j hj hlt => ?_⟩, by dsimp only; omega⟩;by_cases he : j = x.toNat
   ·subst he; exact h0
   ·exact hx j hj (by omega)
 ·simp only [aB, ge_iff_le] at hc;exact ⟨-1, rfl, .inl ⟨rfl, fun k hk => hx k hk (by omega)⟩⟩
theorem zyr (n f n2 f2 : Bool) (hl : rows.length < 1000000) (L : List Int) (hr : R32 L) (hL : L.length < 1000000000000) (h0 : 0 < L.length) (k : Int) {r : Int} (hx : -2147483648 <= r /\ r <= 2147483647) :
 PCall qa 75 [.sl n f (bO rows), .sl n2 f2 (aA L), .int .i64 k, .int .i32 r] fun v => v = .bool (decide (k = L.length - 1) || decide (dK (aD rows 1) L < aD rows 1 r)) := by
 refine zyi _ _ _ _ _ _ _ _ ?_; unfold zmc;have hw : i64.wrap ((aA L).length - 1) = L.length - 1 := by rw [bN]; exact aC (by omega) (by omega)
 rw [hw];refine aG (fun hc => ?_) (fun hc => ?_)
 ·simp only [beq_iff_eq] at hc; simp [hc]
 ·simp only [beq_iff_eq] at hc;have hi : ((L.length : Int) - 1).toNat < L.length := by omega
  obtain ⟨g1, g2⟩ := iE (l := L) (i := (L.length : Int) - 1) (by omega) hi;refine ⟨g1, L[((L.length : Int) - 1).toNat], by rw [g2]; rfl, ?_⟩;refine (vT n f _ hl (hr _ (qi hi))).mono ?_;rintro _ rfl;refine ⟨_, rfl, ?_⟩;refine (vT n f _ hl hx).mono ?_;rintro _ rfl;refine ⟨_, rfl, ?_⟩
  have : dK (aD rows 1) L = aD rows 1 L[((L.length : Int) - 1).toNat] := by
   unfold dK;rw [List.getLast?_eq_getElem?, qz (by omega)];simp only;congr 2;omega
  rw [this]; simp [hc]
theorem zys (hp : dJ rows) (h1 : eQ rows) (hs0 : ∀ (d : List Int) a, (bQ rows d).s = some a -> aD rows 1 a = 0) (n f n2 f2 : Bool) (hl : rows.length < 1000000) (L : List Int) (hr : R32 L) (hL : L.length < 1000000000000) :
 PCall qa 51 [.sl n f (bO rows), .sl n2 f2 (aA L)] fun x => ∃ n f, x = .sl n f (aA (iA rows L)) := by
 refine zyj _ _ _ _ _ _ (fun i _ s => (0 <= i /\ i <= L.length) /\ s = aA (bQ rows (L.take i.toNat)).out) (fun i _ _ => L.length - i.toNat) ?_;unfold zmd;refine ⟨⟨rfl, ⟨qt _, by omega⟩, rfl⟩, ?_⟩;rintro i n0 _ ⟨⟨i0, i1⟩, rfl⟩;refine aG (fun hc => ?_) (fun hc => ?_)
 ·simp only [aB, bN] at hc;have hi : i.toNat < L.length := by omega
  obtain ⟨g1, g2⟩ := iE i0 hi;have hx := hr _ (qi hi);have hw : i64.wrap (i + 1) = i + 1 := aC (by omega) (by omega);rw [hw];have hlen := zR rows (L.take i.toNat);have hrng := zS h1 (L.take i.toNat);have hnz := zlc (rows := rows) (d := L.take i.toNat);have hnP := sI (rows := rows) (d := L.take i.toNat);have hsk := hs0 (L.take i.toNat);rw [qk] at hlen;unfold iA at hlen hrng
  have next : ∀ st2, cN rows (bQ rows (L.take i.toNat)) L[i.toNat] = st2 -> (0 <= i + 1 /\ i + 1 <= L.length) /\ aA st2.out = aA (bQ rows (L.take (i + 1).toNat)).out := fun st2 he => by
   rw [show (i + 1).toNat = i.toNat + 1 by omega, dD hi, iB, he]; exact ⟨⟨by omega, by omega⟩, rfl⟩
  generalize bQ rows (L.take i.toNat) = st at *;have hmu : L.length - (i + 1).toNat < L.length - i.toNat := by omega
  have hr2 : R32 st.out := fun y hy => by
   rcases hrng y hy with h | h
   ·exact hr y (qaa h)
   ·omega
  have hsz : aR [[PV.int .i32 L[i.toNat]]] 1 /\ ((aA st.out).length + 1) * 4 <= 140737488355328 := ⟨dT [_], by rw [bN]; omega⟩
  have app : cN rows st L[i.toNat] = cQ (aD rows 1) st L[i.toNat] -> (0 <= i + 1 /\ i + 1 <= L.length) /\ aA st.out ++ [[PV.int .i32 L[i.toNat]]] = aA (bQ rows (L.take (i + 1).toNat)).out := fun he => by
   obtain ⟨k1, k2⟩ := next _ he
   rw [mL, jV] at k2;exact ⟨k1, k2⟩
  refine (zyq n f n0 false hl st.out hr2 (by omega)).mono ?_;rintro _ ⟨x, rfl, hst⟩
  have hxs : x = c8 st := by
   rcases zyp hnP hsk hnz with ⟨e, h⟩ | ⟨k, e, hk, h, h'⟩
   ·rcases hst with ⟨e2, _⟩ | ⟨k2, e2, hk2, q, _⟩
    ·omega
    ·exact absurd q (h k2 hk2)
   ·rcases hst with ⟨e2, q⟩ | ⟨k2, e2, hk2, q, q'⟩
    ·exact absurd h (q k hk)
    ·rcases Nat.lt_trichotomy k k2 with hlt | rfl | hlt
     ·exact absurd q (h' k2 hk2 hlt)
     ·omega
     ·exact absurd h (q' k hk hlt)
  clear hst;subst hxs;refine ⟨_, rfl, rfl, aG (fun hf => ?_) (fun hf => ?_)⟩
  ·simp only [aB, ge_iff_le] at hf;cases hs : st.s with
   | none => simp [c8, hs] at hf
   | some a =>
     have hsi : c8 st = st.P.length := by simp [c8, hs]
     have hol : st.out.length = st.P.length + 1 + st.M.length := by simp [CSt.out, hs]; omega
     refine ⟨g1, L[i.toNat], by rw [g2]; rfl, ?_⟩;refine (zyr n f n0 false hl st.out hr2 (by omega) (by omega) (c8 st) hx).mono ?_;rintro _ rfl
     have hfree : (decide (c8 st = st.out.length - 1) || decide (dK (aD rows 1) st.out < aD rows 1 L[i.toNat])) = true ↔ (st.M = [] ∨ dK (aD rows 1) st.M < aD rows 1 L[i.toNat]) := by
      simp only [qp, aB];by_cases hM : st.M = []
      ·refine ⟨fun _ => .inl hM, fun _ => .inl ?_⟩;rw [hsi, hol, hM]; simp
      ·obtain ⟨D, m, hDm⟩ := (List.eq_nil_or_concat _).resolve_left hM
       have e : dK (aD rows 1) st.out = dK (aD rows 1) st.M := by
        have e2 : st.out = (st.P ++ a :: D) ++ [m] := by simp [CSt.out, hDm, hs]
        rw [e2, hDm, List.concat_eq_append, sH, sH]
       rw [e];refine or_congr ⟨fun h => ?_, fun h => absurd h hM⟩ Iff.rfl;rw [hsi, hol] at h;exact qab (by omega)
     refine ⟨_, rfl, rfl, aG (fun hfr => ?_) (fun hfr => ?_)⟩
     ·have hfr := hfree.1 hfr;have hat : st.out[st.P.length]'(by omega) = a := by simp [CSt.out, hs]
      obtain ⟨k1, k2⟩ := iE (l := st.out) (i := c8 st) (by omega) (by omega);have hta : (c8 st).toNat = st.P.length := by omega
      have k3 : (aA st.out).getD (c8 st).toNat [] = [PV.int .i32 a] := by
       rw [k2]; simp only [hta, hat]
      have ha : -2147483648 <= a /\ a <= 2147483647 := hr2 a (by simp [CSt.out, hs]);refine ⟨k1, a, by rw [k3]; rfl, g1, L[i.toNat], by rw [g2]; rfl, ?_⟩;refine (zyo hp h1 n f hl ha hx).mono ?_;rintro _ rfl;cases hpc : fK rows a L[i.toNat] with
      | some c =>
        refine ⟨_, rfl, rfl, _, rfl, _, rfl, _, rfl, _, rfl, bV rfl ⟨k1, ⟨rfl, by rw [k3]; exact qj _⟩, rfl, ?_, by dsimp only; omega⟩⟩;rw [k3, hta]
        have he : cN rows st L[i.toNat] = ⟨st.P, some c, st.M⟩ := by
         unfold cN; rw [hs]; simp only; rw [if_pos hfr, hpc]
        have e2 : (aA st.out).set st.P.length [PV.int .i32 c] = aA (CSt.out ⟨st.P, some c, st.M⟩) := by
         simp [CSt.out, hs, aA]
        obtain ⟨q1, q2⟩ := next _ he
        exact ⟨q1, e2.trans q2⟩
      | none =>
        have he : cN rows st L[i.toNat] = cQ (aD rows 1) st L[i.toNat] := by
         unfold cN; rw [hs]; simp only; rw [if_pos hfr, hpc]
        exact ⟨_, rfl, rfl, _, rfl, _, rfl, _, rfl, _, rfl, bS (by simp) ⟨g1, L[i.toNat], by rw [g2]; rfl, hsz, rfl, app he, by dsimp only; omega⟩⟩
     ·have hfr := fun h => hfr (hfree.2 h)
      have he : cN rows st L[i.toNat] = cQ (aD rows 1) st L[i.toNat] := by
       unfold cN; rw [hs]; simp only; rw [if_neg hfr]
      exact ⟨g1, L[i.toNat], by rw [g2]; rfl, hsz, rfl, app he, by dsimp only; omega⟩
  ·simp only [aB, ge_iff_le] at hf
   have hs : st.s = none := by
    cases hs : st.s with
    | none => rfl
    | some a => exact absurd (by simp [c8, hs]) hf
   have he : cN rows st L[i.toNat] = cQ (aD rows 1) st L[i.toNat] := by
    unfold cN; rw [hs]
   exact ⟨g1, L[i.toNat], by rw [g2]; rfl, hsz, rfl, app he, by dsimp only; omega⟩
 ·simp only [aB, bN] at hc;rw [qh (by omega)];exact ⟨_, _, rfl⟩
theorem zyt (hp : dJ rows) (h1 : eQ rows) (hk : iN rows) (hs0 : ∀ (d : List Int) a, (bQ rows d).s = some a -> aD rows 1 a = 0) (n f n2 f2 : Bool) (hl : rows.length < 1000000) (L : List Int) (hr : R32 L) (hL : L.length < 1000000) :
 PCall qa 24 [.sl n f (bO rows), .sl n2 f2 (aA L)] fun x => ∃ n f, x = .sl n f (aA (dL rows L)) := by
 refine zyk _ _ _ _ _ _ ?_; unfold zme;refine (zwd hp hk n f n2 f2 hl L hr hL).mono ?_;rintro _ ⟨n1, f1, rfl⟩;refine ⟨_, _, _, rfl, ?_⟩;refine (zys hp h1 hs0 n f n1 f1 hl _ (zN hk hp hr) (zk7 hk hL)).mono ?_;rintro _ ⟨n3, f3, rfl⟩;exact ⟨_, _, _, rfl, _, _, rfl⟩
end
end Go.Eng
namespace Go.Eng
open Go Go.Proofs Go.Eng.Rows Go.Eng.Srt
theorem zmf (n f n2 f2 : Bool) (L : List Int) (hr : R32 L) (hL : L.length < 1000000) : PCall qa 24 [.sl n f (bO tab), .sl n2 f2 (aA L)] fun x => ∃ n f, x = .sl n f (aA (dL tab L)) := zyt wE sU wF zyb n f n2 f2 zk3 L hr hL
theorem zyu (l m : List Int) (hl : l.length <= 40) (hm : m.length <= 40) : ((bF l).length + 1) * ((bF m).length + 1) <= 1048576 /\ (e9 (bF l) (bF m)).length < 100000 /\ (∀ s ∈ e9 (bF l) (bF m), (s.kind = 0 ∨ s.kind = 1 ∨ s.kind = 2) /\ s.text.length < 1000000000 /\ 0 <= s.n /\ s.n <= (1000000 : Nat)) /\
 eZ (e9 (bF l) (bF m)) = dL tab l /\ dH (e9 (bF l) (bF m)) = dL tab m /\ (bF l).length <= 320 /\ (bF m).length <= 320 := by
 have n1 := l7 l;have n2 := l7 m
 have cnt : ∀ x : List Int, (bF x).length <= (dL tab x).length := fun x => by
  have : ∀ k i, (fL tab (dL tab x) k i).length <= (dL tab x).length - i := by
   intro k
   induction k with
   | zero => intro i; exact qy _
   | succ k ih =>
     intro i;rw [fL];split
     ·rename_i hi;obtain ⟨x1, x2, _⟩ := nW (rows := tab) hi;have := ih (cW tab (dL tab x) i);rw [qg]; omega
     ·exact qy _
  exact qbe (this _ 0) (qj _)
 have c1 := cnt l;have c2 := cnt m;obtain ⟨s1, s2, s3, s4⟩ := zhh (bF l) (bF m);have fl : ∀ x : List Int, (bF x).flatten = dL tab x := fun x => zrb tab _;rw [fl] at s2 s3;have hm2 : ((bF l).length + 1) * ((bF m).length + 1) <= 321 * 321 := qbt (by omega) (by omega)
 -- the bounds of what is laid
 have bd : ∀ (M : Nat) (ops : List (Int × List Int)) (S : List DStep) (a b : Nat), BdS S a b -> (∀ o ∈ ops, o.2.length <= M) -> BdS (ops.foldl dA S) (a + ops.length) (b + ops.length * M) := by
  intro M ops
  induction ops with
  | nil => intro S a b h _; simpa using h
  | cons o ops ih =>
    intro S a b h ho;have := ih (dA S o) (a + 1) (b + M) (zl0 (k := o.1) (c := o.2) h (ho o qq)) fun x hx => ho x (ql _ hx);rw [List.foldl_cons, qg];rw [show a + 1 + ops.length = a + (ops.length + 1) by omega, show b + M + ops.length * M = b + (ops.length + 1) * M by rw [qau]; omega] at this;exact this
 have mem : ∀ (n : Nat) (A B : List (List Int)), A.length + B.length <= n -> (bI A B).length <= A.length + B.length /\ ∀ o ∈ bI A B, o.2 ∈ A ∨ o.2 ∈ B := by
  intro n
  induction n with
  | zero =>
    intro A B h;have : A = [] := qab (by omega);have : B = [] := qab (by omega);subst A; subst B;rw [sL]; exact ⟨qj _, fun o ho => by cases ho⟩
  | succ n ih =>
    intro A B h
    match A, B with
    | [], [] => rw [sL]; exact ⟨qj _, fun o ho => by cases ho⟩
    | a :: xs, [] =>
      obtain ⟨i1, i2⟩ := ih xs [] (by simp only [qg, qw] at h ⊢; omega);rw [vB];refine ⟨by simp only [qg] at i1 ⊢; omega, fun o ho => ?_⟩;rcases List.mem_cons.1 ho with rfl | ho
      ·exact .inl qq
      ·exact (i2 o ho).imp (ql _) id
    | [], b :: bs =>
      obtain ⟨i1, i2⟩ := ih [] bs (by simp only [qg, qw] at h ⊢; omega);rw [vC];refine ⟨by simp only [qg] at i1 ⊢; omega, fun o ho => ?_⟩;rcases List.mem_cons.1 ho with rfl | ho
      ·exact .inr qq
      ·exact (i2 o ho).imp id (ql _)
    | a :: xs, b :: bs =>
      rw [sM];simp only [qg] at h;split
      ·obtain ⟨i1, i2⟩ := ih xs bs (by omega);refine ⟨by simp only [qg] at i1 ⊢; omega, fun o ho => ?_⟩;rcases List.mem_cons.1 ho with rfl | ho
       ·exact .inl qq
       ·exact (i2 o ho).imp (ql _) (ql _)
      ·split
       ·obtain ⟨i1, i2⟩ := ih xs (b :: bs) (by simp only [qg]; omega);refine ⟨by simp only [qg] at i1 ⊢; omega, fun o ho => ?_⟩;rcases List.mem_cons.1 ho with rfl | ho
        ·exact .inl qq
        ·exact (i2 o ho).imp (ql _) id
       ·obtain ⟨i1, i2⟩ := ih (a :: xs) bs (by simp only [qg]; omega);refine ⟨by simp only [qg] at i1 ⊢; omega, fun o ho => ?_⟩;rcases List.mem_cons.1 ho with rfl | ho
        ·exact .inr qq
        ·exact (i2 o ho).imp id (ql _)
 obtain ⟨m1, m2⟩ := mem _ (bF l) (bF m) (qj _);have o1 := wJ l (by omega);have o2 := wJ m (by omega);have hb := bd 100000 (bI (bF l) (bF m)) [] 0 0 zlz fun o ho => (m2 o ho).elim (fun h => (o1 _ h).2) fun h => (o2 _ h).2;rw [qbf, qbf] at hb;obtain ⟨b1, b2⟩ := hb;have hlen : (e9 (bF l) (bF m)).length <= (bI (bF l) (bF m)).length := b1;have hmul : (bI (bF l) (bF m)).length * 100000 <= 640 * 100000 := qu _ (by omega);refine ⟨by omega, by omega, fun s hs => ?_, s2, s3, by omega, by omega⟩;have := b2 s hs;exact ⟨(s1 s hs).1, by omega, this.1, by omega⟩
theorem lawDeltaDoes {pvs : List PV} (h : rW qa 8 Tryz.f6.params.toList pvs) : PCall qa 6 pvs fun v => v = .bool true := by
 obtain ⟨v0, r0, rfl, h0, v1, r1, rfl, h1, rfl⟩ : rW qa 8 [22, 22] pvs := h;obtain ⟨nl, l, rfl, rl⟩ := zld h0;obtain ⟨nm, m, rfl, rm⟩ := zld h1;refine zvu _ _ _ _ _ _ ?_;unfold zkt;refine (zk2 _ _ l 40 (by omega)).mono ?_;rintro _ ⟨n1, f1, rfl⟩;refine ⟨n1, f1, _, rfl, (zk2 _ _ m 40 (by omega)).mono ?_⟩;rintro _ ⟨n2, f2, rfl⟩;refine ⟨n2, f2, _, rfl, p42.mono ?_⟩;rintro _ ⟨n3, f3, rfl⟩;refine ⟨n3, f3, _, rfl, (zk4 n3 f3).mono fun T hT => ?_⟩;have rl := rl.take 40;have rm := rm.take 40;have hl := zlg l 40;have hm := zlg m 40;generalize l.take 40 = l at rl hl ⊢;generalize m.take 40 = m at rm hm ⊢;obtain ⟨g1, g2, g3, g4, g5, _⟩ := zyu l m hl hm;have l1 := l7 l;have l2 := l7 m;obtain ⟨q1, q2, q3, _⟩ := zrg (l := e9 (bF l) (bF m)) (fun s hs => (zhh (bF l) (bF m)).1 s hs);refine (zl2 hT n1 f1 n2 f2 l m rl rm (by omega) (by omega)).mono ?_;rintro _ (⟨_, nl, _, rfl⟩ | ⟨h, _⟩)
 rotate_left
 ·exact absurd g1 h
 refine ⟨_, rfl, rfl, _, rfl, nl, false, _, rfl, _, rfl, 0, rfl, ?_⟩;refine (pDo hT n1 f1 nl false l rl (by omega) _ g2 (fun s hs => (g3 s hs).1) g4 (by rw [g5]; omega)).mono ?_;rintro _ ⟨n4, rfl⟩;refine ⟨_, rfl, rfl, _, rfl, n4, false, _, rfl, _, rfl, true, rfl, ?_⟩;refine (zxz nl false _ g2 (fun s hs => ⟨(g3 s hs).1, (g3 s hs).2.1⟩)).mono ?_;rintro _ ⟨n5, rfl⟩;refine ⟨n5, false, _, rfl, ?_⟩;refine (pDo hT n2 f2 n5 false m rm (by omega) _ (by rw [qe]; exact g2) (fun s hs => (q1 s hs).1) (by rw [q2, g5]) (by rw [q3, g4]; omega)).mono ?_;rintro _ ⟨n6, rfl⟩;refine ⟨_, rfl, rfl, _, rfl, n6, false, _, rfl, _, rfl, true, rfl, bV rfl ?_⟩;refine (zmf n3 f3 n2 f2 m rm (by omega)).mono ?_;rintro _ ⟨n7, f7, rfl⟩;refine ⟨n7, f7, _, rfl, (zle _ _ _ _ _ _ (by rw [g5]; omega)).mono ?_⟩;rintro _ rfl;refine ⟨_, rfl, bV (by simp [g5]) ?_⟩;refine (zmf n3 f3 n1 f1 l rl (by omega)).mono ?_;rintro _ ⟨n8, f8, rfl⟩;refine ⟨n8, f8, _, rfl, (zle _ _ _ _ _ _ (by rw [q3, g4]; omega)).mono ?_⟩;rintro _ rfl;refine ⟨_, rfl, bV (by simp [q3, g4]) (awake50.mono ?_)⟩;rintro _ rfl;exact ⟨_, rfl, rfl⟩
end Go.Eng
