/- States run over the code: what each function gives, and what follows. -/
import Derived.Test.YtpadbcaocbghoaaGreatDsTb
open Go.IntKind (i64 i32)
open Go.Proofs.Tryz renaming prog → qa
open List renaming length_append → qb, drop → qc, length_map → qf, take_of_length_le → qi, length_take → qk, flatten_cons → ql, length_singleton → qm, append_nil → qq, flatten_nil → qr, length_nil → qt, map_append → qu, getElem_mem → qv, mem_of_mem_take → qx, length_cons → qz, getD → qaa, append_assoc → qab, length_drop → qad, drop_length → qaf, take → qak, mem_cons_of_mem → qal, replicate → qan, mem_cons_self → qap, cons_append → qaq, getElem?_eq_getElem → qar, find?_cons → qat, flatten_append → qay, mem_singleton → qaz, contains_cons → qbc, getElem?_map → qbf, flatMap_cons → qbg, contains_nil → qbh, range' → qbi, append_inj' → qbk
open Int renaming toNat_natCast → qd, le_refl → qp, tmod_eq_emod_of_nonneg → qag, eq_ofNat_of_zero_le → qas, tdiv → qaw, natCast_mul → qbm
open Bool renaming and_eq_true → qe, or_eq_true → qj, or_eq_false_iff → qae, true_and → qah, not_eq_true' → qaj, false_and → qao, and_false → qau, and_eq_false_iff → qav, or_assoc → qax, not_not → qbe, or_false → qbo, not_true → qbp, false_or → qbq
open Nat renaming le_refl → qg, le_of_lt → qn, mul_le_mul_right → qy, le_of_ble_eq_true → qac, zero_le → qai, lt_of_lt_of_le → qba, le_trans → qbb, lt_of_le_of_lt → qbd, add_mul → qbj, div_eq_of_lt → qbl, mul_add_div → qbn
open Decidable renaming not_not → qh
open Array renaming getD_eq_getD_getElem? → qo, getElem?_append_left → qw, replicate → qam
set_option linter.unusedVariables false
set_option linter.unusedSimpArgs false
set_option maxRecDepth 100000
set_option linter.constructorNameAsVariable false
namespace Go.Eng
open Go Go.Proofs Go.Eng.Rows Go.Eng.Srt
section
variable {key : Int -> Int} {T : PV}
def oT (key : Int -> Int) (k : Nat) (Bs : List (List Int)) : Prop := ∀ B ∈ Bs, B.length = k /\ Srtd key B
theorem zdj {k : Nat} : ∀ {Bs : List (List Int)}, oT key k Bs -> Bs.flatten.length = k * Bs.length
 | [], _ => by simp
 | B :: Bs, h => by
   rw [ql, qb, (h B qap).1, zdj (Bs := Bs) fun C hC => h C (qal _ hC), qz, Nat.mul_add]; omega
theorem xF (Bs : List (List Int)) : Bs = [] ∨ (∃ X, Bs = [X]) ∨ ∃ X Y Bs', Bs = X :: Y :: Bs' := by
 match Bs with
 | [] => exact .inl rfl
 | [X] => exact .inr (.inl ⟨X, rfl⟩)
 | X :: Y :: Bs' => exact .inr (.inr ⟨X, Y, Bs', rfl⟩)
theorem zlv {k : Nat} {Bs : List (List Int)} {B : List Int} (h : oT key k Bs) (hl : B.length = k) (hs : Srtd key B) : oT key k (Bs ++ [B]) := fun C hC => by
 rcases List.mem_append.1 hC with hC | hC
 ·exact h C hC
 ·simp only [qaz] at hC; subst hC; exact ⟨hl, hs⟩
theorem zdk {P S R S' : List Int} (h : R32 (P ++ (S ++ R))) (k : Stab key S S') : R32 (P ++ (S' ++ R)) := h.of fun x hx => by
 simp only [List.mem_append] at hx ⊢;rcases hx with hx | hx | hx
 ·exact .inl hx
 ·exact .inr (.inl (k.mem.2 hx))
 ·exact .inr (.inr hx)
theorem zwy (hc : lF T key) (lo hi : Nat) (nl : Bool) (P S R : List Int) (hP : P.length = lo) (hS : hi = lo + S.length) (hr : R32 (P ++ (S ++ R))) (hlen : hi < 1000000000000) :
 ACall qa 133 [.sub 0 lo hi, .pv (.int .i64 ((hi - lo : Nat) : Int)), .fn 111 [.box 1 0]] (lH nl T (aA (P ++ (S ++ R)))) (lG key nl T P S R) := by
 have hl1 : ∀ {u v : List Int}, u.length = v.length -> (aA u).length = (aA v).length := fun h => by simp [h]
 obtain ⟨n, hn⟩ : ∃ n : Int, n = ((hi - lo : Nat) : Int) := ⟨_, rfl⟩;rw [<- hn];have hnS : n = S.length := by omega
 refine ztv _ _ _ _ _ _
  (fun a b s => b = a + 20 /\ 0 <= a /\ ∃ Bs C, s = aA (P ++ (Bs.flatten ++ C ++ R)) /\ oT key 20 Bs /\ (Bs.flatten.length : Int) = a /\ Stab key S (Bs.flatten ++ C)) (fun a _ _ => (n + 1 - a).toNat)
  (fun k s => 0 < k /\ ∃ Bs C, s = aA (P ++ (Bs.flatten ++ C ++ R)) /\ oT key k.toNat Bs /\ Srtd key C /\ (C.length : Int) < k /\ Stab key S (Bs.flatten ++ C)) (fun k _ => (n - k).toNat)
  (fun k _ _ _ k' a b s => k = k' /\ b = a + 2 * k /\ 0 <= a /\ ∃ B2 Bs C, s = aA (P ++ (B2.flatten ++ (Bs.flatten ++ C) ++ R)) /\ oT key (2 * k).toNat B2 /\ oT key k.toNat Bs /\ Srtd key C /\ (C.length : Int) < k /\ (B2.flatten.length : Int) = a /\ Stab key S (B2.flatten ++ (Bs.flatten ++ C))) (fun k a _ _ => (n + 1 - a).toNat) ?_
 unfold zi6;refine ⟨⟨rfl, rfl, qp _, [], S, by simp, fun B hB => (by cases hB), rfl, by simpa using Stab.refl S⟩, ?_⟩
 rintro a b _ ⟨rfl, a0, Bs, C, rfl, hBs, hBl, hst⟩;have hsl := hst.len;rw [qb] at hsl;refine aC (fun hc1 => ?_) (fun hc1 => ?_)
 ·simp only [aB] at hc1;have wa : i64.wrap (a + 20 + 20) = a + 20 + 20 := wz;rw [wa];have hC : C.take 20 ++ C.drop 20 = C := List.take_append_drop _ _;have hCl : (C.take 20).length = 20 := by rw [qk]; omega
  have e1 : P ++ (Bs.flatten ++ C ++ R) = (P ++ Bs.flatten) ++ C.take 20 ++ (C.drop 20 ++ R) := by
   rw [show Bs.flatten ++ C ++ R = Bs.flatten ++ ((C.take 20 ++ C.drop 20) ++ R) by rw [hC]; simp];simp only [qab]
  have := zls hc lo hi nl (P ++ Bs.flatten) (C.take 20) (C.drop 20 ++ R) a (a + 20) a0 (by rw [qb]; omega) (by omega) (by omega) (by rw [<- e1]; exact zdk hr hst) hlen;rw [e1];refine this.mono ?_;rintro r h' ⟨S1, rfl, rfl, s1, k1⟩;have k1l := k1.len;refine ⟨_, ⟨rfl, rfl⟩, ⟨trivial, ⟨rfl, rfl, hl1 (by simp only [qb]; omega)⟩, trivial⟩, rfl, ⟨rfl, by omega, Bs ++ [S1], C.drop 20, by simp, zlv hBs (by omega) s1, by simp only [qay, ql, qr, qq, qb]; omega, ?_⟩, by dsimp only; omega⟩;refine hst.trans ?_;have := (Stab.refl (key := key) Bs.flatten).app (k1.app (Stab.refl (C.drop 20)));rw [hC] at this;simpa using this
 ·simp only [aB] at hc1;have e1 : P ++ (Bs.flatten ++ C ++ R) = (P ++ Bs.flatten) ++ C ++ R := by simp
  have := zls hc lo hi nl (P ++ Bs.flatten) C R a n a0 (by rw [qb]; omega) (by omega) (by omega) (by rw [<- e1]; exact zdk hr hst) hlen;rw [e1];refine this.mono ?_;rintro r h' ⟨C1, rfl, rfl, s1, k1⟩;have k1l := k1.len;refine ⟨_, ⟨rfl, rfl⟩, ⟨trivial, ⟨rfl, rfl, hl1 (by simp only [qb]; omega)⟩, trivial⟩, ⟨rfl, by omega, Bs, C1, by simp, hBs, s1, by omega, hst.trans ((Stab.refl _).app k1)⟩, ?_⟩;clear hBs hBl hst hsl hc1 e1 this s1 k1 k1l;rintro k _ ⟨k0, Bs, C, rfl, hBs, hCs, hCk, hst⟩;have hsl := hst.len;rw [qb] at hsl;have hbl := zdj hBs;refine aC (fun hc2 => ?_) (fun hc2 => ?_)
  ·simp only [aB] at hc2;have w2 : i64.wrap (2 * k) = 2 * k := wz;have w3 : i64.wrap (k * 2) = 2 * k := by rw [wz]; omega
   rw [w2];refine ⟨⟨rfl, rfl, by omega, qp _, [], Bs, C, by simp, fun B hB => (by cases hB), hBs, hCs, hCk, rfl, by simpa using hst⟩, ?_⟩
   clear hBs hCs hCk hst hsl hbl;rintro _ a b _ ⟨rfl, rfl, a0, B2, Bs, C, rfl, hB2, hBs, hCs, hCk, hBl, hst⟩;have hsl := hst.len;rw [qb, qb] at hsl;have hbl := zdj hBs;have hRs : R32 (P ++ (B2.flatten ++ (Bs.flatten ++ C) ++ R)) := zdk hr hst;rw [w2, w3];have hkn : (k.toNat : Int) = k := by omega
   refine aC (fun hc3 => ?_) (fun hc3 => ?_)
   ·simp only [aB] at hc3;have w4 : i64.wrap (a + k) = a + k := wz;have w5 : i64.wrap (a + 2 * k + 2 * k) = a + 2 * k + 2 * k := wz;rw [w4, w5]
    obtain ⟨X, Y, Bs', rfl⟩ : ∃ X Y Bs', Bs = X :: Y :: Bs' := by
     rcases xF Bs with rfl | ⟨X, rfl⟩ | h
     ·simp only [qr, qt] at hsl; omega
     ·have h1 := (hBs X (by simp)).1;simp only [ql, qr, qq] at hsl; omega
     ·exact h
    obtain ⟨hXl, hXs⟩ := hBs X (by simp);obtain ⟨hYl, hYs⟩ := hBs Y (by simp);have nx : X ≠ [] := fun h => by subst h; simp at hXl; omega
    have ny : Y ≠ [] := fun h => by subst h; simp at hYl; omega
    have e1 : P ++ (B2.flatten ++ ((X :: Y :: Bs').flatten ++ C) ++ R) = (P ++ B2.flatten) ++ (X ++ (Y ++ (Bs'.flatten ++ C ++ R))) := by simp
    have := zlu hc lo hi nl hlen (2 * k + 1).toNat (P ++ B2.flatten) X Y (Bs'.flatten ++ C ++ R) a (a + k) (a + 2 * k) a0 (by rw [qb]; omega) (by omega) (by omega) nx ny (by omega) (by rw [<- e1]; exact hRs) hXs hYs (by omega);rw [e1];refine this.mono ?_;rintro r h' ⟨S1, rfl, rfl, s1, k1⟩;have k1l := k1.len;rw [qb] at k1l;refine ⟨_, ⟨rfl, rfl⟩, ⟨trivial, ⟨rfl, rfl, hl1 (by simp only [qb]; omega)⟩, trivial⟩, rfl, ⟨rfl, rfl, by omega, B2 ++ [S1], Bs', C, by simp, zlv hB2 (by omega) s1, fun B hB => hBs B (by simp [hB]), hCs, hCk, by simp only [qay, ql, qr, qq, qb]; omega, ?_⟩, by dsimp only; omega⟩;refine hst.trans ?_;have := (Stab.refl (key := key) B2.flatten).app (k1.app (Stab.refl (Bs'.flatten ++ C)));simpa using this
   ·simp only [aB] at hc3;have w4 : i64.wrap (a + k) = a + k := wz;rw [w4];refine aC (fun hc4 => ?_) (fun hc4 => ?_)
    ·simp only [aB] at hc4
     obtain ⟨X, rfl⟩ : ∃ X, Bs = [X] := by
      rcases xF Bs with rfl | h | ⟨X, Y, Bs', rfl⟩
      ·simp only [qr, qt] at hsl; omega
      ·exact h
      ·have h1 := (hBs X (by simp)).1;have h2 := (hBs Y (by simp)).1;simp only [ql, qb] at hsl;omega
     obtain ⟨hXl, hXs⟩ := hBs X (by simp);have nx : X ≠ [] := fun h => by subst h; simp at hXl; omega
     simp only [ql, qr, qq] at hsl hst;have ny : C ≠ [] := fun h => by subst h; simp only [qt] at hsl; omega
     have e1 : P ++ (B2.flatten ++ ([X].flatten ++ C) ++ R) = (P ++ B2.flatten) ++ (X ++ (C ++ R)) := by simp
     have := zlu hc lo hi nl hlen (2 * k + 1).toNat (P ++ B2.flatten) X C R a (a + k) n a0 (by rw [qb]; omega) (by omega) (by omega) nx ny (by omega) (by rw [<- e1]; exact hRs) hXs hCs (by omega);rw [e1];refine this.mono ?_;rintro r h' ⟨S1, rfl, rfl, s1, k1⟩;have k1l := k1.len;rw [qb] at k1l;exact ⟨_, ⟨rfl, rfl⟩, ⟨trivial, ⟨rfl, rfl, hl1 (by simp only [qb]; omega)⟩, trivial⟩, rfl, ⟨by omega, B2, S1, by simp, hB2, s1, by omega, hst.trans ((Stab.refl _).app k1)⟩, by dsimp only; omega⟩
    ·simp only [aB] at hc4
     have hCs2 : Srtd key (Bs.flatten ++ C) /\ ((Bs.flatten ++ C).length : Int) < 2 * k := by
      rcases xF Bs with rfl | ⟨X, rfl⟩ | ⟨X, Y, Bs', rfl⟩
      ·exact ⟨by simpa using hCs, by simp; omega⟩
      ·have h1 := hBs X (by simp);simp only [ql, qr, qq] at hsl ⊢;have hC0 : C = [] := List.length_eq_zero_iff.1 (by omega);subst hC0;exact ⟨by simpa using h1.2, by simp; omega⟩
      ·exfalso;have h1 := (hBs X (by simp)).1;have h2 := (hBs Y (by simp)).1;simp only [ql, qb] at hsl;omega
     exact ⟨rfl, ⟨by omega, B2, Bs.flatten ++ C, by simp, hB2, hCs2.1, hCs2.2, hst⟩, by dsimp only; omega⟩
  ·simp only [aB] at hc2
   have hz : Srtd key (Bs.flatten ++ C) := by
    rcases xF Bs with rfl | ⟨X, rfl⟩ | ⟨X, Y, Bs', rfl⟩
    ·simpa using hCs
    ·have h1 := hBs X (by simp);simp only [ql, qr, qq] at hsl ⊢;have hC0 : C = [] := List.length_eq_zero_iff.1 (by omega);subst hC0;simpa using h1.2
    ·exfalso;have h1 := (hBs X (by simp)).1;have h2 := (hBs Y (by simp)).1;simp only [ql, qb] at hsl;omega
   exact ⟨Bs.flatten ++ C, rfl, rfl, hz, hst⟩
theorem zwz (hc : lF T key) (lo hi : Nat) (nl : Bool) (P S R : List Int) (hP : P.length = lo) (hS : hi = lo + S.length) (hr : R32 (P ++ (S ++ R))) (hlen : hi < 1000000000000) :
 ACall qa 110 [.sub 0 lo hi, .fn 111 [.box 1 0]] (lH nl T (aA (P ++ (S ++ R)))) (lG key nl T P S R) := by
 refine ztw _ _ _ _ _ ?_;unfold zi7;refine (zwy hc lo hi nl P S R hP hS hr hlen).mono ?_;rintro r h' ⟨S1, rfl, rfl, s1, k1⟩;exact ⟨_, ⟨rfl, rfl⟩, ⟨trivial, ⟨rfl, rfl, by have := k1.len; simp; omega⟩, trivial⟩, S1, rfl, rfl, s1, k1⟩
end
section
variable {Z : World -> (Nat -> Prop) -> (Nat -> Pl) -> Hp -> Prop} {key : Int -> Int} {nl : Bool} {T : PV} {l : Nat}
def YQ (key : Int -> Int) (L : List Int) (f i : Nat) (L' : List Int) : Prop := ∃ S', L' = L.take f ++ (S' ++ L.drop i) /\ Srtd key S' /\ Stab key ((L.take i).drop f) S'
def zdl (Z : World -> (Nat -> Prop) -> (Nat -> Pl) -> Hp -> Prop) (key : Int -> Int) (nl : Bool) (T : PV) (l N0 : Nat) : Prop :=
 ∀ (w : World) (I : Nat -> Prop) (G : Nat -> Pl) (L : List Int) (f i : Nat), HRel w I G (aP nl T (aA L)) -> Z w I G (aP nl T (aA L)) -> f + 1 < i -> i <= L.length -> R32 L -> L.length < 1000000000000 -> L.length = N0 ->
  ∃ fn tmps assign body, (Instr.yield l #[.int .i64 f, .int .i64 i]).run qa w = .ok (.round l fn tmps assign body) w /\ RoundIn Fence.wide 0 qa l fn tmps assign body w fun e w' =>
   e = .returned (.bool true) /\ ∃ L' I' G', YQ key L f i L' /\ HRel w' I' G' (aP nl T (aA L')) /\ Keeps w I w' I' /\ Like G G' (aP nl T (aA L)) (aP nl T (aA L')) /\ Z w' I' G' (aP nl T (aA L'))
def o8 (ops : Array Oper) : Oper := ops.toList.getD 8 default
theorem e6a (y : Value) (es : List (List PV)) (i f : Int) (K : Env -> Hp -> Prop) : aM qa (fun _ => none) 39 (bD (d9 Tryz.f132)).toList ((bD (d9 Tryz.f132)).toList.take 8) (eM y i f) (aP nl T es) K =
 K ((35, LV.spec 32 true (.pv (.int .i64 i))) :: (34, LV.spec 32 true (.pv (.int .i64 f))) :: (33, LV.spec 32 true (.pv (.raw y))) :: (32, .pv (.bool (decide (i64.wrap (i - f) > (1 : Int))))) :: (31, .pv (.bool (decide (i64.wrap (i - f) > (1 : Int))))) ::
  (30, .pv (.int .i64 (i64.wrap (i - f)))) :: (29, .pv (.int .i64 f)) :: (28, .pv (.int .i64 i)) :: eM y i f) (aP nl T es) := by kernel_rfl
theorem e6b (y : Value) (es : List (List PV)) (i f : Int) (K : Env -> Hp -> Prop) : aM qa (fun _ => none) 39 (bD (d9 Tryz.f132)).toList ((bD (d9 Tryz.f132)).toList.drop 9) ((36, .pv (.bool true)) :: (32, .pv (.bool true)) :: eM y i f) (aP nl T es) K =
 K ((38, .pv (.bool false)) :: (37, .spec 32 true (.pv (.bool false))) :: (36, .pv (.bool true)) :: (32, .pv (.bool true)) :: eM y i f) (aP nl T es) := by kernel_rfl
theorem e6c (y : Value) (es : List (List PV)) (i f : Int) (K : Env -> Hp -> Prop) : aM qa (fun _ => none) 39 (bD (d9 Tryz.f132)).toList ((bD (d9 Tryz.f132)).toList.drop 9) ((32, .pv (.bool false)) :: eM y i f) (aP nl T es) K =
 K ((38, .pv (.bool false)) :: (37, .pv .unit) :: (32, .pv (.bool false)) :: (32, .pv (.bool false)) :: eM y i f) (aP nl T es) := by kernel_rfl
theorem zw0 : d9 Tryz.f132 = .region 6 (bD (d9 Tryz.f132)) false := by kernel_rfl
theorem zw1 : (bD (d9 Tryz.f132)).size = 11 /\ bU (bD (d9 Tryz.f132)).toList = true /\ (bD (d9 Tryz.f132)).toList.length = 11 /\ (bD (d9 Tryz.f132))[8]? = some (o8 (bD (d9 Tryz.f132))) /\
 (o8 (bD (d9 Tryz.f132))).dst = some 36 /\ (o8 (bD (d9 Tryz.f132))).guard = some (4, true) /\ (o8 (bD (d9 Tryz.f132))).op = .call { callee := .value (.tmp 33), args := #[.tmp 34, .tmp 35], argTypes := #[3, 3] } /\
 ((bD (d9 Tryz.f132))[4]?).bind (·.dst) = some 32 := by and_intros <;> kernel_rfl
theorem zw2 {F : Fence} {n : Nat} {P : Program} {ops : Array Oper} {Q : Exit -> Act -> World -> Prop} {i : Nat} {rest : List Nat} {a : Act} {w : World} {o : Oper} (ho : ops[i]? = some o)
 (h : if Region.wanted o (yielded ops a.tmps) then o.wpIn F n P a w (wpOpsIn F n P ops Q rest) Q else (∀ f, o.about P w a.eval = some f -> F.fn f) /\ wpOpsIn F n P ops Q rest (a.put o.dst undef) w) : wpOpsIn F n P ops Q (i :: rest) a w := by
 simp only [wpOpsIn, ho]; exact h
theorem zw3 {w : World} {I : Nat -> Prop} {G : Nat -> Pl} {h : Hp} {tm : Array Value} {s : Nat} {b : Bool} (hr : LRel w I G h (.pv (.bool b)) (tm.getD s undef)) : tm[s]? = some (.bool b) := by
 have := hr.bool_eq;rw [qo] at this;cases hx : tm[s]? with
 | none => rw [hx] at this; simp [undef] at this
 | some v => rw [hx] at this; simpa using this
theorem LRel.raw_eq {w : World} {I : Nat -> Prop} {G : Nat -> Pl} {h : Hp} {v cv : Value} (hr : LRel w I G h (.pv (.raw v)) cv) : cv = v := by cases hr with | pv _ _ h1 => cases h1; rfl
theorem zw4 {N0 : Nat} (hY : zdl Z key nl T l N0) (hZ : ∀ w I G h w' I' G' h', Z w I G h -> HRel w I G h -> HRel w' I' G' h' -> TrN 5 w I G h w' I' G' h' -> Z w' I' G' h') (L : List Int) (f i : Nat) (hf : f <= i) (hi : i <= L.length) (hr : R32 L) (hL : L.length < 1000000000000) (hN : L.length = N0) :
 CodeZ Z qa 39 (d9 Tryz.f132) (eM (.func (.yield l) #[] #[]) i f) (aP nl T (aA L)) fun x e h => ∃ L', x = .normal /\ (if f + 1 < i then YQ key L f i L' else L' = L) /\ e = (38, .pv (.bool false)) :: eM (.func (.yield l) #[] #[]) i f /\ h = aP nl T (aA L') := by
 intro w I G a Qx hs hz hq;obtain ⟨q1, q2, q3, q4, q5, q6, q7, q8⟩ := zw1;rw [zw0];have ea := e6a (nl := nl) (T := T) (.func (.yield l) #[] #[]) (aA L) i f;have eb := fun es => e6b (nl := nl) (T := T) (.func (.yield l) #[] #[]) es i f;have ec := e6c (nl := nl) (T := T) (.func (.yield l) #[] #[]) (aA L) i f;generalize bD (d9 Tryz.f132) = O at *;generalize o8 O = o at *;have ww : i64.wrap ((i : Int) - f) = (i : Int) - f := wz;rw [ww] at ea;refine wp_mono (Q := fun x a' w' => x = .normal /\ ∃ L' I' G', (if f + 1 < i then YQ key L f i L' else L' = L) /\ SRel w' I' G' ((38, .pv (.bool false)) :: eM (.func (.yield l) #[] #[]) i f) (aP nl T (aA L')) 39 a' /\ a'.defers = a.defers /\ Z w' I' G' (aP nl T (aA L'))) ((wpIn_wide (n := 0)).1 (wpIn_region (F := wd none) ?_)) ?_
 rotate_left
 ·rintro x a' w' ⟨rfl, L', I', G', h1, h2, h3, h4⟩;exact hq .normal _ _ w' I' G' a' ⟨L', rfl, h1, rfl, rfl⟩ h2 h3 h4
 rw [q1, show List.range 11 = qbi 0 8 ++ (8 :: qbi 9 2) from rfl];refine sS ?_;rw [show (8 : Nat) = (O.toList.take 8).length by simp [q3]];have hsuf : ∀ j, j < (O.toList.drop 9).length -> (O.toList.drop 9)[j]? = O[9 + j]? := fun j _ => by rw [List.getElem?_drop]; simp
 have hl2 : (O.toList.drop 9).length = 2 := by simp [q3]
 refine vU (ro := none) q2 (fun j hj => ?_) (by rw [ea]; exact ⟨rfl, rfl⟩ : aM qa (fun _ => none) 39 O.toList (O.toList.take 8) _ _ (fun e' h' => e' = _ /\ h' = aP nl T (aA L))) hs (fun a w h => nomatch h.1) ?_
 ·rw [List.getElem?_take, if_pos (by simp only [qk] at hj; omega)]; simp
 rintro _ _ w1 I1 G1 a1 ⟨rfl, rfl⟩ hs1 hd1 ht1;rw [show (O.toList.take 8).length = 8 by simp [q3]];have hz1 := hZ _ _ _ _ _ _ _ _ hz hs.hh hs1.hh ht1.toN;have h32 := zw3 (hs1.he 32 _ rfl)
 have hyl : yielded O a1.tmps 4 = some (decide ((i : Int) - f > 1)) := by
  unfold yielded;rw [q8]; simp [h32]
 have hwd : Region.wanted o (yielded O a1.tmps) = decide ((i : Int) - f > 1) := by unfold Region.wanted; rw [q6]; simp [hyl]
 show wpOpsIn (wd none) 0 qa O _ (8 :: qbi 9 2) a1 w1;refine zw2 q4 ?_;rw [hwd];have hdst : hE 39 o = true := by unfold hE; rw [q5]; rfl
 by_cases hc : f + 1 < i
 ·have hd' : decide ((i : Int) - f > 1) = true := by simp; omega
  rw [hd'] at hs1 h32 ⊢;rw [if_pos rfl];refine ⟨fun _ _ => trivial, ?_⟩;have h32' : a1.tmps.getD 32 undef = .bool true := (hs1.he 32 _ rfl).bool_eq;have v33 := ((hs1.he 33 _ rfl).1 h32').raw_eq;have v34 := ((hs1.he 34 _ rfl).1 h32').int_eq;have v35 := ((hs1.he 35 _ rfl).1 h32').int_eq;obtain ⟨fn, tmps, assign, body, hy, hR⟩ := hY w1 I1 G1 L f i hs1.hh hz1 hc hi hr hL hN
  have hrun : (o.semAt none a1.eval).run qa w1 = .ok (.round l fn tmps assign body) w1 := by
   rw [Oper.semAt_none];unfold execOp;rw [q7];have e33 : a1.eval (.tmp 33) = .func (.yield l) #[] #[] := v33;have e34 : a1.eval (.tmp 34) = .int .i64 f := v34;have e35 : a1.eval (.tmp 35) = .int .i64 i := v35
   have hres : resolve a1.eval { callee := .value (.tmp 33), args := #[.tmp 34, .tmp 35], argTypes := #[3, 3] } o.type = pure { target := .fn (.yield l) #[], args := #[.int .i64 f, .int .i64 i] } := by
    simp [resolve, e33, e34, e35, Deferred.ofValue]
   simp only [hres, pure_bind];exact hy
  rw [hrun];refine ⟨(fun x => by cases x), hR.mono ?_⟩;rintro e w2 ⟨rfl, L', I2, G2, y1, y2, y3, y4, y5⟩
  have hs2 : SRel w2 I2 G2 ((36, .pv (.bool true)) :: (32, .pv (.bool true)) :: eM (.func (.yield l) #[] #[]) i f) (aP nl T (aA L')) 39 (a1.put o.dst (.bool true)) := by
   have s1 : SRel w1 I1 G1 ((32, .pv (.bool true)) :: eM (.func (.yield l) #[] #[]) i f) (aP nl T (aA L)) 39 a1 := hs1.le (LeE.le ⟨rfl, rfl, rfl, rfl, rfl, rfl, trivial⟩);obtain ⟨p1, p2⟩ := j6 (v := .pv (.bool true)) hdst s1.hn y2 (s1.he.mono y3 y4) (.pv _ _ (.bool true));have : put o (.pv (.bool true)) ((32, .pv (.bool true)) :: eM (.func (.yield l) #[] #[]) i f) = (36, .pv (.bool true)) :: (32, .pv (.bool true)) :: eM (.func (.yield l) #[] #[]) i f := by unfold put; rw [q5]; rfl
   rwa [this] at p1
  have := vU (ro := none) (n := 0) (k := 9) q2 hsuf (by rw [eb]; exact ⟨rfl, rfl⟩ : aM qa (fun _ => none) 39 O.toList (O.toList.drop 9) _ _ (fun e' h' => e' = _ /\ h' = aP nl T (aA L'))) hs2 (Q := fun x a' w' => x = .normal /\ ∃ L' I' G', (if f + 1 < i then YQ key L f i L' else L' = L) /\ SRel w' I' G' ((38, .pv (.bool false)) :: eM (.func (.yield l) #[] #[]) i f) (aP nl T (aA L')) 39 a' /\ a'.defers = a.defers /\ Z w' I' G' (aP nl T (aA L'))) (fun a w h => nomatch h.1) (by
   rintro _ _ w3 I3 G3 a3 ⟨rfl, rfl⟩ hs3 hd3 ht3
   refine ⟨rfl, L', I3, G3, by rw [if_pos hc]; exact y1, hs3.le (LeE.le ⟨rfl, rfl, rfl, rfl, rfl, rfl, trivial⟩), hd3.trans ((by unfold Act.put; cases o.dst <;> rfl : (a1.put o.dst (.bool true)).defers = a1.defers).trans hd1), hZ _ _ _ _ _ _ _ _ y5 hs2.hh hs3.hh ht3.toN⟩)
  rw [hl2] at this;exact this
 ·have hd' : decide ((i : Int) - f > 1) = false := by simp; omega
  rw [hd'] at hs1 h32 ⊢;rw [if_neg (by simp)];refine ⟨fun _ _ => trivial, ?_⟩;have hlt : 36 < a1.tmps.size := by rw [hs1.hn]; omega
  have hs2 : SRel w1 I1 G1 ((32, .pv (.bool false)) :: eM (.func (.yield l) #[] #[]) i f) (aP nl T (aA L)) 39 (a1.put o.dst undef) := by
   have s1 : SRel w1 I1 G1 ((32, .pv (.bool false)) :: eM (.func (.yield l) #[] #[]) i f) (aP nl T (aA L)) 39 a1 := hs1.le (LeE.le ⟨rfl, rfl, rfl, rfl, rfl, rfl, trivial⟩);obtain ⟨p1, p2⟩ := j6 (v := .bot) (cv := undef) hdst s1.hn s1.hh s1.he (.bot _);have : put o .bot ((32, .pv (.bool false)) :: eM (.func (.yield l) #[] #[]) i f) = (36, .bot) :: (32, .pv (.bool false)) :: eM (.func (.yield l) #[] #[]) i f := by unfold put; rw [q5]; rfl
   rw [this] at p1;exact p1.le (LeE.le ⟨rfl, rfl, rfl, rfl, rfl, rfl, trivial⟩)
  have := vU (ro := none) (n := 0) (k := 9) q2 hsuf (by rw [ec]; exact ⟨rfl, rfl⟩ : aM qa (fun _ => none) 39 O.toList (O.toList.drop 9) _ _ (fun e' h' => e' = _ /\ h' = aP nl T (aA L))) hs2 (Q := fun x a' w' => x = .normal /\ ∃ L' I' G', (if f + 1 < i then YQ key L f i L' else L' = L) /\ SRel w' I' G' ((38, .pv (.bool false)) :: eM (.func (.yield l) #[] #[]) i f) (aP nl T (aA L')) 39 a' /\ a'.defers = a.defers /\ Z w' I' G' (aP nl T (aA L'))) (fun a w h => nomatch h.1) (by
   rintro _ _ w3 I3 G3 a3 ⟨rfl, rfl⟩ hs3 hd3 ht3
   exact ⟨rfl, L, I3, G3, by rw [if_neg hc], hs3.le (LeE.le ⟨rfl, rfl, rfl, rfl, rfl, rfl, trivial⟩), hd3.trans ((by unfold Act.put; cases o.dst <;> rfl : (a1.put o.dst undef).defers = a1.defers).trans hd1), hZ _ _ _ _ _ _ _ _ hz1 hs2.hh hs3.hh ht3.toN⟩)
  rw [hl2] at this;exact this
end
section
variable {Z : World -> (Nat -> Prop) -> (Nat -> Pl) -> Hp -> Prop} {key : Int -> Int} {nl : Bool} {T : PV} {l : Nat} {y : Value} {es : List (List PV)}
theorem eI0 (Q : Qt) : cC qa (fun _ => none) 5 39 lM (fun _ => none) (aT (cM Tryz.f132)) (fI [.pv (.raw y), .box 4 0, .box 3 0] 0) (aP nl T es) Q = Q .normal (eN y 0) (aP nl T es) := by kernel_rfl
theorem eI1 (i : Int) (Q : Qt) : cC qa (fun _ => none) 5 39 lM (fun _ => none) (aT (cL Tryz.f132)) (eN y i) (aP nl T es) Q =
 if decide (i < (es.length : Int)) = true then Q .normal [(0, .pv (.raw y)), (1, .box 4 0), (2, .box 3 0), (4, .pv (.int .i64 i)), (9, .pv (.bool (decide (i < (es.length : Int)))))] (aP nl T es)
 else Q (.exit 0) [(0, .pv (.raw y)), (1, .box 4 0), (2, .box 3 0), (4, .pv (.int .i64 i)), (9, .pv (.bool (decide (i < (es.length : Int)))))] (aP nl T es) := by kernel_rfl
theorem eI3 (i : Int) (Q : Qt) : cC qa (fun _ => none) 5 39 lM (fun _ => none) (aT (cB Tryz.f132)) (eN y i) (aP nl T es) Q = Q .normal (eM y i i) (aP nl T es) := by kernel_rfl
theorem eI2 (i : Int) (Q : Qt) : cC qa (fun _ => none) 5 39 lM (fun _ => none) (aL (aL (cL Tryz.f132))) (eN y i) (aP nl T es) Q = Q .normal (eN y (i64.wrap (i + 1))) (aP nl T es) := by kernel_rfl
def zdm (y : Value) (i f : Int) (b : Bool) : Env := [(0, .pv (.raw y)), (1, .box 4 0), (2, .box 3 0), (4, .pv (.int .i64 i)), (5, .pv (.int .i64 f)), (25, .pv (.bool b))]
theorem eI4 (i f : Int) (J : Int -> Prop) (μ : Int -> Nat) (Q : Qt) : cC qa (fun _ => none) 5 39 lM (fun zz_ => match zz_ with | 4 => some ⟨Int × Unit, fun s => (eM y s.1 f, aP nl T es), fun _ s => J s.1, fun s => μ s.1, fun e h => (gI e 4, ()), [], [0, 1, 2, 4, 5], [], fun p => ∀ (x4 : Int), p (x4, ()), fun p h s => h s.1⟩ | _ => none) (aT (aL (cB Tryz.f132))) (eM y i f) (aP nl T es) Q =
 ((SameSt (eM y i f, aP nl T es) (eM y i f, aP nl T es) /\ J i) /\ ∀ (x4 : Int), J x4 -> if decide (x4 < (es.length : Int)) = true then aD es x4 1 /\ ∃ (n : Int), (qc 0 (es.getD x4.toNat [])).head? = some (.int .i32 n) /\ PCall qa 71 [T, .int .i32 n] fun (v : PV) => ∃ (n1 : Int), v = .int .i64 n1 /\
  if (n1 != (0 : Int)) = true then SameSt (eM y (i64.wrap (x4 + 1)) f, aP nl T es) (eM y (i64.wrap (x4 + 1)) f, aP nl T es) /\ J (i64.wrap (x4 + 1)) /\ μ (i64.wrap (x4 + 1)) < μ x4
  else Q .normal (zdm y x4 f (n1 != (0 : Int))) (aP nl T es)
   else Q .normal (zdm y x4 f false) (aP nl T es)) := by kernel_rfl
theorem zdn : cM Tryz.f132 = .seq (aT (cM Tryz.f132)) (.block 0 (.loop (cL Tryz.f132))) /\
 cL Tryz.f132 = .seq (aT (cL Tryz.f132)) (.seq (.block 1 (cB Tryz.f132)) (aL (aL (cL Tryz.f132)))) /\
 cB Tryz.f132 = .seq (aT (cB Tryz.f132)) (.seq (aT (aL (cB Tryz.f132))) (.seq (d9 Tryz.f132) (.cond (.tmp 38) .ret .skip))) := by and_intros <;> kernel_rfl
theorem CodeZ.le {P : Program} {N : Nat} {c : Code} {e e' : Env} {h : Hp} {Q : Qt} (hl : LeE e' e) (hK : CodeZ Z P N c e' h Q) : CodeZ Z P N c e h Q :=
 fun w I G a Qx hs hz hq => hK w I G a Qx (hs.le hl.le) hz hq
theorem zw5 (hk : ∀ x, 0 <= key x) (hT : ∀ r : Int, (-2147483648 <= r /\ r <= 2147483647) -> PCall qa 71 [T, .int .i32 r] fun v => v = .int .i64 (key r)) 
 (hZ : ∀ w I G h w' I' G' h', Z w I G h -> HRel w I G h -> HRel w' I' G' h' -> TrN 5 w I G h w' I' G' h' -> Z w' I' G' h') (L0 : List Int) (hY : zdl Z key nl T l L0.length) (hr : R32 L0) (hL : L0.length < 1000000000000) :
 CodeZ Z qa 39 (cM Tryz.f132) (fI [.pv (.raw (.func (.yield l) #[] #[])), .box 4 0, .box 3 0] 0) (aP nl T (aA L0)) fun x e h => x = .normal /\ h = aP nl T (aA (c5 key L0)) := by
 obtain ⟨y, hy⟩ : ∃ y : Value, y = .func (.yield l) #[] #[] := ⟨_, rfl⟩;rw [zdn.1, <- hy];refine CodeZ.seq (CodeZ.of (n0 := 5) hZ (iL (Eq.mpr (eI0 _) ?_)));show CodeZ Z qa 39 (.block 0 (.loop (cL Tryz.f132))) (eN y 0) (aP nl T (aA L0)) _;refine CodeZ.block (CodeZ.loop (σ := Nat × List Int) (fun s => (eN y s.1, aP nl T (aA s.2))) (fun s => s.1 <= L0.length + 1 /\ Eqv key L0 s.2 /\ dD key (s.2.take s.1) /\ (s.1 = 0 ∨ L0.length < s.1 ∨ key (s.2.getD (s.1 - 1) 0) = 0)) (fun s => L0.length + 1 - s.1) (0, L0) (LeE.le ⟨rfl, rfl, rfl, rfl, trivial⟩) rfl ⟨by omega, .refl _, by simp [dD], .inl rfl⟩ ?_);rintro ⟨i, L⟩ ⟨hi, hq, hc, hb⟩;have hlen := hq.len;have hr' : R32 L := fun x hx => hr x (hq.mem.2 hx);dsimp only at hi hq hc hb hlen ⊢;rw [zdn.2.1];refine CodeZ.seq (CodeZ.of (n0 := 5) hZ (iL (Eq.mpr (eI1 _ _) ?_)));by_cases hlt : i < L.length
 ·rw [if_pos (by simpa using hlt)]
  show CodeZ Z qa 39 (.seq (.block 1 (cB Tryz.f132)) (aL (aL (cL Tryz.f132)))) _ _ _;refine CodeZ.le (e' := eN y i) ⟨rfl, rfl, rfl, rfl, trivial⟩ (CodeZ.seq (CodeZ.block ?_));rw [zdn.2.2];refine CodeZ.seq (CodeZ.of (n0 := 5) hZ (iL (Eq.mpr (eI3 _ _) ?_)));show CodeZ Z qa 39 (.seq (aT (aL (cB Tryz.f132))) (.seq (d9 Tryz.f132) (.cond (.tmp 38) .ret .skip))) (eM y i i) _ _;refine CodeZ.seq (CodeZ.of (n0 := 5) hZ (iL (Eq.mpr (eI4 _ _ (fun x => ∃ j : Nat, x = j /\ i <= j /\ j <= L.length /\ ∀ k, i <= k -> k < j -> key (L.getD k 0) ≠ 0) (fun x => ((L.length : Int) - x).toNat) _) ?_)));refine ⟨⟨rfl, i, rfl, qg _, by omega, fun k h1 h2 => by omega⟩, ?_⟩;rintro _ ⟨j, rfl, hij, hj, hnz⟩
  -- what follows the row of marks
  have rest : ∀ b, (j = L.length ∨ key (L.getD j 0) = 0) -> CodeZ Z qa 39 (.seq (d9 Tryz.f132) (.cond (.tmp 38) .ret .skip)) (zdm y j i b) (aP nl T (aA L)) fun x e h => match x with
   | .normal => CodeZ Z qa 39 (aL (aL (cL Tryz.f132))) e h fun x e h => match x with
     | .normal => ∃ s' : Nat × List Int, (∀ i v, get (eN y s'.1) i = some v -> get e i = some v) /\ h = aP nl T (aA s'.2) /\ (s'.1 <= L0.length + 1 /\ Eqv key L0 s'.2 /\ dD key (s'.2.take s'.1) /\ (s'.1 = 0 ∨ L0.length < s'.1 ∨ key (s'.2.getD (s'.1 - 1) 0) = 0)) /\ L0.length + 1 - s'.1 < L0.length + 1 - i
     | _ => False
   | _ => False := fun b hend => by
   refine CodeZ.le (e' := eM y j i) ⟨rfl, rfl, rfl, rfl, rfl, trivial⟩ (CodeZ.seq ?_);rw [hy];refine (zw4 hY hZ L i j hij hj hr' (by omega) hlen.symm).mono ?_;rintro _ _ _ ⟨L', rfl, hL', rfl, rfl⟩;refine CodeZ.cond (t := false) rfl ?_;simp only [Bool.false_eq_true, if_false];refine CodeZ.skip ?_;rw [<- hy];refine CodeZ.le (e' := eN y j) ⟨rfl, rfl, rfl, rfl, trivial⟩ (CodeZ.of (n0 := 5) hZ (iL (Eq.mpr (eI2 _ _) ?_)));have wj : i64.wrap ((j : Int) + 1) = ((j + 1 : Nat) : Int) := by rw [wz]; omega
   rw [wj]
   have hb' : i = 0 ∨ key (L.getD (i - 1) 0) = 0 := by
    rcases hb with h | h | h
    ·exact .inl h
    ·omega
    ·exact .inr h
   obtain ⟨S', hs, hst, rfl⟩ : ∃ S', Srtd key S' /\ Stab key ((L.take j).drop i) S' /\ L' = L.take i ++ (S' ++ L.drop j) := by
    by_cases h1 : i + 1 < j
    ·rw [if_pos h1] at hL';obtain ⟨S', e, h2, h3⟩ := hL';exact ⟨S', h2, h3, e⟩
    ·rw [if_neg h1] at hL';obtain ⟨c1, c2, c3⟩ := wD L hij hj;exact ⟨_, zst (by omega), Stab.refl _, hL'.trans c1⟩
   obtain ⟨g1, g2, g3⟩ := zss hk hij hj hb' hnz hend hc hs hst;refine ⟨(j + 1, _), LeE.le ⟨rfl, rfl, rfl, rfl, trivial⟩, rfl, ⟨by dsimp only; omega, hq.trans g1, g2, ?_⟩, by dsimp only; omega⟩;rcases Nat.lt_or_ge j L.length with h | h
   ·exact .inr (.inr (g3 h))
   ·exact .inr (.inl (by dsimp only; omega))
  by_cases hjl : j < L.length
  ·rw [if_pos (by simpa using hjl)]
   refine ⟨cS (enc := fun n => [PV.int .i32 n]) (l := L) (fun _ => rfl) (by omega) (by omega), L.getD j 0, by rw [qd, zhg hjl]; rfl, (hT _ (hr' _ (List.mem_of_getElem? (s7 hjl)))).mono ?_⟩;rintro _ rfl;refine ⟨_, rfl, ?_⟩;by_cases hz : key (L.getD j 0) = 0
   ·rw [if_neg (by simpa using hz)]
    exact (rest _ (.inr hz)).mono fun x e h hx => by cases x <;> first | exact hx.elim | exact CodeZ.mono hx fun x e h hx => (by cases x <;> first | exact hx | exact hx.elim)
   ·rw [if_pos (by simpa using hz)]
    have wj : i64.wrap ((j : Int) + 1) = ((j + 1 : Nat) : Int) := by rw [wz]; omega
    rw [wj];refine ⟨rfl, ⟨j + 1, rfl, by omega, hjl, fun k h1 h2 => ?_⟩, by omega⟩;rcases Nat.lt_or_ge k j with h | h
    ·exact hnz k h1 h
    ·have : k = j := by omega
     subst this; exact hz
  ·rw [if_neg (by simpa using hjl)]
   exact (rest _ (.inl (by omega))).mono fun x e h hx => by cases x <;> first | exact hx.elim | exact CodeZ.mono hx fun x e h hx => (by cases x <;> first | exact hx | exact hx.elim)
 ·rw [if_neg (by simpa using hlt)]
  refine ⟨rfl, ?_⟩;rw [qi (by omega)] at hc;rw [zsp hq, zsr hc]
end
section
variable {w w' : World} {I I' : Nat -> Prop} {G G' : Nat -> Pl} {h h' : Hp}
theorem HRel.off (hh : HRel w I G h) {l : Nat} (o : Obj) (hI : ¬ I l) (ho : ¬ aS h G l) : HRel (w.putObj l o) I G h := by
 have hw : ∀ b, b ≠ l -> (w.putObj l o).heap[b]? = w.heap[b]? := fun b hb => World.putObj_heap_other hb;have hk : Keeps w I (w.putObj l o) I := ⟨fun b hb _ => hw b fun e => hI (e ▸ hb), fun b hb _ => hb⟩;have blk : ∀ (i : Nat) x, h[i]? = some x -> x.alive (G i) -> (G i).blk ≠ l := fun i x hx ha e => ho ⟨i, x, hx, ha, e⟩;refine ⟨fun i x hx => ?_, hh.sep, hh.nI, fun b hb => by rw [World.putObj_size]; exact hh.cl b hb⟩;have := hh.obs i x hx;cases x with
 | dead => trivial
 | box cs => obtain ⟨vs, ty, e1, e2, e3⟩ := this; exact ⟨vs, ty, by rw [hw _ (blk i _ hx trivial)]; exact e1, e2, fun k v hv => ⟨(e3 k v hv).1.mono hk (.refl _ _), (e3 k v hv).2⟩⟩
 | arr cs => obtain ⟨vs, ty, e1, e2, e3⟩ := this; exact ⟨vs, ty, by rw [hw _ (blk i _ hx trivial)]; exact e1, e2, fun k v hv => ⟨(e3 k v hv).1.mono hk.1 hk.2, (e3 k v hv).2⟩⟩
 | sl ty m n es =>
   cases n with
   | true => exact this
   | false =>
     obtain ⟨e1, e2, e3, e3', e4, e5⟩ := this;refine ⟨e1, e2, e3, e3', e4, fun hc => ?_⟩;obtain ⟨vs, f1, f2, f3⟩ := e5 hc;exact ⟨vs, by rw [hw _ (blk i _ hx ⟨rfl, hc⟩)]; exact f1, f2, fun i' e he k v hv => ⟨(f3 i' e he k v hv).1.mono hk.1 hk.2, (f3 i' e he k v hv).2⟩⟩
 | mp kvs => obtain ⟨es, ck, e1, e2, e3⟩ := this; exact ⟨es, ck, by rw [hw _ (blk i _ hx trivial)]; exact e1, e2, fun k kv hv => ⟨(e3 k kv hv).1.mono hk.1 hk.2, (e3 k kv hv).2.mono hk.1 hk.2⟩⟩
 | iter ty rem cur => exact IterRel.mono this (hw _ (blk i _ hx trivial)) hk
theorem mH (hh : HRel w I G h) {b : Nat} {o : Obj} (ho : w.heap[b]? = some o) (hn : (match o with | .cells .. => true | .map .. => true | .mapIter .. => true | _ => false) = false) : ¬ aS h G b := by
 rintro ⟨i, ob, hi, ha, rfl⟩;have := hh.obs i ob hi;cases ob with
 | dead => exact ha
 | box cs => obtain ⟨vs, ty, e1, _⟩ := this; rw [ho] at e1; cases e1; cases hn
 | arr cs => obtain ⟨vs, ty, e1, _⟩ := this; rw [ho] at e1; cases e1; cases hn
 | sl ty m n es =>
   cases n with
   | true => exact absurd ha.1 (by simp)
   | false => obtain ⟨vs, e1, _⟩ := this.2.2.2.2.2 ha.2; rw [ho] at e1; cases e1; cases hn
 | mp kvs => obtain ⟨es, ck, e1, _⟩ := this; rw [ho] at e1; cases e1; cases hn
 | iter ty rem cur => obtain ⟨_, _, _, _, _, _, e1, _⟩ := this; rw [ho] at e1; cases e1; cases hn
theorem Tr.off {own own' : Nat -> Prop} (t : Tr w I own w' I' own') {l : Nat} (hl : w.heap.size <= l) (o : Obj) : Tr w I own (w'.putObj l o) I' own' :=
 ⟨t.os, t.tape, t.output, by rw [World.putObj_size]; exact t.size, fun b hb hn => (World.putObj_heap_other (by omega)).trans (t.keep b hb hn), t.i1, t.i2, t.own2,
  fun a ha => (World.frozen?_of_block (World.putObj_heap_other (by omega))).trans (t.frz a ha), t.drawn⟩
theorem TrN.off {n0 : Nat} (t : TrN n0 w I G h w' I' G' h') {l : Nat} (hl : w.heap.size <= l) (o : Obj) : TrN n0 w I G h (w'.putObj l o) I' G' h' := ⟨t.t.off hl o, t.len, t.stay⟩
theorem tO (hh : HRel w I G h) (t : Tr w I (aS h G) w' I' (aS h' G')) : Keeps w I w' I' :=
 ⟨fun b hb hlt => t.keep b hlt fun ⟨o, ob, h1, h2, e⟩ => hh.nI o ob h1 h2 (e ▸ hb), fun b hb _ => t.i1 b hb⟩
theorem Keeps.trans {w1 w2 : World} {I1 I2 : Nat -> Prop} (h : Keeps w I w1 I1) (hs : w.heap.size <= w1.heap.size) (k : Keeps w1 I1 w2 I2) : Keeps w I w2 I2 :=
 ⟨fun b hb hlt => (k.1 b (h.2 b hb hlt) (qba hlt hs)).trans (h.1 b hb hlt), fun b hb hlt => k.2 b (h.2 b hb hlt) (qba hlt hs)⟩
theorem Keeps.off {l : Nat} (hI : ¬ I l) (o : Obj) : Keeps w I (w.putObj l o) I := ⟨fun b hb _ => World.putObj_heap_other fun e => hI (e ▸ hb), fun b hb _ => hb⟩
structure ZR (W0 : World) (I0 : Nat -> Prop) (G0 : Nat -> Pl) (h0 : Hp) (l D : Nat) (rec : Loop) (W : World) (I : Nat -> Prop) (G : Nat -> Pl) (h : Hp) : Prop where
 t : TrN 5 W0 I0 G0 h0 W I G h
 hl : W.heap[l]? = some (.loop rec)
 hD : W.heap[D]? = some (.deferred (some []))
 nl : ¬ I l
 nD : ¬ I D
theorem ZR.step {W0 : World} {I0 : Nat -> Prop} {G0 : Nat -> Pl} {h0 : Hp} {l D : Nat} {rec : Loop} (z : ZR W0 I0 G0 h0 l D rec w I G h) (hh : HRel w I G h) (t : TrN 5 w I G h w' I' G' h') : ZR W0 I0 G0 h0 l D rec w' I' G' h' := by
 have l1 := (Array.getElem?_eq_some_iff.1 z.hl).1;have l2 := (Array.getElem?_eq_some_iff.1 z.hD).1;have n1 := mH hh z.hl rfl;have n2 := mH hh z.hD rfl;exact ⟨z.t.trans t, (t.t.keep l l1 n1).trans z.hl, (t.t.keep D l2 n2).trans z.hD, fun x => (t.t.i2 l x).elim z.nl (fun x => x.elim n1 fun x => by omega), fun x => (t.t.i2 D x).elim z.nD (fun x => x.elim n2 fun x => by omega)⟩
end
section
variable {key : Int -> Int} {nl : Bool} {T : PV}
theorem zdo {G G' : Nat -> Pl} {es es' : List (List PV)} (hl : es.length = es'.length) (hG : ∀ o, o < 5 -> G' o = G o) : Like G G' (aP nl T es) (aP nl T es') := by
 intro o ob ho;have hlt : o < 5 := (List.getElem?_eq_some_iff.1 ho).1;refine ⟨?_, fun _ => hG o hlt⟩
 match o, ho with
 | 0, ho => cases ho; exact ⟨_, rfl, trivial⟩
 | 1, ho => cases ho; exact ⟨_, rfl, rfl, rfl, hl⟩
 | 2, ho => cases ho; exact ⟨_, rfl, trivial⟩
 | 3, ho => cases ho; exact ⟨_, rfl, trivial⟩
 | 4, ho => cases ho; exact ⟨_, rfl, trivial⟩
theorem xG {w w' : World} {I I' : Nat -> Prop} {G G' : Nat -> Pl} {es es' : List (List PV)} (t : TrN 5 w I G (aP nl T es) w' I' G' (aP nl T es')) : ∀ o, o < 5 -> G' o = G o := by
 intro o ho;have hs := t.stay (qg _)
 match o, ho with
 | 0, _ => exact (hs 0 _ (by omega) rfl rfl).1
 | 1, _ => exact (hs 1 _ (by omega) rfl rfl).1
 | 2, _ => exact (hs 2 _ (by omega) rfl rfl).1
 | 3, _ => exact (hs 3 _ (by omega) rfl rfl).1
 | 4, _ => exact (hs 4 _ (by omega) rfl rfl).1
theorem eA3 (es : List (List PV)) (i f : Int) (K : Env -> Hp -> Prop) : aM qa (fun _ => none) 22 (bD (aT (iT (dH Tryz.f82)))).toList (bD (aT (iT (dH Tryz.f82)))).toList (eO f i) (aP nl T es) K = K ((6, .pv (.int .i64 f)) :: eO f i) (aP nl T es) := by kernel_rfl
theorem eA4 (es : List (List PV)) (i f : Int) (K : Env -> Hp -> Prop) : aM qa (fun _ => none) 22 (bD (aL (iT (dH Tryz.f82)))).toList (bD (aL (iT (dH Tryz.f82)))).toList ((6, .pv (.int .i64 f)) :: eO f i) (aP nl T es) K = K ((7, .pv (.int .i64 i)) :: (6, .pv (.int .i64 f)) :: eO f i) (aP nl T es) := by kernel_rfl
theorem eA5 (es : List (List PV)) (i f : Int) (K : Env -> Hp -> Prop) : aM qa zbe 22 (bD (fA (iU (dH Tryz.f82)))).toList (bD (fA (iU (dH Tryz.f82)))).toList ((7, .pv (.int .i64 i)) :: (6, .pv (.int .i64 f)) :: eO f i) (aP nl T es) K =
 (dS es.length (some f) (some i) none /\ ACall qa 110 [.sub 0 f.toNat i.toNat, .fn 111 [.box 1 0]] [.sl (21, 1) false nl es, .box [.pv T]] fun (r : LV) (h' : Hp) => ∃ (t : List (List PV)), (r = .tup [] /\ h' = [.sl (21, 1) false nl t, .box [.pv T]]) /\
  (True /\ (((21, 1) : Nat × Nat) = (21, 1) /\ nl = nl /\ es.length = t.length) /\ True) /\ K ((20, .tup []) :: (19, .fn 111 [.box 0 0]) :: (18, .sub 1 f.toNat i.toNat) :: (17, .pv (.int .i64 i)) :: (16, .pv (.int .i64 f)) :: (15, .own 1) :: (7, .pv (.int .i64 i)) :: (6, .pv (.int .i64 f)) :: eO f i) (aP nl T t)) := by kernel_rfl
theorem zlw : iT (dH Tryz.f82) = .seq (.region 3 (bD (aT (iT (dH Tryz.f82)))) false) (.region 4 (bD (aL (iT (dH Tryz.f82)))) false) /\ iU (dH Tryz.f82) = .block 1 (.region 5 (bD (fA (iU (dH Tryz.f82)))) false) /\
 dH Tryz.f82 = .rangeFunc (.tmp 12) #[13, 14] (iT (dH Tryz.f82)) (iU (dH Tryz.f82)) /\ bU (bD (aT (iT (dH Tryz.f82)))).toList = true /\ bU (bD (aL (iT (dH Tryz.f82)))).toList = true /\ bU (bD (fA (iU (dH Tryz.f82)))).toList = true := by and_intros <;> kernel_rfl
theorem zw6 (hc : lF T key) {W0 : World} {I0 : Nat -> Prop} {G0 : Nat -> Pl} {L0 : List Int} {a : Act} {v12 : LV} (hs0 : SRel W0 I0 G0 [(2, .box 0 0), (5, .box 2 0), (12, v12)] (aP nl T (aA L0)) 22 a) (rec : Loop)
 (r1 : rec.state = .ready) (r2 : rec.pending = none) (r3 : rec.tmps = a.tmps) (r4 : rec.params = #[13, 14]) (r5 : rec.assign = iT (dH Tryz.f82)) (r6 : rec.body = iU (dH Tryz.f82)) :
 zdl (ZR W0 I0 G0 (aP nl T (aA L0)) (W0.heap.size + 1) W0.heap.size rec) key nl T (W0.heap.size + 1) L0.length := by
 intro w I G L f i hh hz hfi hil hr hLn hN;obtain ⟨l, hl⟩ : ∃ l, l = W0.heap.size + 1 := ⟨_, rfl⟩;have hWl : W0.heap.size <= l := by omega
 rw [<- hl] at hz ⊢;refine ⟨_, _, _, _, run_yield (P := qa) hz.hl (by rw [r4]; rfl), roundIn_of_wpIn trivial ?_⟩;have hlt := (Array.getElem?_eq_some_iff.1 hz.hl).1;have hel : ∀ L' : List Int, L'.length = L.length -> (aA L0).length = (aA L').length := fun L' h => by simp [hN, h]
 have hs : SRel w I G (eO f i) (aP nl T (aA L)) 22 { tmps := (a.tmps.setIfInBounds 13 (.int .i64 f)).setIfInBounds 14 (.int .i64 i), defers := [] } := by
  have h1 := hs0.he.mono (tO hs0.hh hz.t.t) (zdo (hel L rfl) (xG hz.t));have h2 := h1.set (d := 13) (v := .pv (.int .i64 f)) (by rw [hs0.hn]; omega) (.pv _ _ (.int .i64 f)) (fun _ _ _ e => by cases e);have h3 := h2.set (d := 14) (v := .pv (.int .i64 i)) (by simp [hs0.hn]) (.pv _ _ (.int .i64 i)) (fun _ _ _ e => by cases e);exact ⟨hh, fun k v hk => h3 k v ((LeE.le (e' := eO f i) ⟨rfl, rfl, rfl, rfl, trivial⟩) k v hk), by simp [hs0.hn]⟩
 obtain ⟨q1, q2, q3, q4, q5, q6⟩ := zlw;rw [r5, q1, r4, r3];have hfold : ∀ x y : Value, (((#[13, 14] : Array Tmp).zip #[x, y]).foldl (fun tmps (t, a) => tmps.setIfInBounds t a) a.tmps) = (a.tmps.setIfInBounds 13 x).setIfInBounds 14 y := fun x y => by simp
 rw [hfold];refine wpIn_seq ?_;show Code.wpIn (wd (some l)) 0 qa _ (Exit.then (Code.wpIn (wd (some l)) 0 qa _ _) _) { tmps := (a.tmps.setIfInBounds 13 (.int .i64 f)).setIfInBounds 14 (.int .i64 i), defers := [] } w;refine zap q4 (by rw [eA3]; exact ⟨rfl, rfl⟩ : aM qa (fun _ => none) 22 _ _ _ _ (fun e' h' => e' = _ /\ h' = _)) hs ?_ ?_
 ·exact fun a w h => h
 rintro _ _ w1 I1 G1 a1 ⟨rfl, rfl⟩ hs1 hd1 ht1;refine zap q5 (by rw [eA4]; exact ⟨rfl, rfl⟩ : aM qa (fun _ => none) 22 _ _ _ _ (fun e' h' => e' = _ /\ h' = _)) hs1 ?_ ?_
 ·exact fun a w h => h
 rintro _ _ w2 I2 G2 a2 ⟨rfl, rfl⟩ hs2 hd2 ht2;have z1 := hz.step hh ht1.toN;have z2 := z1.step hs1.hh ht2.toN;refine ⟨_, run_beginRound z2.hl r1, ?_⟩;have n2 := mH hs2.hh z2.hl rfl;have l2 := (Array.getElem?_eq_some_iff.1 z2.hl).1;have hs3 : SRel (w2.putObj l (.loop { rec with state := .busy })) I2 G2 _ _ 22 a2 := ⟨hs2.hh.off _ z2.nl n2, hs2.he.mono (Keeps.off z2.nl _) (.refl _ _), hs2.hn⟩;have hp3 : (w2.putObj l (.loop { rec with state := .busy })).heap[l]? = some (.loop { rec with state := .busy }) := World.putObj_heap_same l2;have hb : ∀ {c : Code} {Q a w}, c = iU (dH Tryz.f82) -> Code.wpIn (wd (some l)) 0 qa (.block 1 (.region 5 (bD (fA (iU (dH Tryz.f82)))) false)) Q a w -> Code.wpIn (wd (some l)) 0 qa c Q a w := fun e h => by rw [e, q2]; exact h
 refine hb r6 ?_
 have h5 : aM qa zbe 22 (bD (fA (iU (dH Tryz.f82)))).toList (bD (fA (iU (dH Tryz.f82)))).toList ((7, .pv (.int .i64 i)) :: (6, .pv (.int .i64 f)) :: eO f i) (aP nl T (aA L)) (fun _ h' => ∃ L', YQ key L f i L' /\ h' = aP nl T (aA L')) := by
  rw [eA5, qd, qd];obtain ⟨c1, c2, c3⟩ := wD L (show f <= i by omega) hil;have e : aA L = aA (L.take f ++ ((L.take i).drop f ++ L.drop i)) := congrArg aA c1;refine ⟨⟨by simp, by simp; omega, by simp; omega, trivial⟩, ?_⟩;rw [e];refine (zwz hc f i nl (L.take f) ((L.take i).drop f) (L.drop i) c2 (by omega) (by rw [<- c1]; exact hr) (by omega)).mono ?_;rintro r h' ⟨S', rfl, rfl, s1, k1⟩;refine ⟨_, ⟨rfl, rfl⟩, ⟨trivial, ⟨rfl, rfl, ?_⟩, trivial⟩, _, ⟨S', rfl, s1, k1⟩, rfl⟩;have := k1.len;simp only [bX, qb]; omega
 refine wpIn_block ?_;show Code.wpIn (wd (some l)) 0 qa _ _ _ _;refine zap (H := zbe) (ro := some l) (n := 0) (id := 5) q6 h5 hs3 ?_ ?_
 ·exact fun a w h => h
 rintro e4 _ w4 I4 G4 a4 ⟨L', hYQ, rfl⟩ hs4 hd4 ht4;have n3 := mH hs3.hh hp3 rfl;have hl4 : w4.heap[l]? = some (.loop { rec with state := .busy }) := (ht4.t.keep l (by rw [World.putObj_size]; exact l2) n3).trans hp3;have l4 := (Array.getElem?_eq_some_iff.1 hl4).1;have nI4 : ∀ b, ¬ I2 b -> ¬ aS (aP nl T (aA L)) G2 b -> b < w2.heap.size -> ¬ I4 b := fun b x y z h => (ht4.t.i2 b h).elim x fun h => h.elim y fun h => by rw [World.putObj_size] at h; omega
 have nl4 := nI4 l z2.nl n2 l2;have hDne : W0.heap.size ≠ l := by omega
 have nD2 := mH hs2.hh z2.hD rfl;have lD := (Array.getElem?_eq_some_iff.1 z2.hD).1
 have hrec : ({ { rec with state := .busy } with state := if (none : Option Code).isNone then .ready else .done, pending := none } : Loop) = rec := by
  cases rec; simp only at r1 r2; subst r1; subst r2; rfl
 have hrun := run_endRound (P := qa) none hl4;rw [hrec] at hrun
 have hLL : L'.length = L.length := by
  obtain ⟨S', rfl, s1, k1⟩ := hYQ;obtain ⟨c1, c2, c3⟩ := wD L (show f <= i by omega) hil;have := k1.len;rw [qb, qb, c2, <- this, c3, qad]; omega
 have tB : TrN 5 W0 I0 G0 (aP nl T (aA L0)) (w4.putObj l (.loop rec)) I4 G4 (aP nl T (aA L')) := ((z2.t.off hWl _).trans ht4.toN).off hWl _;refine ⟨_, _, hrun, rfl, L', I4, G4, hYQ, hs4.hh.off _ nl4 (mH hs4.hh hl4 rfl), ?_, zdo (by simp [hLL]) (fun o ho => (xG tB o ho).trans (xG hz.t o ho).symm), ⟨tB, World.putObj_heap_same l4, ?_, nl4, nI4 _ z2.nD nD2 lD⟩⟩
 ·have k1 := (tO hh ht1.t).trans ht1.t.size (tO hs1.hh ht2.t);have s2 := qbb ht1.t.size ht2.t.size;have k2 := (k1.trans s2 (Keeps.off z2.nl (.loop { rec with state := .busy }))).trans (by rw [World.putObj_size]; exact s2) (tO hs3.hh ht4.t);exact k2.trans (by have := ht4.t.size; rw [World.putObj_size] at this; omega) (Keeps.off nl4 _)
 ·rw [World.putObj_heap_other hDne];exact (ht4.t.keep _ (by rw [World.putObj_size]; exact lD) (mH hs3.hh ((World.putObj_heap_other hDne).trans z2.hD) rfl)).trans ((World.putObj_heap_other hDne).trans z2.hD)
end
end Go.Eng
namespace Go.Eng
open Go Go.Proofs
section
variable (nl fl : Bool) (es : LL)
def zlx (R : LV -> Hp -> Prop) : Prop :=
 if (bif true then nl else !nl) = true then R (LV.pv (PV.sl true true [])) [] else gZ true [] es 1 4 /\ R (LV.own 0) [Ob.sl (21, 1) false false ([] ++ es)]
theorem zw7 {R : LV -> Hp -> Prop} (h : zlx nl es R) : ACall qa 47 [.pv (.sl nl fl es)] [] R :=
 ACall.wA Tryz.func47 aR [0, 2, 4] bE h
end
section
variable (nl : Bool) (ts : List PV) (es : LL)
def zw8 (R : LV -> Hp -> Prop) : Prop :=
 R (LV.fn 132 [LV.box 2 0, LV.box 1 0]) [Ob.sl (21, 1) false nl es, Ob.box [LV.pv (PV.ptr ts)], Ob.box [LV.own 0]]
theorem zw9 {R : LV -> Hp -> Prop} (h : zw8 nl ts es R) : ACall qa 109 [.pv (.ptr ts), .own 0] [.sl (21, 1) false nl es] R :=
 ACall.wz Tryz.func109 aR [0, 1, 2, 3, 4] bE [0, 1, 2] h
end
end Go.Eng
namespace Go.Eng
open Go Go.Proofs Go.Eng.Rows Go.Eng.Srt
theorem ACall.nilOwn {P : Program} {f : Nat} {args : List LV} {Q Q' : LV -> Hp -> Prop} {ty : Nat × Nat} (hc : ACall P f args [] Q) (hq : ∀ r h', Q r h' -> Q' r h' ∨ ∃ fl, r = .pv (.sl true fl []) /\ h' = [] /\ Q' (.own 0) [.sl ty false true []]) : ACall P f args [] Q' :=
 ⟨hc.1, fun w I G cargs h1 h2 h3 => (hc.2 w I G cargs h1 h2 h3).mono fun e w' ⟨cv, r, h', I', G', e1, e2, e3, e4, e5⟩ => (hq r h' e2).elim (fun q => ⟨cv, r, h', I', G', e1, q, e3, e4, e5⟩) fun ⟨fl, hr, hh, q⟩ => by
  subst hr; subst hh;have hcv : cv = .slice none 0 0 := by cases e4 with | pv _ _ h => cases h; rfl
  subst hcv
  have one : ∀ {o : Nat} {ob : Ob}, [Ob.sl ty false true []][o]? = some ob -> ob = .sl ty false true [] := fun {o ob} h => by
   cases o with
   | zero => cases h; rfl
   | succ o => simp at h
  have dead : ∀ {p : Pl}, ¬ (Ob.sl ty false true []).alive p := fun h => by cases h.1
  have noB : ∀ b, ¬ aS [Ob.sl ty false true []] G' b := fun b ⟨o, ob, ho, ha, _⟩ => by rw [one ho] at ha; exact dead ha
  refine ⟨_, .own 0, [.sl ty false true []], I', G', e1, q, ⟨fun o ob ho => by rw [one ho]; rfl, fun o o' ob ob' ho ha => by rw [one ho] at ha; exact (dead ha).elim, fun o ob ho ha => by rw [one ho] at ha; exact (dead ha).elim, e3.cl⟩, .ownNil 0 ty false [] rfl, ?_, by simp, fun o ob' ho => by simp at ho⟩;have t := e5.t
  exact ⟨t.os, t.tape, t.output, t.size, t.keep, t.i1, t.i2, fun b hb => (noB b hb).elim, t.frz, t.drawn⟩⟩
theorem zdp (nl fl : Bool) (es : List (List PV)) (hn : nl = true -> es = []) (ha : gZ true [] es 1 4) : ACall qa 47 [.pv (.sl nl fl es)] [] fun r h' => r = .own 0 /\ h' = [.sl (21, 1) false nl es] := by
 refine ACall.nilOwn (ty := (21, 1)) (Q := fun r h' => (nl = true /\ r = .pv (.sl true true []) /\ h' = []) ∨ (nl = false /\ r = .own 0 /\ h' = [.sl (21, 1) false nl es])) (zw7 nl fl es ?_) ?_
 ·unfold zlx;cases nl with
  | true => exact .inl ⟨rfl, rfl, rfl⟩
  | false => exact ⟨ha, .inr ⟨rfl, rfl, by simp⟩⟩
 ·rintro r h' (⟨rfl, rfl, rfl⟩ | ⟨rfl, rfl, rfl⟩)
  ·rw [hn rfl]; exact .inr ⟨true, rfl, rfl, rfl, rfl⟩
  ·exact .inl ⟨rfl, rfl⟩
theorem xH {P : Program} {n0 N : Nat} {c : Code} {e E : Env} {h Hh : Hp} (hS : CodeS P n0 N c e h fun x e' h' => x = .normal /\ e' = E /\ h' = Hh) {w : World} {I : Nat -> Prop} {G : Nat -> Pl} {a : Act} (hs : SRel w I G e h N a) {Q : Exit -> Act -> World -> Prop}
 (hq : ∀ w' I' G' a', SRel w' I' G' E Hh N a' -> a'.defers = a.defers -> TrN n0 w I G h w' I' G' Hh -> Q .normal a' w') : c.wp P Q a w :=
 hS w I G a Q hs fun x e' h' w' I' G' a' hk hs' hd ht => by obtain ⟨rfl, rfl, rfl⟩ := hk; exact hq w' I' G' a' hs' hd ht
section
variable {nl fl : Bool} {ts : List PV} {es : List (List PV)}
theorem eB0 (Q : Qt) : cC qa (fun _ => none) 0 22 [1, 2, 4] (fun _ => none) (cO0 Tryz.f82) (fI [.pv (.ptr ts), .pv (.sl nl fl es)] 0) [] Q = Q .normal [(1, .pv (.sl nl fl es)), (2, .box 0 0), (4, .pv (.sl true true []))] [.box [.pv (.ptr ts)]] := by kernel_rfl
theorem eB1 (Q : Qt) : cC qa zbf 0 22 [2, 5] (fun _ => none) (cO1 Tryz.f82) [(1, .pv (.sl nl fl es)), (2, .box 0 0)] [.box [.pv (.ptr ts)]] Q =
 ACall qa 47 [.pv (.sl nl fl es)] [] fun (r : LV) (h' : Hp) => ∃ (_ : Unit), (r = .own 0 /\ h' = [.sl (21, 1) false nl es]) /\ True /\ Q .normal [(2, .box 0 0), (5, .box 2 0)] [.box [.pv (.ptr ts)], .sl (21, 1) false nl es, .box [.own 1]] := by kernel_rfl
theorem eB2 (Q : Qt) : cC qa zbf 0 22 [2, 5, 12] (fun _ => none) (cO2 Tryz.f82) [(2, .box 0 0), (5, .box 2 0)] [.box [.pv (.ptr ts)], .sl (21, 1) false nl es, .box [.own 1]] Q =
 ACall qa 109 [.pv (.ptr ts), .own 0] [.sl (21, 1) false nl es] fun (r : LV) (h' : Hp) => ∃ (_ : Unit), (r = .fn 132 [.box 2 0, .box 1 0] /\ h' = [.sl (21, 1) false nl es, .box [.pv (.ptr ts)], .box [.own 0]]) /\
  ((((21, 1) : Nat × Nat) = (21, 1) /\ nl = nl /\ es.length = es.length) /\ True) /\ Q .normal [(2, .box 0 0), (5, .box 2 0), (12, .fn 132 [.box 4 0, .box 3 0])] (aP nl (.ptr ts) es) := by kernel_rfl
theorem eB6 (Q : Qt) : cC qa (fun _ => none) 5 22 [4] (fun _ => none) (cO6 Tryz.f82) [(2, .box 0 0), (5, .box 2 0)] (aP nl (.ptr ts) es) Q = Q .normal [(4, .own 1)] (aP nl (.ptr ts) es) := by kernel_rfl
theorem zdr : cM Tryz.f82 = .seq (cO0 Tryz.f82) (.seq (cO1 Tryz.f82) (.seq (.seq (cO2 Tryz.f82) (.block 0 (dH Tryz.f82))) (.seq (cO6 Tryz.f82) .ret))) /\ Tryz.f82.body = some (cM Tryz.f82) /\ Tryz.f82.ntmps = 22 /\
 Tryz.f132.body = some (cM Tryz.f132) /\ Tryz.f132.ntmps = 39 /\ Tryz.f82.results = #[.tmp 4] /\ Tryz.f132.results = #[] /\ Tryz.f82.body.isNone = false /\ (Tryz.f82.name == "runtime.NumGoroutine") = false /\ Tryz.f132.body.isNone = false /\ (Tryz.f132.name == "runtime.NumGoroutine") = false := by and_intros <;> kernel_rfl
variable {key : Int -> Int}
theorem Tr.alloc0 {w : World} {I own : Nat -> Prop} (o : Obj) : Tr w I own (w.alloc o) I own :=
 ⟨rfl, rfl, rfl, by simp, fun b hb _ => dL w o hb, fun _ h => h, fun _ h => .inl h, fun _ h => .inl h, fun a ha => World.frozen?_of_block (dL w o ha), qg _⟩
theorem KA.alloc0 (w : World) (o : Obj) : KA w (w.alloc o) := ⟨by simp, fun b hb => dL w o hb⟩
theorem zxa (hk : ∀ x, 0 <= key x) (hT : ∀ r : Int, (-2147483648 <= r /\ r <= 2147483647) -> PCall qa 71 [.ptr ts, .int .i32 r] fun v => v = .int .i64 (key r)) (hc : lF (.ptr ts) key) (L : List Int) (hr : R32 L) (hL : L.length < 1000000000000)
 {w3 : World} {I3 : Nat -> Prop} {G3 : Nat -> Pl} {a3 : Act} {v12 : LV} (hs3 : SRel w3 I3 G3 [(2, .box 0 0), (5, .box 2 0), (12, v12)] (aP nl (.ptr ts) (aA L)) 22 a3) (rec : Loop) (r1 : rec.state = .ready) (r2 : rec.pending = none) (r3 : rec.tmps = a3.tmps) (r4 : rec.params = #[13, 14])
 (r5 : rec.assign = iT (dH Tryz.f82)) (r6 : rec.body = iU (dH Tryz.f82)) (vs : Array Value) (hvsz : vs.size = 2) (hvs : ∀ (k : Nat) v, [LV.box 4 0, LV.box 3 0][k]? = some v -> LRel w3 I3 G3 (aP nl (.ptr ts) (aA L)) v (vs.getD k undef)) :
 Calls qa 132 (#[Value.func (.yield (w3.heap.size + 1)) #[] #[]] ++ vs) ((w3.alloc (.deferred (some []))).alloc (.loop rec)) fun e w4 => (∃ v, e = .returned v) /\ ∃ I4 G4, HRel w4 I4 G4 (aP nl (.ptr ts) (aA (c5 key L))) /\
  ZR w3 I3 G3 (aP nl (.ptr ts) (aA L)) (w3.heap.size + 1) w3.heap.size rec w4 I4 G4 (aP nl (.ptr ts) (aA (c5 key L))) := by
 obtain ⟨k1, k2, k3, k4, k5, k6, k7, k8, k9, k10, k11⟩ := zdr;obtain ⟨W1, hW1⟩ : ∃ W1, W1 = (w3.alloc (.deferred (some []))).alloc (.loop rec) := ⟨_, rfl⟩;rw [<- hW1];have tA : Tr w3 I3 (aS (aP nl (.ptr ts) (aA L)) G3) W1 I3 (aS (aP nl (.ptr ts) (aA L)) G3) := by rw [hW1]; exact (Tr.alloc0 _).trans (Tr.alloc0 _)
 have ka : KA w3 W1 := by rw [hW1]; exact (KA.alloc0 _ _).trans (KA.alloc0 _ _)
 have hl1 : W1.heap[w3.heap.size + 1]? = some (.loop rec) := by rw [hW1]; have := World.alloc_heap_new (w3.alloc (.deferred (some []))) (.loop rec); rwa [World.size_alloc] at this
 have hD1 : W1.heap[w3.heap.size]? = some (.deferred (some [])) := by rw [hW1]; exact (dL _ _ (by simp)).trans (World.alloc_heap_new w3 _)
 have z1 : ZR w3 I3 G3 (aP nl (.ptr ts) (aA L)) (w3.heap.size + 1) w3.heap.size rec W1 I3 G3 (aP nl (.ptr ts) (aA L)) := ⟨(TrH.same tA).toN, hl1, hD1, fun h => by have := hs3.hh.cl _ h; omega, fun h => by have := hs3.hh.cl _ h; omega⟩;have hRd := zw6 hc hs3 rec r1 r2 r3 r4 r5 r6;have hwalk := zw5 hk hT (fun w I G h w' I' G' h' z hh _ t => z.step hh t) L hRd hr hL
 have hsW : SRel W1 I3 G3 (fI [.pv (.raw (Value.func (.yield (w3.heap.size + 1)) #[] #[])), .box 4 0, .box 3 0] 0) (aP nl (.ptr ts) (aA L)) 39 { tmps := (#[Value.func (.yield (w3.heap.size + 1)) #[] #[]] ++ vs) ++ qam (39 - (#[Value.func (.yield (w3.heap.size + 1)) #[] #[]] ++ vs).size) undef, defers := [] } := by
  obtain ⟨y, hy⟩ : ∃ y, y = Value.func (.yield (w3.heap.size + 1)) #[] #[] := ⟨_, rfl⟩;rw [<- hy]
  obtain ⟨x0, x1, rfl⟩ : ∃ x0 x1, vs = #[x0, x1] := by
   obtain ⟨l⟩ := vs
   match l, hvsz with
   | [a, b], _ => exact ⟨a, b, rfl⟩
  have hk : Keeps w3 I3 W1 I3 := ⟨fun b _ hb => ka.2 b hb, fun b hb _ => hb⟩;have h1 := (hvs 0 _ rfl).mono hk (.refl _ _);have h2 := (hvs 1 _ rfl).mono hk (.refl _ _);have e0 : ∀ r : Array Value, (#[y] ++ #[x0, x1] ++ r).getD 0 undef = y := fun r => by rw [qo, qw (by simp)]; rfl
  have e1 : ∀ r : Array Value, (#[y] ++ #[x0, x1] ++ r).getD 1 undef = x0 := fun r => by rw [qo, qw (by simp)]; rfl
  have e2 : ∀ r : Array Value, (#[y] ++ #[x0, x1] ++ r).getD 2 undef = x1 := fun r => by rw [qo, qw (by simp)]; rfl
  refine ⟨hs3.hh.ka ka, ?_, by simp⟩
  have he : ERel W1 I3 G3 (aP nl (.ptr ts) (aA L)) [(0, .pv (.raw y)), (1, .box 4 0), (2, .box 3 0)] (#[y] ++ #[x0, x1] ++ qam (39 - (#[y] ++ #[x0, x1]).size) undef) :=
   ((ERel.nil _ _ _ _ _).cons (s := 2) (v := .box 3 0) (by rw [e2]; exact h2)).cons (s := 1) (v := .box 4 0) (by rw [e1]; exact h1) |>.cons (s := 0) (v := .pv (.raw y)) (by rw [e0]; exact .pv _ _ (.raw _))
  exact he
 refine calls_of_wp Tryz.func132 k4 ?_;rw [k5];refine hwalk W1 I3 G3 _ _ hsW z1 ?_;rintro x e' _ w4 I4 G4 a4 ⟨rfl, rfl⟩ hs4 hd4 z4;exact ⟨hd4, _, results_none k7 _ _ _, ⟨_, rfl⟩, I4, G4, hs4.hh, z4⟩
theorem zxb (hk : ∀ x, 0 <= key x) (L : List Int) {w w3 w4 : World} {I I3 I4 : Nat -> Prop} {G G3 G4 : Nat -> Pl} {a3 : Act} {v12 : LV} (hs3 : SRel w3 I3 G3 [(2, .box 0 0), (5, .box 2 0), (12, v12)] (aP nl (.ptr ts) (aA L)) 22 a3) (hd30 : a3.defers = []) {rec : Loop}
 (ht3 : Tr w I (aS [] G) w3 I3 (aS (aP nl (.ptr ts) (aA L)) G3)) (hh4 : HRel w4 I4 G4 (aP nl (.ptr ts) (aA (c5 key L)))) (z4 : ZR w3 I3 G3 (aP nl (.ptr ts) (aA L)) (w3.heap.size + 1) w3.heap.size rec w4 I4 G4 (aP nl (.ptr ts) (aA (c5 key L)))) :
 (Code.seq (cO6 Tryz.f82) .ret).wp qa (bodyPostM Fence.wide 0 qa Tryz.f82 fun e w' => ∃ cv r h' I' G', e = .returned cv /\ (r = .own 0 /\ h' = [.sl (21, 1) false nl (aA (c5 key L))]) /\ HRel w' I' G' h' /\ LRel w' I' G' h' r cv /\ TrH w I G [] w' I' G' h')
  { tmps := a3.tmps, defers := [{ target := .collected w3.heap.size, args := #[] }] ++ a3.defers } (w4.putObj (w3.heap.size + 1) (.loop { rec with state := .exhausted })) := by
 obtain ⟨k1, k2, k3, k4, k5, k6, k7, k8, k9, k10, k11⟩ := zdr;have hll := (s9 (key := key) hk L).len;have n4 := mH hh4 z4.hl rfl;have l4 := (Array.getElem?_eq_some_iff.1 z4.hl).1
 have z5 : ZR w3 I3 G3 (aP nl (.ptr ts) (aA L)) (w3.heap.size + 1) w3.heap.size { rec with state := .exhausted } (w4.putObj (w3.heap.size + 1) (.loop { rec with state := .exhausted })) I4 G4 (aP nl (.ptr ts) (aA (c5 key L))) :=
  ⟨z4.t.off (by omega) _, World.putObj_heap_same l4, (World.putObj_heap_other (by omega)).trans z4.hD, z4.nl, z4.nD⟩
 have hs5 : SRel (w4.putObj (w3.heap.size + 1) (.loop { rec with state := .exhausted })) I4 G4 [(2, .box 0 0), (5, .box 2 0)] (aP nl (.ptr ts) (aA (c5 key L))) 22 { tmps := a3.tmps, defers := [{ target := .collected w3.heap.size, args := #[] }] ++ a3.defers } :=
  ⟨hh4.off _ z4.nl n4, fun i v hi => ((hs3.he.mono (tO hs3.hh z4.t.t) (zdo (by simp [hll]) (xG z4.t))).mono (Keeps.off z4.nl _) (.refl _ _)) i v ((LeE.le (e' := [(2, .box 0 0), (5, .box 2 0)]) ⟨rfl, rfl, trivial⟩) i v hi), hs3.hn⟩
 refine wp_seq (xH (E := [(4, .own 1)]) (Hh := aP nl (.ptr ts) (aA (c5 key L))) (iL (Eq.mpr (eB6 _) ⟨rfl, rfl, rfl⟩)) hs5 fun w6 I6 G6 a6 hs6 hd6 ht6 => ?_);have z6 := z5.step hs5.hh ht6;refine wp_ret ?_;show LeavesInM Fence.wide 0 qa _ a6.tmps _ a6.defers .returning w6;rw [hd6, hd30];refine ⟨by simp, .inl ⟨_, _, rfl, run_takeDeferred z6.hD, ?_⟩⟩;refine ⟨_, results_tmp k6 _ _ _, ?_⟩;have hh7 := hs6.hh.off (.deferred none) z6.nD (mH hs6.hh z6.hD rfl);have hv7 : LRel (w6.putObj w3.heap.size (.deferred none)) I6 G6 (aP nl (.ptr ts) (aA (c5 key L))) (.own 1) (a6.tmps.getD 4 undef) := LRel.mono (hs6.he 4 _ rfl) (Keeps.off z6.nD (.deferred none)) (.refl _ _);have hs7 : SRel (w6.putObj w3.heap.size (.deferred none)) I6 G6 [(4, .own 1)] (aP nl (.ptr ts) (aA (c5 key L))) 22 a6 := ⟨hh7, (ERel.nil _ _ _ _ _).cons (s := 4) (v := .own 1) hv7, hs6.hn⟩;obtain ⟨s1, s2⟩ := hs7.sub [1] [] rfl;have g2 := LRel.mapV (sF (os := [1])) (Keeps.refl _ _) hv7;have ht := (ht3.trans z6.t.t).off (l := w3.heap.size) ht3.size (.deferred none);exact ⟨_, .own 0, _, I6, _, rfl, ⟨rfl, rfl⟩, s1.hh, g2, ⟨ht.trans (Tr.less s2), qai _, fun o ob ho => by simp at ho⟩⟩
theorem zxc (hk : ∀ x, 0 <= key x) (hT : ∀ r : Int, (-2147483648 <= r /\ r <= 2147483647) -> PCall qa 71 [.ptr ts, .int .i32 r] fun v => v = .int .i64 (key r)) (hc : lF (.ptr ts) key) (L : List Int) (hr : R32 L) (hL : L.length < 1000000000000) :
 ACall qa 82 [.pv (.ptr ts), .pv (.sl nl fl (aA L))] [] fun r h' => r = .own 0 /\ h' = [.sl (21, 1) false nl (aA (c5 key L))] := by
 obtain ⟨k1, k2, k3, k4, k5, k6, k7, k8, k9, k10, k11⟩ := zdr;refine ⟨⟨_, Tryz.func82, k8, k9⟩, fun w I G cargs hh hsz hrel => ?_⟩;simp only [qf, qz, qt] at hsz
 have hn : nl = true -> L = [] := fun hn => by
  subst hn;have h1 := hrel 1 _ rfl;generalize cargs.getD 1 undef = c1 at h1;cases h1 with
  | pv _ _ h1 =>
    generalize hes : aA L = es at h1;cases h1 with
    | slnil => exact List.map_eq_nil_iff.1 hes
 refine (callsIn_wide (n := 0)).1 (callsIn_of_wp_marks Tryz.func82 k2 trivial (wpIn_wide.2 ?_));rw [k3]
 have hs : SRel w I G (fI [.pv (.ptr ts), .pv (.sl nl fl (aA L))] 0) [] 22 { tmps := cargs ++ qam (22 - cargs.size) undef, defers := [] } := by
  refine ⟨hh, fun i v hi => ?_, by simp; omega⟩;obtain ⟨_, h2⟩ := pU hi;rw [Nat.sub_zero] at h2;have hlt : i < cargs.size := by have := (List.getElem?_eq_some_iff.1 h2).1; simp at this; omega
  have := hrel i v h2
  have e1 : (cargs ++ qam (22 - cargs.size) undef).getD i undef = cargs.getD i undef := by
   rw [qo, qo, qw hlt]
  simp only [e1];exact VRel.of_plain this
 rw [k1]
 -- what begins it
 refine wp_seq (xH (E := [(1, .pv (.sl nl fl (aA L))), (2, .box 0 0), (4, .pv (.sl true true []))]) (Hh := [.box [.pv (.ptr ts)]]) (iL (Eq.mpr (eB0 _) ⟨rfl, rfl, rfl⟩)) hs fun w1 I1 G1 a1 hs1 hd1 ht1 => ?_);have hs1' := hs1.le (LeE.le (e' := [(1, .pv (.sl nl fl (aA L))), (2, .box 0 0)]) ⟨rfl, rfl, trivial⟩);refine wp_seq (xH (E := [(2, .box 0 0), (5, .box 2 0)]) (Hh := [.box [.pv (.ptr ts)], .sl (21, 1) false nl (aA L), .box [.own 1]]) (iL (Eq.mpr (eB1 _) ((zdp nl fl (aA L) (fun h => by rw [hn h]; rfl) ?_).mono fun r h' hq => ⟨(), hq, trivial, rfl, rfl, rfl⟩))) hs1' fun w2 I2 G2 a2 hs2 hd2 ht2 => ?_)
 ·exact ⟨rfl, .inl rfl, fun e he => (by cases he), fun e he => by obtain ⟨x, _, rfl⟩ := List.mem_map.1 (List.mem_of_mem_head? he); rfl, by simp; omega⟩
 refine wp_seq (wp_seq (xH (E := [(2, .box 0 0), (5, .box 2 0), (12, .fn 132 [.box 4 0, .box 3 0])]) (Hh := aP nl (.ptr ts) (aA L)) (iL (Eq.mpr (eB2 _) (zw9 nl ts (aA L) ?_))) hs2 fun w3 I3 G3 a3 hs3 hd3 ht3 => ?_))
 ·exact ⟨(), ⟨rfl, rfl⟩, ⟨⟨rfl, rfl, rfl⟩, trivial⟩, rfl, rfl, rfl⟩
 -- the loop
 have hd30 : a3.defers = [] := hd3.trans (hd2.trans hd1);obtain ⟨q1, q2, q3, _, _, _⟩ := zlw;refine wp_block ?_;rw [q3]
 obtain ⟨vs, hv12, hvsz, hvs⟩ : ∃ vs : Array Value, a3.tmps.getD 12 undef = .func (.func 132) #[] vs /\ vs.size = 2 /\ ∀ (k : Nat) v, [LV.box 4 0, LV.box 3 0][k]? = some v -> LRel w3 I3 G3 (aP nl (.ptr ts) (aA L)) v (vs.getD k undef) := by
  have := hs3.he 12 _ rfl;generalize a3.tmps.getD 12 undef = cv at this;cases this with
  | fn f cs vs h1 h6 => exact ⟨vs, rfl, h1, h6⟩
 refine (wpIn_wide (n := 0)).1 (wpIn_rangeFunc (F := Fence.wide) fun fn _ => ?_);obtain ⟨rec, hrec⟩ : ∃ rec : Loop, rec = { state := .ready, pending := none, fn := fn, tmps := a3.tmps, params := #[13, 14], assign := iT (dH Tryz.f82), body := iU (dH Tryz.f82), defers := w3.heap.size } := ⟨_, rfl⟩
 refine ⟨w3.heap.size + 1, [{ target := .collected w3.heap.size, args := #[] }], (w3.alloc (.deferred (some []))).alloc (.loop rec), { target := .fn (.func 132) vs, args := #[.func (.yield (w3.heap.size + 1)) #[] #[]] }, (w3.alloc (.deferred (some []))).alloc (.loop rec), 132,
  #[.func (.yield (w3.heap.size + 1)) #[] #[]] ++ vs, (w3.alloc (.deferred (some []))).alloc (.loop rec), ?_, ?_, fun _ _ => trivial, ?_, fun x => (by cases x), ?_⟩
 ·rw [hrec]; exact run_enterLoop_outer _ _ _ _ _
 ·have he : a3.eval (.tmp 12) = .func (.func 132) #[] vs := hv12;simp only [resolve, he];simp [go_sem]
 ·simp only [invoke];exact yW ⟨_, Tryz.func132, k10, k11⟩
 refine (callsIn_wide).2 (Calls.mono (zxa hk hT hc L hr hL hs3 rec (by rw [hrec]) (by rw [hrec]) (by rw [hrec]) (by rw [hrec]) (by rw [hrec]) (by rw [hrec]) vs hvsz hvs) ?_);rintro e w4 ⟨⟨v, rfl⟩, I4, G4, hh4, z4⟩;have hp : rec.pending = none := by rw [hrec]
 refine ⟨none, _, (run_endLoop z4.hl (by rw [hrec]; simp)).trans (congrArg (fun j => Result.ok j _) hp), ?_⟩;exact zxb hk L hs3 hd30 ((ht1.t.trans ht2.t).trans ht3.t) hh4 z4
end
end Go.Eng
namespace Go.Eng
open Go Go.Proofs Go.Eng.Rows
abbrev dlN := stN 89
section
variable {E C : LL} {nn fl nl : Bool} {k n : Int}
theorem zxd (K : Env -> Hp -> Prop) : aM qa (fun _ => none) 49 (qJ Tryz.f37).toList (qJ Tryz.f37).toList (cX nn fl C k) (dlN nl E) K = K ((6, .pv (.sl true true [])) :: cX nn fl C k) (dlN nl E) := by kernel_rfl
theorem zxe (K : Env -> Hp -> Prop) : aM qa (fun _ => none) 49 (qK Tryz.f37).toList (qK Tryz.f37).toList (cX nn fl C k) (dlN nl E) K =
 K ((7, .pv (.int .i64 (i64.wrap ((E.length : Int) - 1)))) :: (10, .pv (.int .i64 (i64.wrap ((E.length : Int) - 1)))) :: (9, .pv (.int .i64 (E.length : Int))) :: (8, .own 0) :: cX nn fl C k) (dlN nl E) := by kernel_rfl
theorem zxf (K : Env -> Hp -> Prop) : aM qa (fun _ => none) 49 (qL Tryz.f37).toList (qL Tryz.f37).toList (dE nn fl C k n) (dlN nl E) K =
 if decide (n >= 0) = true then aD E n 3 /\ ∃ n1 : Int, (qc 0 (E.getD n.toNat [])).head? = some (.int .i64 n1) /\
  K ((21, .pv (.bool (n1 == k))) :: (20, .spec 13 true (.pv (.bool (n1 == k)))) :: (19, .spec 13 true (.pv (.int .i64 k))) :: (18, .pv (.int .i64 n1)) :: (13, .pv (.bool true)) :: (17, .elt 0 n.toNat 0) :: (13, .pv (.bool true)) :: (16, .elt 0 n.toNat 0) :: (13, .pv (.bool true)) ::
   (15, .spec 13 true (.pv (.int .i64 n))) :: (14, .spec 13 true (.own 0)) :: (13, .pv (.bool (decide (n >= 0)))) :: (12, .pv (.bool (decide (n >= 0)))) :: (11, .pv (.int .i64 n)) :: dE nn fl C k n) (dlN nl E)
 else K ((21, .pv (.bool false)) :: (20, .pv .unit) :: (13, .pv (.bool false)) :: (19, .spec 13 true (.pv (.int .i64 k))) :: (18, .pv .unit) :: (13, .pv (.bool false)) :: (17, .pv .unit) :: (13, .pv (.bool false)) :: (16, .pv .unit) :: (13, .pv (.bool false)) ::
  (15, .spec 13 true (.pv (.int .i64 n))) :: (14, .spec 13 true (.own 0)) :: (13, .pv (.bool (decide (n >= 0)))) :: (12, .pv (.bool (decide (n >= 0)))) :: (11, .pv (.int .i64 n)) :: dE nn fl C k n) (dlN nl E) := by kernel_rfl
abbrev dlN3 := qI 89
theorem zxg (K : Env -> Hp -> Prop) : aM qa zbf 49 (oH Tryz.f37).toList (((oH Tryz.f37).toList.drop 0).take 4) (cX nn fl C k) (dlN nl E) K =
 ACall qa 47 [.pv (.sl nn fl C)] [] fun r h' => ∃ _ : Unit, (r = .own 0 /\ h' = [.sl (21, 1) false nn C]) /\ True /\
  K ((45, .own 2) :: (44, .pv (.sl nn fl C)) :: (43, .pv (.int .i64 k)) :: (42, .own 0) :: cX nn fl C k) [.sl (89, 3) true nl E, .dead, .sl (21, 1) false nn C] := by kernel_rfl
theorem zxh (ad : Addr) (l c : Nat) (K : Env -> Hp -> Prop) : aM qa (fun _ => none) 49 (oH Tryz.f37).toList (((oH Tryz.f37).toList.drop 4).take 4) [(45, .pv (.raw (.slice (some ad) l c))), (42, .own 0), (43, .pv (.int .i64 k))] (dlN3 true nl E C) K =
 ((aU [[.int .i64 k, .int .i64 1, .raw (.slice (some ad) l c)]] 3 /\ (E.length + 1) * 40 <= 140737488355328) /\
   K [(6, .own 0), (48, .own 0), (47, .pv (.sl false true [[.int .i64 k, .int .i64 1, .raw (.slice (some ad) l c)]])), (46, .pv (.agg [.int .i64 k, .int .i64 1, .raw (.slice (some ad) l c)])), (45, .pv (.raw (.slice (some ad) l c))), (42, .bot), (43, .pv (.int .i64 k))]
    (dlN3 true (nl && false) (E ++ [[.int .i64 k, .int .i64 1, .raw (.slice (some ad) l c)]]) C)) := by kernel_rfl
theorem zly : (oH Tryz.f37).size = 8 /\ Tryz.f37.results.toList = [.tmp 6] /\ mK qa 37 :=
 ⟨by kernel_rfl, by kernel_rfl, ⟨Tryz.f37, Tryz.func37, by kernel_rfl, by kernel_rfl⟩⟩
end
theorem zlz {w : World} {I : Nat -> Prop} {nn fl : Bool} {es : LL} {cv : Value} (h : Rep w I (.sl nn fl es) cv) (hne : es ≠ []) : nn = false := by
 cases h <;> first | rfl | exact absurd rfl hne
theorem zl0 {tS : Nat} {w : World} {I : Nat -> Prop} {G : Nat -> Pl} {S : List DStep} {x v : Value} (r : iS tS 21 S x v w I G) : ∃ I2 nl, (nl = true -> S = []) /\ HRel w I2 G (stN tS nl (S.map aQ)) /\ LRel w I2 G (stN tS nl (S.map aQ)) (.own 0) v /\ TrH w I G (d0 tS 21 S x) w I2 G (stN tS nl (S.map aQ)) := by
 rcases mB S with rfl | ⟨S, s, rfl⟩
 ·exact ⟨I, true, fun _ => rfl, r.hh, r.hv, .refl _ _ _ _⟩
 ·obtain ⟨I2, g1, g2, g3⟩ := ziv r;refine ⟨I2, false, (fun h => by cases h), ?_⟩;rw [qu];exact ⟨g1, g2, g3⟩
theorem zl1 {tS : Nat} {w : World} {I : Nat -> Prop} {G : Nat -> Pl} {nl : Bool} {E C : LL} (hh : HRel w I G (qI tS true nl E C)) : ∃ G', HRel w I G' [.sl (tS, 3) true nl E, .sl (21, 1) true false C] /\ (∀ v, LRel w I G (qI tS true nl E C) (.own 0) v -> LRel w I G' [.sl (tS, 3) true nl E, .sl (21, 1) true false C] (.own 0) v) /\
 (∀ v, LRel w I G (qI tS true nl E C) (.own 2) v -> LRel w I G' [.sl (tS, 3) true nl E, .sl (21, 1) true false C] (.own 1) v) /\ ∀ b, aS [.sl (tS, 3) true nl E, .sl (21, 1) true false C] G' b -> aS (qI tS true nl E C) G b := by
 refine ⟨fun k => match k with | 0 => G 0 | _ => G 2, ⟨fun i x hx => ?_, fun i j x y hx ax hy ay hb => ?_, fun i x hx ax => ?_, hh.cl⟩, fun v hv => ?_, fun v hv => ?_, ?_⟩
 ·match i, hx with
  | 0, hx => cases hx; have := hh.obs 0 _ rfl; cases nl <;> exact this
  | 1, hx => cases hx; exact hh.obs 2 _ rfl
 ·match i, hx, j, hy with
  | 0, hx, 0, hy => rfl
  | 1, hx, 1, hy => rfl
  | 0, hx, 1, hy => cases hx; cases hy; exact absurd (hh.sep 0 2 _ _ rfl ax rfl ay hb) (by decide)
  | 1, hx, 0, hy => cases hx; cases hy; exact absurd (hh.sep 2 0 _ _ rfl ax rfl ay hb) (by decide)
 ·match i, hx with
  | 0, hx => cases hx; exact hh.nI 0 _ rfl ax
  | 1, hx => cases hx; exact hh.nI 2 _ rfl ax
 ·cases hv with
  | ownNil _ _ _ _ g1 => cases g1; exact .ownNil 0 _ _ _ rfl
  | own _ _ _ es ad g0 g1 => cases g1; exact .own 0 _ _ _ ad g0 rfl
 ·cases hv with
  | ownNil _ _ _ _ g1 => cases g1
  | own _ _ _ es ad g0 g1 => cases g1; exact .own 1 _ _ _ ad g0 rfl
 ·rintro b ⟨o, ob, h1, h2, h3⟩
  match o, h1 with
  | 0, h1 => cases h1; exact ⟨0, _, rfl, h2, h3⟩
  | 1, h1 => cases h1; exact ⟨2, _, rfl, h2, h3⟩
theorem zl2 (S : List DStep) (x v cv : Value) (k : Int) (c : List Int) (nn fl : Bool) {w : World} {I : Nat -> Prop} {G : Nat -> Pl} (r : iS 89 21 S x v w I G) (hc : Rep w I (.sl nn fl (aA c)) cv) (hne : c ≠ []) (hcl : c.length < 1000000000) (hS : S.length < 1000000000)
 (hk : ∀ S' s, S = S' ++ [s] -> s.kind ≠ k) :
 Calls qa 37 #[v, .int .i64 k, cv] w fun e w' => ∃ v' x' I' G', e = .returned v' /\ iS 89 21 (S ++ [⟨k, 1, c⟩]) x' v' w' I' G' /\ TrH w I G (d0 89 21 S x) w' I' G' (d0 89 21 (S ++ [⟨k, 1, c⟩]) x') := by
 obtain ⟨I0, nl, hnl, hh, hv, t0⟩ := zl0 r;have hnn : nn = false := zlz hc (by cases c with | nil => exact absurd rfl hne | cons => simp [aA])
 subst hnn;have hc : Rep w I0 (.sl false fl (aA c)) cv := hc.mono (fun _ _ _ => rfl) (fun b hb _ => t0.t.i1 b hb);obtain ⟨q0, q1, q2, q3, q4, q5, q6⟩ := zix;obtain ⟨z1, z2, z3⟩ := zly;refine sU (args := [.own 0, .pv (.int .i64 k), .pv (.sl false fl (aA c))]) Tryz.func37 ziw (qac (by kernel_rfl)) hh rfl (fun i u hi => ?_) fun a Qx hs hd hq => ?_
 ·match i, hi with
  | 0, hi => cases hi; exact hv
  | 1, hi => cases hi; exact .pv _ _ (.int _ _)
  | 2, hi => cases hi; exact .pv _ _ hc
 have hs : SRel w I0 G (cX false fl (aA c) k) (dlN nl (S.map aQ)) 49 a := hs;refine wp_seq (eL q0 (by rw [zxd]; exact ⟨rfl, rfl⟩ : aM qa (fun _ => none) 49 _ _ _ _ (fun e' h' => e' = _ /\ h' = _)) hs ?_);rintro _ _ w1 I1 G1 a1 ⟨rfl, rfl⟩ hs1 hd1 ht1;refine wp_seq (wp_seq (eL q1 (by rw [zxe, qf]; exact ⟨rfl, rfl⟩ : aM qa (fun _ => none) 49 _ _ _ _ (fun e' h' => e' = _ /\ h' = _)) (hs1.le (e' := cX false fl (aA c) k) (LeE.le ⟨rfl, rfl, rfl, trivial⟩)) ?_));rintro _ _ w2 I2 G2 a2 ⟨rfl, rfl⟩ hs2 hd2 ht2;have hw : i64.wrap ((S.length : Int) - 1) = (S.length : Int) - 1 := wz;rw [hw] at hs2;have hs2 := hs2.le (e' := dE false fl (aA c) k ((S.length : Int) - 1)) (LeE.le ⟨rfl, rfl, rfl, rfl, trivial⟩)
 refine wp_seq (eL q2 (K := fun e' h' => ∃ e0, e' = (21, .pv (.bool false)) :: e0 /\ LeE (dE false fl (aA c) k ((S.length : Int) - 1)) e' /\ h' = dlN nl (S.map aQ)) (by
  rw [zxf];rcases mB S with rfl | ⟨S', s, rfl⟩
  ·rw [if_neg (by simp)];exact ⟨_, rfl, ⟨rfl, rfl, rfl, rfl, trivial⟩, rfl⟩
  ·have hl : ((S' ++ [s]).length : Int) - 1 = (S'.length : Nat) := by simp
   rw [hl, if_pos (by simp), qd, qu];have hg := qM S' (aQ s);refine ⟨qN _ _ _ (by simp) rfl, s.kind, by show (qc 0 ((S'.map aQ ++ [aQ s]).getD S'.length [])).head? = _; rw [hg]; rfl, ?_⟩;have hb : (s.kind == k) = false := by simpa using hk S' s rfl
   rw [hb]
   exact ⟨_, rfl, ⟨rfl, rfl, rfl, rfl, trivial⟩, rfl⟩) hs2 ?_)
 rintro _ _ w3 I3 G3 a3 ⟨e0, rfl, le0, rfl⟩ hs3 hd3 ht3;refine wp_cond (show a3.eval (.tmp 21) = .bool false from (hs3.he 21 _ rfl).bool_eq) ?_;have hs3 := (hs3.le le0.le).le (e' := cX false fl (aA c) k) (LeE.le ⟨rfl, rfl, rfl, trivial⟩);refine wp_skip ?_;have t3 := ((t0.trans ht1).trans ht2).trans ht3
 refine wp_seq (sT (Φ := fun a' w' => ∃ x' I' G', SRel w' I' G' [(6, .own 0)] (dlN3 true false (S.map aQ ++ [bO ⟨k, 1, c⟩ x']) (aA c)) 49 a' /\ LRel w' I' G' (dlN3 true false (S.map aQ ++ [bO ⟨k, 1, c⟩ x']) (aA c)) (.own 2) x' /\ a'.defers = [] /\
  Tr w I (aS (d0 89 21 S x) G) w' I' (aS (dlN3 true false (S.map aQ ++ [bO ⟨k, 1, c⟩ x']) (aA c)) G')) ?_ ?_)
 ·refine OpsN.step q6 4 (by rw [z1]; omega) (K := fun e' h' => LeE [(45, .own 2), (42, .own 0), (43, .pv (.int .i64 k))] e' /\ h' = dlN3 true nl (S.map aQ) (aA c)) (by
   rw [zxg];refine (zdp false fl (aA c) (fun h => by cases h) ?_).mono ?_
   ·show gZ true [] (aA c) 1 4;exact ⟨rfl, .inl rfl, fun e he => (by cases he), kB (enc := fun n => [.int .i32 n]) (fun _ => rfl) c, by rw [qO, qt]; omega⟩
   ·rintro r h' ⟨rfl, rfl⟩
    exact ⟨(), ⟨rfl, rfl⟩, trivial, ⟨rfl, rfl, rfl, trivial⟩, rfl⟩) hs3 ?_
  rintro e4 _ w4 I4 G4 a4 ⟨le4, rfl⟩ hs4 hd4 ht4;have hs4 := hs4.le le4.le;have hx4 : LRel w4 I4 G4 (dlN3 true nl (S.map aQ) (aA c)) (.own 2) (a4.tmps.getD 45 undef) := hs4.he 45 _ rfl;obtain ⟨ad, l, c0, ex⟩ := wL hx4 rfl;rw [ex] at hx4;have hs5 := (hs4.view (d := 45) (v := .pv (.raw (.slice (some ad) l c0))) (by rw [ex]; exact .pv _ _ (.raw _))).le (e' := [(45, .pv (.raw (.slice (some ad) l c0))), (42, .own 0), (43, .pv (.int .i64 k))]) (LeE.le ⟨rfl, rfl, rfl, trivial⟩)
  refine OpsN.step (k := 0 + 4) q6 4 (by rw [z1]; omega) (K := fun e' h' => LeE [(6, .own 0)] e' /\ h' = dlN3 true false (S.map aQ ++ [bO ⟨k, 1, c⟩ (.slice (some ad) l c0)]) (aA c)) (by
   rw [zxh];refine ⟨⟨fun e he => by cases he; rfl, by rw [qf]; omega⟩, ⟨rfl, trivial⟩, ?_⟩
   rw [qau]; rfl) hs5 ?_
  rintro e6 _ w6 I6 G6 a6 ⟨le6, rfl⟩ hs6 hd6 ht6;refine OpsN.last (by rw [z1]; omega) ⟨_, I6, G6, hs6.le le6.le, fV hx4 rfl rfl rfl ht6, ?_, ((t3.trans ht4).trans ht6).t⟩;rw [hd6, hd4, hd3, hd2, hd1, hd]
 rintro a8 w8 ⟨x', I8, G8, hs8, hx8, hd8, t8⟩;obtain ⟨u, hu, cv', g1, g2⟩ := mU (P := qa) (fn := Tryz.f37) (K := fun u => u = .own 0) hs8.hh hs8.he (by rw [z2]; exact rfl);subst hu;obtain ⟨G9, p1, p2, p3, p4⟩ := zl1 hs8.hh;refine wp_ret ((hq a8 w8 hd8 ⟨cv', g1, cv', x', I8, G9, rfl, ⟨?_, ?_, fun _ => ?_⟩, ⟨?_, ?_, fun o ob' ho h1 h2 => ?_⟩⟩).2)
 ·rw [dW]; exact p1
 ·rw [dW]; exact p2 _ g2
 ·rw [dW]; exact p3 _ hx8
 ·rw [dW]; exact t8.trans (Tr.less p4)
 ·rw [dW];rcases mB S with rfl | ⟨S', s, rfl⟩
  ·exact qg _
  ·rw [dW]; exact qg _
 ·rw [dW] at h1
  match o, h1 with
  | 0, h1 => cases h1; cases h2
  | 1, h1 => cases h1; cases h2
theorem zds : wK qa 37 89 21 := by
 refine ⟨zly.2.2, fun w I G S x v cv k c nn fl r hc hne hcl hk hS hb => ?_⟩;rcases mB S with rfl | ⟨S', s, rfl⟩
 ·exact zl2 [] x v cv k c nn fl r hc hne hcl hS (fun S' s h => by simp at h)
 ·rw [zbd];by_cases e : s.kind = k
  ·subst e;rw [if_pos rfl];exact ztq S' s x v cv c nn fl r hc hcl (by simp at hS; omega) (hb s (by simp))
  ·rw [if_neg e]
   exact zl2 (S' ++ [s]) x v cv k c nn fl r hc hne hcl hS (fun S'' s' h => by
    have := qbk h rfl;have h2 : s = s' := by simpa using this.2
    rw [<- h2]; exact e)
abbrev drH := fL 90
abbrev drN := stN 90
abbrev drN3 := qI 90
def drM (f : Func) : Code := aL (aL (cM f))
def drT (f : Func) : Code := m7 (aL (aT (drM f)))
def qU (f : Func) : Array Oper := bD (aT (cM f))
def qV (f : Func) : Array Oper := bD (aT (aL (cM f)))
def qW (f : Func) : Array Oper := bD (aT (aT (drM f)))
def xI (f : Func) : Array Oper := bD (aT (drT f))
def xJ (f : Func) : Array Oper := bD (aT (aL (drT f)))
def xK (f : Func) : Array Oper := bD (aT (aL (aL (drT f))))
def xL (f : Func) : Array Oper := bD (aT (aL (drM f)))
def gW (f : Func) : Array Oper := bD (aT (aL (aL (drM f))))
def xM (f : Func) : Array Oper := bD (aT (aL (aL (aL (drM f)))))
theorem zl3 : Tryz.f45.body = some (.seq (.region 0 (qU Tryz.f45) false) (.seq (.region 1 (qV Tryz.f45) false) (.seq (.seq (.region 2 (qW Tryz.f45) false) (.cond (.tmp 22) (.seq (.region 3 (xI Tryz.f45) false) (.seq (.region 4 (xJ Tryz.f45) false) (.seq (.region 5 (xK Tryz.f45) false) .ret))) .skip)) (.seq (.region 6 (xL Tryz.f45) false) (.seq (.region 7 (gW Tryz.f45) false) (.seq (.region 8 (xM Tryz.f45) false) .ret)))))) := by kernel_rfl
theorem zl4 : bU (qU Tryz.f45).toList = true /\ bU (qV Tryz.f45).toList = true /\ bU (qW Tryz.f45).toList = true /\ bU (xI Tryz.f45).toList = true /\ bU (xJ Tryz.f45).toList = true /\ bU (xK Tryz.f45).toList = true /\ bU (xL Tryz.f45).toList = true /\ bU (gW Tryz.f45).toList = true /\ bU (xM Tryz.f45).toList = true := by and_intros <;> kernel_rfl
section
variable {E T C : LL} {nn fl m m2 nl : Bool} {k n : Int}
theorem zxi (K : Env -> Hp -> Prop) : aM qa (fun _ => none) 58 (qU Tryz.f45).toList (qU Tryz.f45).toList (cX nn fl C k) (drH m m2 E T) K = K ((6, .pv (.sl true true [])) :: cX nn fl C k) (drH m m2 E T) := by kernel_rfl
theorem zxj (K : Env -> Hp -> Prop) : aM qa (fun _ => none) 58 (qV Tryz.f45).toList (qV Tryz.f45).toList (cX nn fl C k) (drH m m2 E T) K = K ((7, .pv (.int .i64 (E.length : Int))) :: (10, .pv (.int .i64 (E.length : Int))) :: (9, .own 0) :: cX nn fl C k) (drH m m2 E T) := by kernel_rfl
theorem zxk (K : Env -> Hp -> Prop) : aM qa (fun _ => none) 58 (qW Tryz.f45).toList (qW Tryz.f45).toList (dE nn fl C k n) (drH m m2 E T) K =
 if (n == 0) = true then K ((22, .pv (.bool true)) :: (21, .pv .unit) :: (13, .pv (.bool true)) :: (20, .spec 13 false (.pv (.int .i64 k))) :: (19, .pv .unit) :: (13, .pv (.bool true)) :: (18, .pv .unit) :: (13, .pv (.bool true)) :: (17, .pv .unit) :: (13, .pv (.bool true)) ::
     (16, .spec 13 false (.pv (.int .i64 (i64.wrap (n - 1))))) :: (15, .spec 13 false (.pv (.int .i64 n))) :: (14, .spec 13 false (.own 0)) :: (13, .pv (.bool (n == 0))) :: (12, .pv (.bool (n == 0))) :: (11, .pv (.int .i64 n)) :: dE nn fl C k n) (drH m m2 E T)
 else aD E (i64.wrap (n - 1)) 3 /\ ∃ n1 : Int, (qc 0 (E.getD (i64.wrap (n - 1)).toNat [])).head? = some (.int .i64 n1) /\
  K ((22, .pv (.bool (n1 != k))) :: (21, .spec 13 false (.pv (.bool (n1 != k)))) :: (20, .spec 13 false (.pv (.int .i64 k))) :: (19, .pv (.int .i64 n1)) :: (13, .pv (.bool false)) :: (18, .elt 0 (i64.wrap (n - 1)).toNat 0) :: (13, .pv (.bool false)) :: (17, .elt 0 (i64.wrap (n - 1)).toNat 0) :: (13, .pv (.bool false)) ::
   (16, .spec 13 false (.pv (.int .i64 (i64.wrap (n - 1))))) :: (15, .spec 13 false (.pv (.int .i64 n))) :: (14, .spec 13 false (.own 0)) :: (13, .pv (.bool (n == 0))) :: (12, .pv (.bool (n == 0))) :: (11, .pv (.int .i64 n)) :: dE nn fl C k n) (drH m m2 E T) := by kernel_rfl
theorem zxl (K : Env -> Hp -> Prop) : aM qa (fun _ => none) 58 (qU Tryz.f45).toList (qU Tryz.f45).toList (cX nn fl C k) (drN nl E) K = K ((6, .pv (.sl true true [])) :: cX nn fl C k) (drN nl E) := by kernel_rfl
theorem zxm (K : Env -> Hp -> Prop) : aM qa (fun _ => none) 58 (qV Tryz.f45).toList (qV Tryz.f45).toList (cX nn fl C k) (drN nl E) K = K ((7, .pv (.int .i64 (E.length : Int))) :: (10, .pv (.int .i64 (E.length : Int))) :: (9, .own 0) :: cX nn fl C k) (drN nl E) := by kernel_rfl
theorem zxn (K : Env -> Hp -> Prop) : aM qa (fun _ => none) 58 (qW Tryz.f45).toList (qW Tryz.f45).toList (dE nn fl C k n) (drN nl E) K =
 if (n == 0) = true then K ((22, .pv (.bool true)) :: (21, .pv .unit) :: (13, .pv (.bool true)) :: (20, .spec 13 false (.pv (.int .i64 k))) :: (19, .pv .unit) :: (13, .pv (.bool true)) :: (18, .pv .unit) :: (13, .pv (.bool true)) :: (17, .pv .unit) :: (13, .pv (.bool true)) ::
     (16, .spec 13 false (.pv (.int .i64 (i64.wrap (n - 1))))) :: (15, .spec 13 false (.pv (.int .i64 n))) :: (14, .spec 13 false (.own 0)) :: (13, .pv (.bool (n == 0))) :: (12, .pv (.bool (n == 0))) :: (11, .pv (.int .i64 n)) :: dE nn fl C k n) (drN nl E)
 else aD E (i64.wrap (n - 1)) 3 /\ ∃ n1 : Int, (qc 0 (E.getD (i64.wrap (n - 1)).toNat [])).head? = some (.int .i64 n1) /\
  K ((22, .pv (.bool (n1 != k))) :: (21, .spec 13 false (.pv (.bool (n1 != k)))) :: (20, .spec 13 false (.pv (.int .i64 k))) :: (19, .pv (.int .i64 n1)) :: (13, .pv (.bool false)) :: (18, .elt 0 (i64.wrap (n - 1)).toNat 0) :: (13, .pv (.bool false)) :: (17, .elt 0 (i64.wrap (n - 1)).toNat 0) :: (13, .pv (.bool false)) ::
   (16, .spec 13 false (.pv (.int .i64 (i64.wrap (n - 1))))) :: (15, .spec 13 false (.pv (.int .i64 n))) :: (14, .spec 13 false (.own 0)) :: (13, .pv (.bool (n == 0))) :: (12, .pv (.bool (n == 0))) :: (11, .pv (.int .i64 n)) :: dE nn fl C k n) (drN nl E) := by kernel_rfl
theorem zxo (K : Env -> Hp -> Prop) : aM qa (fun _ => none) 58 (xL Tryz.f45).toList (xL Tryz.f45).toList (dE nn fl C k n) (drH m m2 E T) K =
 (aD E (i64.wrap (n - 1)) 3 /\ ∃ n1 : Int, (qc 1 (E.getD (i64.wrap (n - 1)).toNat [])).head? = some (.int .i64 n1) /\ aD E (i64.wrap (n - 1)) 3 /\ (1 = 1 /\ 2 <= (E.getD (i64.wrap (n - 1)).toNat []).length) /\
  K ((43, .elt 0 (i64.wrap (n - 1)).toNat 1) :: (42, .elt 0 (i64.wrap (n - 1)).toNat 0) :: (41, .pv (.int .i64 (i64.wrap (n1 + 1)))) :: (40, .pv (.int .i64 n1)) :: (39, .elt 0 (i64.wrap (n - 1)).toNat 1) :: (38, .elt 0 (i64.wrap (n - 1)).toNat 0) :: (37, .pv (.int .i64 (i64.wrap (n - 1)))) :: (36, .pv (.int .i64 n)) :: (35, .own 0) :: (34, .pv (.int .i64 (i64.wrap (n - 1)))) :: (33, .pv (.int .i64 n)) :: (32, .own 0) :: dE nn fl C k n)
   (drH m m2 (E.set (i64.wrap (n - 1)).toNat (aW (E.getD (i64.wrap (n - 1)).toNat []) 1 [.int .i64 (i64.wrap (n1 + 1))])) T)) := by kernel_rfl
theorem zxp (K : Env -> Hp -> Prop) : aM qa (fun _ => none) 58 (gW Tryz.f45).toList (((gW Tryz.f45).toList.drop 0).take 8) (dE nn fl C k n) (drH m m2 E T) K =
 (aD E (i64.wrap (n - 1)) 3 /\ K ((51, .elt 0 (i64.wrap (n - 1)).toNat 2) :: (50, .elt 0 (i64.wrap (n - 1)).toNat 0) :: (49, .pv (.int .i64 (i64.wrap (n - 1)))) :: (48, .pv (.int .i64 n)) :: (47, .own 0) :: (46, .pv (.int .i64 (i64.wrap (n - 1)))) :: (45, .pv (.int .i64 n)) :: (44, .own 0) :: dE nn fl C k n) (drH m m2 E T)) := by kernel_rfl
theorem zxq (K : Env -> Hp -> Prop) : aM qa (fun _ => none) 58 (gW Tryz.f45).toList (((gW Tryz.f45).toList.drop 9).take 2) [(52, .own 1), (0, .own 0), (2, .pv (.sl nn fl C)), (44, .own 0), (46, .pv (.int .i64 n))] (drH m m2 E T) K =
 ((aU C 1 /\ (T.length + C.length) * 4 <= 140737488355328) /\ K [(54, .own 1), (53, .pv (.sl nn fl C)), (52, .bot), (0, .own 0), (2, .pv (.sl nn fl C)), (44, .own 0), (46, .pv (.int .i64 n))] (drH m true E (T ++ C))) := by kernel_rfl
theorem zxr (ad : Addr) (l c : Nat) (K : Env -> Hp -> Prop) : aM qa (fun _ => none) 58 (gW Tryz.f45).toList (((gW Tryz.f45).toList.drop 11).take 3) [(54, .pv (.raw (.slice (some ad) l c))), (0, .own 0), (44, .own 0), (46, .pv (.int .i64 n))] (drH m m2 E T) K =
 (aD E n 3 /\ (1 = 1 /\ 3 <= (E.getD n.toNat []).length) /\ K [(56, .elt 0 n.toNat 2), (55, .elt 0 n.toNat 0), (54, .pv (.raw (.slice (some ad) l c))), (0, .own 0), (44, .own 0), (46, .pv (.int .i64 n))] (drH m m2 (E.set n.toNat (aW (E.getD n.toNat []) 2 [.raw (.slice (some ad) l c)])) T)) := by kernel_rfl
theorem zxs (K : Env -> Hp -> Prop) : aM qa (fun _ => none) 58 (xM Tryz.f45).toList (xM Tryz.f45).toList [(0, .own 0)] (drH m m2 E T) K = K [(6, .own 0), (57, .own 0), (0, .own 0)] (drH m m2 E T) := by kernel_rfl
theorem zxt (K : Env -> Hp -> Prop) : aM qa (fun _ => none) 58 (xI Tryz.f45).toList (xI Tryz.f45).toList (cX nn fl C k) (drN nl E) K = K ((8, .pv (.sl true true [])) :: cX nn fl C k) (drN nl E) := by kernel_rfl
theorem zxu (K : Env -> Hp -> Prop) : aM qa (fun _ => none) 58 (xJ Tryz.f45).toList (xJ Tryz.f45).toList ((8, .pv (.sl true true [])) :: cX nn fl C k) (drN nl E) K =
 (gZ true [] C 1 4 /\ K ((8, .own 2) :: (25, .own 2) :: (24, .pv (.sl nn fl C)) :: (23, .pv (.sl true true [])) :: (8, .pv (.sl true true [])) :: cX nn fl C k) [.sl (90, 3) true nl E, .dead, .sl (21, 1) false C.isEmpty ([] ++ C)]) := by kernel_rfl
theorem zxv (ad : Addr) (l c : Nat) (K : Env -> Hp -> Prop) : aM qa (fun _ => none) 58 (xK Tryz.f45).toList (xK Tryz.f45).toList ((8, .pv (.raw (.slice (some ad) l c))) :: cX nn fl C k) (drN3 m nl E T) K =
 ((aU [[.int .i64 k, .int .i64 1, .raw (.slice (some ad) l c)]] 3 /\ (E.length + 1) * 40 <= 140737488355328) /\
   K ((6, .own 0) :: (31, .own 0) :: (30, .pv (.sl false true [[.int .i64 k, .int .i64 1, .raw (.slice (some ad) l c)]])) :: (29, .pv (.agg [.int .i64 k, .int .i64 1, .raw (.slice (some ad) l c)])) :: (28, .pv (.raw (.slice (some ad) l c))) :: (27, .pv (.int .i64 k)) :: (26, .bot) :: (8, .pv (.raw (.slice (some ad) l c))) ::
    [(0, .bot), (1, .pv (.int .i64 k)), (2, .pv (.sl nn fl C))]) (drN3 true (nl && false) (E ++ [[.int .i64 k, .int .i64 1, .raw (.slice (some ad) l c)]]) T)) := by kernel_rfl
end
theorem zdt : (gW Tryz.f45)[8]? = some ((gW Tryz.f45).toList.getD 8 default) /\ ((gW Tryz.f45).toList.getD 8 default).dst = some 52 /\ ((gW Tryz.f45).toList.getD 8 default).guard = none /\ ((gW Tryz.f45).toList.getD 8 default).op = .load 22 (.tmp 51) /\ (gW Tryz.f45).size = 14 /\
 Tryz.prog.underlying 22 = some (.slice 21) /\ fZ qa 22 = false /\ Tryz.f45.results.toList = [.tmp 6] /\ mK qa 45 :=
 ⟨by kernel_rfl, by kernel_rfl, by kernel_rfl, by kernel_rfl, by kernel_rfl, by kernel_rfl, by kernel_rfl, by kernel_rfl, ⟨Tryz.f45, Tryz.func45, by kernel_rfl, by kernel_rfl⟩⟩
theorem zxw (S : List DStep) (s : DStep) (x v cv : Value) (c : List Int) (nn fl : Bool) {w : World} {I : Nat -> Prop} {G : Nat -> Pl} (r : iS 90 21 (S ++ [s]) x v w I G) (hc : Rep w I (.sl nn fl (aA c)) cv) (hcl : c.length < 1000000000) (hS : S.length < 1000000000)
 (hn : 0 <= s.n /\ s.n < 1000000000000 /\ s.text.length < 1000000000000) :
 Calls qa 45 #[v, .int .i64 s.kind, cv] w fun e w' => ∃ v' x' I' G', e = .returned v' /\ iS 90 21 (S ++ [⟨s.kind, s.n + 1, s.text ++ c⟩]) x' v' w' I' G' /\ TrH w I G (d0 90 21 (S ++ [s]) x) w' I' G' (d0 90 21 (S ++ [⟨s.kind, s.n + 1, s.text ++ c⟩]) x') := by
 obtain ⟨hh, hv, hx⟩ := r;have hx := hx (by simp);simp only [dW] at hh hv hx ⊢;have hh : HRel w I G (drH true true (S.map aQ ++ [bO s x]) (aA s.text)) := hh;have hv : LRel w I G (drH true true (S.map aQ ++ [bO s x]) (aA s.text)) (.own 0) v := hv;have hx : LRel w I G (drH true true (S.map aQ ++ [bO s x]) (aA s.text)) (.own 1) x := hx;obtain ⟨q0, q1, q2, q3, q4, q5, q6, q7, q8⟩ := zl4;obtain ⟨p1, p2, p3, p4, p5, p6, p7, p8, p9⟩ := zdt;refine sU (args := [.own 0, .pv (.int .i64 s.kind), .pv (.sl nn fl (aA c))]) Tryz.func45 zl3 (qac (by kernel_rfl)) hh rfl (fun i u hi => ?_) fun a Qx hs hd hq => ?_
 ·match i, hi with
  | 0, hi => cases hi; exact hv
  | 1, hi => cases hi; exact .pv _ _ (.int _ _)
  | 2, hi => cases hi; exact .pv _ _ hc
 have hs : SRel w I G (cX nn fl (aA c) s.kind) (drH false false (S.map aQ ++ [bO s x]) (aA s.text)) 58 a := hs.unm;have hx : LRel w I G (drH false false (S.map aQ ++ [bO s x]) (aA s.text)) (.own 1) x := hx.mono (Keeps.refl w I) (m9 rfl rfl);have hEl : (S.map aQ ++ [bO s x]).length = S.length + 1 := by simp
 have hidx : aD (S.map aQ ++ [bO s x]) ((S.length : Nat) : Int) 3 := qN _ _ _ (by simp) rfl;have hget := qM S (bO s x);have hset := wP S (bO s x)
 -- the code
 refine wp_seq (eL q0 (by rw [zxi]; exact ⟨rfl, rfl⟩ : aM qa (fun _ => none) 58 _ _ _ _ (fun e' h' => e' = _ /\ h' = _)) hs ?_);rintro _ _ w1 I1 G1 a1 ⟨rfl, rfl⟩ hs1 hd1 ht1;have hx1 := fV hx rfl rfl rfl ht1;have t1 := fW ht1;refine wp_seq (eL q1 (by rw [zxj, hEl]; exact ⟨rfl, rfl⟩ : aM qa (fun _ => none) 58 _ _ _ _ (fun e' h' => e' = _ /\ h' = _)) (hs1.le (e' := cX nn fl (aA c) s.kind) (LeE.le ⟨rfl, rfl, rfl, trivial⟩)) ?_);rintro _ _ w2 I2 G2 a2 ⟨rfl, rfl⟩ hs2 hd2 ht2;have hx2 := fV hx1 rfl rfl rfl ht2;have t2 := fW ht2;have hw : i64.wrap (((S.length + 1 : Nat) : Int) - 1) = (S.length : Nat) := by rw [wz]; omega
 have hs2 := hs2.le (e' := dE nn fl (aA c) s.kind (S.length + 1 : Nat)) (LeE.le ⟨rfl, rfl, rfl, rfl, trivial⟩)
 refine wp_seq (wp_seq (eL q2 (K := fun e' h' => ∃ e0, e' = (22, .pv (.bool false)) :: e0 /\ LeE (dE nn fl (aA c) s.kind (S.length + 1 : Nat)) e' /\ h' = _) (by
  rw [zxk, if_neg (by simp only [beq_iff_eq]; omega), hw, qd, hget];refine ⟨hidx, s.kind, rfl, ?_⟩;rw [show (s.kind != s.kind) = false by simp]
  exact ⟨_, rfl, ⟨rfl, rfl, rfl, rfl, trivial⟩, rfl⟩) hs2 ?_))
 rintro _ _ w3 I3 G3 a3 ⟨e0, rfl, le0, rfl⟩ hs3 hd3 ht3;have hx3 := fV hx2 rfl rfl rfl ht3;have t3 := fW ht3;refine wp_cond (show a3.eval (.tmp 22) = .bool false from (hs3.he 22 _ rfl).bool_eq) ?_;refine wp_skip ?_;have hs3 := hs3.le le0.le
 refine wp_seq (eL q6 (K := fun e' h' => LeE (dE nn fl (aA c) s.kind (S.length + 1 : Nat)) e' /\ h' = drH false false (S.map aQ ++ [bO ⟨s.kind, s.n + 1, s.text⟩ x]) (aA s.text)) (by
  rw [zxo, hw, qd, hget];refine ⟨hidx, s.n, rfl, hidx, ⟨rfl, by show 2 <= 3; omega⟩, ?_⟩;rw [wz, hset]
  exact ⟨⟨rfl, rfl, rfl, rfl, trivial⟩, rfl⟩) hs3 ?_)
 rintro e4 _ w4 I4 G4 a4 ⟨le4, rfl⟩ hs4 hd4 ht4;have hx4 := fV hx3 rfl rfl rfl ht4;have t4 := fW ht4;have hs4 := hs4.le le4.le;have t4 := ((t1.trans t2).trans t3).trans t4;clear t1 t2 t3;have hidx4 : aD (S.map aQ ++ [bO ⟨s.kind, s.n + 1, s.text⟩ x]) ((S.length : Nat) : Int) 3 := qN _ _ _ (by simp) rfl;have hget4 := qM S (bO ⟨s.kind, s.n + 1, s.text⟩ x);have hset4 := wP S (bO ⟨s.kind, s.n + 1, s.text⟩ x)
 have hC : aU (aA c) 1 /\ ((aA s.text).length + (aA c).length) * 4 <= 140737488355328 := by
  refine ⟨kB (enc := fun n => [.int .i32 n]) (fun _ => rfl) c, ?_⟩;rw [qO, qO]; omega
 refine wp_seq (sT (Φ := fun a' w' => ∃ x' I' G', SRel w' I' G' [(0, .own 0)] (drH false false (S.map aQ ++ [bO ⟨s.kind, s.n + 1, s.text ++ c⟩ x']) (aA (s.text ++ c))) 58 a' /\ LRel w' I' G' (drH false false (S.map aQ ++ [bO ⟨s.kind, s.n + 1, s.text ++ c⟩ x']) (aA (s.text ++ c))) (.own 1) x' /\ a'.defers = [] /\
  Tr w I (m8 90 G) w' I' (m8 90 G')) ?_ ?_)
 ·refine OpsN.step q7 8 (by rw [p5]; omega) (by rw [zxp, hw]; exact ⟨hidx4, rfl, rfl⟩ : aM qa (fun _ => none) 58 _ _ _ _ (fun e' h' => e' = _ /\ h' = _)) hs4 ?_;rintro _ _ w5 I5 G5 a5 ⟨rfl, rfl⟩ hs5 hd5 ht5;have hx5 := fV hx4 rfl rfl rfl ht5;rw [qd] at hs5;refine OpsN.value p1 p3 (zhv p4 p6 p7 hs5 (ob := 0) (i := S.length) (off := 2) rfl rfl (c := bO ⟨s.kind, s.n + 1, s.text⟩ x) (v := x) (by rw [List.getElem?_append_right (by simp)]; simp) rfl) ?_;have hs6 := (j6 (o := (gW Tryz.f45).toList.getD 8 default) (v := .own 1) (N := 58) (by unfold hE; rw [p2]; rfl) hs5.hn hs5.hh hs5.he hx5);rw [p2] at hs6;obtain ⟨hs6, hd6⟩ := hs6;rw [p2];have hs6 := hs6.le (e' := [(52, .own 1), (0, .own 0), (2, .pv (.sl nn fl (aA c))), (44, .own 0), (46, .pv (.int .i64 (S.length : Nat)))]) (by unfold put; rw [p2]; exact LeE.le ⟨rfl, rfl, rfl, rfl, rfl, trivial⟩);refine OpsN.step (k := 9) q7 2 (by rw [p5]; omega) (by rw [zxq]; exact ⟨hC, rfl, rfl⟩ : aM qa (fun _ => none) 58 _ _ _ _ (fun e' h' => e' = _ /\ h' = _)) hs6 ?_;rintro _ _ w7 I7 G7 a7 ⟨rfl, rfl⟩ hs7 hd7 ht7;rw [<- zi1] at hs7 ht7;have hx7 : LRel w7 I7 G7 (drH false true (S.map aQ ++ [bO ⟨s.kind, s.n + 1, s.text⟩ x]) (aA (s.text ++ c))) (.own 1) (a7.tmps.getD 54 undef) := hs7.he 54 _ rfl;obtain ⟨ad, l, c0, ex⟩ := wL hx7 rfl;rw [ex] at hx7;have hx7 : LRel w7 I7 G7 (drH false false (S.map aQ ++ [bO ⟨s.kind, s.n + 1, s.text⟩ x]) (aA (s.text ++ c))) (.own 1) (.slice (some ad) l c0) := hx7.mono (Keeps.refl _ _) (m9 rfl rfl);have hs7 : SRel w7 I7 G7 _ (drH false false (S.map aQ ++ [bO ⟨s.kind, s.n + 1, s.text⟩ x]) (aA (s.text ++ c))) 58 a7 := hs7.unm;have hs7 := (hs7.view (d := 54) (v := .pv (.raw (.slice (some ad) l c0))) (by rw [ex]; exact .pv _ _ (.raw _))).le (e' := [(54, .pv (.raw (.slice (some ad) l c0))), (0, .own 0), (44, .own 0), (46, .pv (.int .i64 (S.length : Nat)))]) (LeE.le ⟨rfl, rfl, rfl, rfl, trivial⟩)
  refine OpsN.step (k := 11) q7 3 (by rw [p5]; omega) (K := fun e' h' => LeE [(0, .own 0)] e' /\ h' = drH false false (S.map aQ ++ [bO ⟨s.kind, s.n + 1, s.text ++ c⟩ (.slice (some ad) l c0)]) (aA (s.text ++ c))) (by
   rw [zxr, qd, hget4];refine ⟨hidx4, ⟨rfl, by show 3 <= 3; omega⟩, ?_⟩;rw [hset4]
   exact ⟨⟨rfl, trivial⟩, rfl⟩) hs7 ?_
  rintro e8 _ w8 I8 G8 a8 ⟨le8, rfl⟩ hs8 hd8 ht8;have hx8 := fV hx7 rfl rfl rfl ht8;refine OpsN.last (by rw [p5]; omega) ⟨_, I8, G8, hs8.le le8.le, hx8, ?_, ?_⟩
  ·rw [hd8, hd7, hd6, hd5, hd4, hd3, hd2, hd1, hd]
  ·have t5 := fW ht5;have t7 := fW ht7;have t8 := fW ht8;exact ((t4.trans t5).trans t7).trans t8
 rintro a8 w8 ⟨x', I8, G8, hs8, hx8, hd8, t8⟩;refine wp_seq (eL q8 (by rw [zxs]; exact ⟨rfl, rfl⟩ : aM qa (fun _ => none) 58 _ _ _ _ (fun e' h' => e' = _ /\ h' = _)) hs8 ?_);rintro _ _ w9 I9 G9 a9 ⟨rfl, rfl⟩ hs9 hd9 ht9;have hx9 := fV hx8 rfl rfl rfl ht9;have t9 := fW ht9;refine wp_ret ((hq a9 w9 (hd9.trans hd8) ?_).2)
 obtain ⟨u, hu, cv', g1, g2⟩ := mU (P := qa) (fn := Tryz.f45) (K := fun u => u = .own 0) hs9.hh hs9.he (by
  rw [p8]; exact rfl)
 subst hu;refine ⟨cv', g1, cv', x', I9, G9, rfl, ⟨?_, ?_, fun _ => ?_⟩, ⟨?_, qg _, fun o ob' ho h1 h2 => ?_⟩⟩
 ·rw [dW]; exact ziz hs9.hh
 ·rw [dW]; exact g2.mono (Keeps.refl _ _) (m9 rfl rfl)
 ·rw [dW]; exact hx9.mono (Keeps.refl _ _) (m9 rfl rfl)
 ·exact ziy (t8.trans t9)
 ·match o, h1 with
  | 0, h1 => cases h1; cases h2
  | 1, h1 => cases h1; cases h2
theorem zl5 (S : List DStep) (x v cv : Value) (k : Int) (c : List Int) (nn fl : Bool) {w : World} {I : Nat -> Prop} {G : Nat -> Pl} (r : iS 90 21 S x v w I G) (hc : Rep w I (.sl nn fl (aA c)) cv) (hne : c ≠ []) (hcl : c.length < 1000000000) (hS : S.length < 1000000000)
 (hk : ∀ S' s, S = S' ++ [s] -> s.kind ≠ k) :
 Calls qa 45 #[v, .int .i64 k, cv] w fun e w' => ∃ v' x' I' G', e = .returned v' /\ iS 90 21 (S ++ [⟨k, 1, c⟩]) x' v' w' I' G' /\ TrH w I G (d0 90 21 S x) w' I' G' (d0 90 21 (S ++ [⟨k, 1, c⟩]) x') := by
 obtain ⟨I0, nl, hnl, hh, hv, t0⟩ := zl0 r;have hnn : nn = false := zlz hc (by cases c with | nil => exact absurd rfl hne | cons => simp [aA])
 subst hnn;have hc : Rep w I0 (.sl false fl (aA c)) cv := hc.mono (fun _ _ _ => rfl) (fun b hb _ => t0.t.i1 b hb);obtain ⟨q0, q1, q2, q3, q4, q5, q6, q7, q8⟩ := zl4;obtain ⟨_, _, _, _, _, _, _, z2, _⟩ := zdt;refine sU (args := [.own 0, .pv (.int .i64 k), .pv (.sl false fl (aA c))]) Tryz.func45 zl3 (qac (by kernel_rfl)) hh rfl (fun i u hi => ?_) fun a Qx hs hd hq => ?_
 ·match i, hi with
  | 0, hi => cases hi; exact hv
  | 1, hi => cases hi; exact .pv _ _ (.int _ _)
  | 2, hi => cases hi; exact .pv _ _ hc
 have hs : SRel w I0 G (cX false fl (aA c) k) (drN nl (S.map aQ)) 58 a := hs;refine wp_seq (eL q0 (by rw [zxl]; exact ⟨rfl, rfl⟩ : aM qa (fun _ => none) 58 _ _ _ _ (fun e' h' => e' = _ /\ h' = _)) hs ?_);rintro _ _ w1 I1 G1 a1 ⟨rfl, rfl⟩ hs1 hd1 ht1;refine wp_seq (eL q1 (by rw [zxm, qf]; exact ⟨rfl, rfl⟩ : aM qa (fun _ => none) 58 _ _ _ _ (fun e' h' => e' = _ /\ h' = _)) (hs1.le (e' := cX false fl (aA c) k) (LeE.le ⟨rfl, rfl, rfl, trivial⟩)) ?_);rintro _ _ w2 I2 G2 a2 ⟨rfl, rfl⟩ hs2 hd2 ht2;have hs2 := hs2.le (e' := dE false fl (aA c) k (S.length : Nat)) (LeE.le ⟨rfl, rfl, rfl, rfl, trivial⟩)
 refine wp_seq (wp_seq (eL q2 (K := fun e' h' => ∃ e0, e' = (22, .pv (.bool true)) :: e0 /\ LeE (dE false fl (aA c) k (S.length : Nat)) e' /\ h' = drN nl (S.map aQ)) (by
  rw [zxn];rcases mB S with rfl | ⟨S', s, rfl⟩
  ·rw [if_pos (by simp)];exact ⟨_, rfl, ⟨rfl, rfl, rfl, rfl, trivial⟩, rfl⟩
  ·have hl : i64.wrap (((S' ++ [s]).length : Nat) - 1) = (S'.length : Nat) := by
    rw [qb, qm] at hS ⊢;rw [wz]; omega
   rw [if_neg (by rw [beq_iff_eq, qb, qm]; omega), hl, qd, qu];have hg := qM S' (aQ s);refine ⟨qN _ _ _ (by simp) rfl, s.kind, by show (qc 0 ((S'.map aQ ++ [aQ s]).getD S'.length [])).head? = _; rw [hg]; rfl, ?_⟩;have hb : (s.kind != k) = true := by simpa using hk S' s rfl
   rw [hb]
   exact ⟨_, rfl, ⟨rfl, rfl, rfl, rfl, trivial⟩, rfl⟩) hs2 ?_))
 rintro _ _ w3 I3 G3 a3 ⟨e0, rfl, le0, rfl⟩ hs3 hd3 ht3;refine wp_cond (show a3.eval (.tmp 22) = .bool true from (hs3.he 22 _ rfl).bool_eq) ?_;have hs3 := (hs3.le le0.le).le (e' := cX false fl (aA c) k) (LeE.le ⟨rfl, rfl, rfl, trivial⟩);refine wp_seq (eL q3 (by rw [zxt]; exact ⟨rfl, rfl⟩ : aM qa (fun _ => none) 58 _ _ _ _ (fun e' h' => e' = _ /\ h' = _)) hs3 ?_);rintro _ _ w4 I4 G4 a4 ⟨rfl, rfl⟩ hs4 hd4 ht4;have hne2 : (aA c).isEmpty = false := by cases c with | nil => exact absurd rfl hne | cons => rfl
 refine wp_seq (eL q4 (K := fun e' h' => LeE [(8, .own 2), (0, .own 0), (1, .pv (.int .i64 k)), (2, .pv (.sl false fl (aA c)))] e' /\ h' = drN3 true nl (S.map aQ) (aA c)) (by
  rw [zxu, hne2, List.nil_append]
  exact ⟨⟨rfl, .inl rfl, fun e he => (by cases he), kB (enc := fun n => [.int .i32 n]) (fun _ => rfl) c, by rw [qO, qt]; omega⟩, ⟨rfl, rfl, rfl, rfl, trivial⟩, rfl⟩) hs4 ?_)
 rintro e5 _ w5 I5 G5 a5 ⟨le5, rfl⟩ hs5 hd5 ht5;have hs5 := hs5.le le5.le;have hx5 : LRel w5 I5 G5 (drN3 true nl (S.map aQ) (aA c)) (.own 2) (a5.tmps.getD 8 undef) := hs5.he 8 _ rfl;obtain ⟨ad, l, c0, ex⟩ := wL hx5 rfl;rw [ex] at hx5;have hs6 := (hs5.view (d := 8) (v := .pv (.raw (.slice (some ad) l c0))) (by rw [ex]; exact .pv _ _ (.raw _))).le (e' := (8, .pv (.raw (.slice (some ad) l c0))) :: cX false fl (aA c) k) (LeE.le ⟨rfl, rfl, rfl, rfl, trivial⟩)
 refine wp_seq (eL q5 (K := fun e' h' => LeE [(6, .own 0)] e' /\ h' = drN3 true false (S.map aQ ++ [bO ⟨k, 1, c⟩ (.slice (some ad) l c0)]) (aA c)) (by
  rw [zxv];refine ⟨⟨fun e he => by cases he; rfl, by rw [qf]; omega⟩, ⟨rfl, trivial⟩, ?_⟩
  rw [qau]; rfl) hs6 ?_)
 rintro e7 _ w8 I8 G8 a8 ⟨le7, rfl⟩ hs8 hd8 ht8;have hs8 := hs8.le le7.le;have hx8 := fV hx5 rfl rfl rfl ht8;have hd8 : a8.defers = [] := by rw [hd8, hd5, hd4, hd3, hd2, hd1, hd]
 have t8 := (((((t0.trans ht1).trans ht2).trans ht3).trans ht4).trans ht5).trans ht8 |>.t;obtain ⟨x', hx'⟩ : ∃ x', x' = Value.slice (some ad) l c0 := ⟨_, rfl⟩;rw [<- hx'] at hs8 hx8 t8;obtain ⟨u, hu, cv', g1, g2⟩ := mU (P := qa) (fn := Tryz.f45) (K := fun u => u = .own 0) hs8.hh hs8.he (by rw [z2]; exact rfl);subst hu;obtain ⟨G9, p1, p2, p3, p4⟩ := zl1 hs8.hh;refine wp_ret ((hq a8 w8 hd8 ⟨cv', g1, cv', x', I8, G9, rfl, ⟨?_, ?_, fun _ => ?_⟩, ⟨?_, ?_, fun o ob' ho h1 h2 => ?_⟩⟩).2)
 ·rw [dW]; exact p1
 ·rw [dW]; exact p2 _ g2
 ·rw [dW]; exact p3 _ hx8
 ·rw [dW]; exact t8.trans (Tr.less p4)
 ·rw [dW];rcases mB S with rfl | ⟨S', s, rfl⟩
  ·exact qg _
  ·rw [dW]; exact qg _
 ·rw [dW] at h1
  match o, h1 with
  | 0, h1 => cases h1; cases h2
  | 1, h1 => cases h1; cases h2
theorem zdu : wK qa 45 90 21 := by
 refine ⟨zdt.2.2.2.2.2.2.2.2, fun w I G S x v cv k c nn fl r hc hne hcl hk hS hb => ?_⟩;rcases mB S with rfl | ⟨S', s, rfl⟩
 ·exact zl5 [] x v cv k c nn fl r hc hne hcl hS (fun S' s h => by simp at h)
 ·rw [zbd];by_cases e : s.kind = k
  ·subst e;rw [if_pos rfl];exact zxw S' s x v cv c nn fl r hc hcl (by simp at hS; omega) (hb s (by simp))
  ·rw [if_neg e]
   exact zl5 (S' ++ [s]) x v cv k c nn fl r hc hne hcl hS (fun S'' s' h => by
    have := qbk h rfl;have h2 : s = s' := by simpa using this.2
    rw [<- h2]; exact e)
end Go.Eng
namespace Go.Eng
open Go Go.Eng.Rows
section
variable {H : Nat -> Option HSpec} {tS tr : Nat} {w0 : World} {I0 : Nat -> Prop} {P : Program} {N : Nat}
theorem CodeY.regAdd {f : Nat} (ha : wK P f tS tr) {ops : Array Oper} {id : Nat} (hd : bU ops.toList = true) {kc : Nat} {o : Oper} (ho : ops[kc]? = some o) (hg : o.guard = none) {d : Nat} (hdst : o.dst = some d) (hdN : d < N) {c : Call} (hop : o.op = .call c) (hcal : c.callee = .value (.func f))
 {x0 x2 : Operand} {kk : Int} (hargs : c.args = #[x0, .const (.int .i64 kk), x2]) (hk : 0 <= kk /\ kk < 3) {s : List DStep × Value} (hS : s.1.length < 1000000000) (hb : ∀ d ∈ s.1, 0 <= d.n /\ d.n < 1000000000000 /\ d.text.length < 1000000000000) {e : Env} {h : Hp} {Q : List DStep × Value -> Qt}
 (hpre : aM P H N ops.toList ((ops.toList.drop 0).take kc) e h fun e1 h1 => aY [] e1 x0 = some (.pv (.raw s.2)) /\ ∃ nn fl c, aY [] e1 x2 = some (.pv (.sl nn fl (aA c))) /\ c ≠ [] /\ c.length < 1000000000 /\
  ∀ v', aM P H N ops.toList ((ops.toList.drop (kc + 1)).take (ops.size - (kc + 1))) (set e1 d (.pv (.raw v'))) h1 fun e2 h2 => Q (eK s.1 (kk, c), v') .normal e2 h2) :
 CodeY (OutZ tS tr w0 I0) P N (.region id ops false) s e h Q := by
 intro w I G a Qx hs hz hq;have hlt : kc < ops.size := (Array.getElem?_eq_some_iff.1 ho).1;refine sT (Φ := fun a' w' => ∃ s' e' h' I' G', Q s' .normal e' h' /\ SRel w' I' G' e' h' N a' /\ a'.defers = a.defers /\ OutZ tS tr w0 I0 s' w' I' G' h') ?_ (fun a' w' ⟨s', e', h', I', G', q1, q2, q3, q4⟩ => hq s' .normal e' h' w' I' G' a' q1 q2 q3 q4);refine OpsN.step hd kc (by omega) hpre hs ?_;rintro e1 h1 w1 I1 G1 a1 ⟨p0, nn, fl, cc, p2, hne, hcl, hpost⟩ hs1 hd1 ht1;have hz1 := OutZ.stab _ _ _ _ _ _ _ _ _ hz hs.hh hs1.hh (ht1.toN (n0 := 0))
 have v0 : a1.eval x0 = s.2 := by
  have := aO hs1.he (AOK.nil _) p0;generalize a1.eval x0 = u at this ⊢;cases this with | pv _ _ h => cases h; rfl
 have v2 : Rep w1 I1 (.sl nn fl (aA cc)) (a1.eval x2) := by
  have := aO hs1.he (AOK.nil _) p2;cases this with | pv _ _ h => exact h
 have hrun := u5 (P := P) (w := w1) hop hcal (a := a1) (f := f) (cc := #[]) rfl ha.1;rw [hargs] at hrun
 have e3 : (#[x0, Operand.const (.int .i64 kk), x2].map a1.eval ++ #[] : Array Value) = #[s.2, .int .i64 kk, a1.eval x2] := by
  rw [<- v0]; simp [Act.eval]
 rw [e3] at hrun;rw [Nat.zero_add];refine OpsN.call (R := fun cv w' => ∃ I', HRel w' I' G1 h1 /\ Keeps w1 I1 w' I' /\ OutZ tS tr w0 I0 (eK s.1 (kk, cc), cv) w' I' G1 h1) ho hg hrun ((OutZ.call ha hz1 hs1.hh v2 hne hcl hk hS hb).mono fun e w' ⟨v', I', q1, q2, q3, q4⟩ => ⟨v', q1, I', q2, q3, q4⟩) ?_;rintro cv w2 ⟨I2, g1, g2, g3⟩;obtain ⟨hs2, hd2⟩ := j6 (o := o) (v := .pv (.raw cv)) (N := N) (by unfold hE; rw [hdst]; simp [hdN]) hs1.hn g1 (hs1.he.mono g2 (.refl _ _)) (.pv _ _ (.raw cv));have hput : put o (.pv (.raw cv)) e1 = set e1 d (.pv (.raw cv)) := by unfold put; rw [hdst]
 rw [hput] at hs2;refine OpsN.step hd (ops.size - (kc + 1)) (by omega) (hpost cv) hs2 ?_;rintro e3 h3 w3 I3 G3 a3 hQ hs3 hd3 ht3;refine OpsN.last (by omega) ⟨_, e3, h3, I3, G3, hQ, hs3, ?_, OutZ.stab _ _ _ _ _ _ _ _ _ g3 g1 hs3.hh (ht3.toN (n0 := 0))⟩;rw [hd3, hd2, hd1]
theorem CodeY.region {id : Nat} {ops : Array Oper} {s : List DStep × Value} {e : Env} {h : Hp} {Q : List DStep × Value -> Qt} (hK : aM P H N ops.toList ops.toList e h (fun e h => Q s .normal e h)) (hd : bU ops.toList = true) : CodeY (OutZ tS tr w0 I0) P N (.region id ops false) s e h Q :=
 fun w I G a Qx hs hz hq => eL hd hK hs fun e' h' w' I' G' a' k1 k2 k3 k4 => hq s .normal e' h' w' I' G' a' k1 k2 k3 (OutZ.stab _ _ _ _ _ _ _ _ _ hz hs.hh k2.hh (k4.toN (n0 := 0)))
theorem zl6 {l : Env} {i : Nat} {v : LV} : ∀ {e : Env}, get e i = some v -> get (e ++ l) i = some v
 | (k, x) :: r, h => by
   simp only [get, qaq] at h ⊢;cases hb : Nat.beq k i with
   | true => rw [hb] at h; exact h
   | false => rw [hb] at h; exact zl6 h
theorem CodeY.leA {c : Code} {s : List DStep × Value} {e l : Env} {h : Hp} {Q : List DStep × Value -> Qt} (hK : CodeY (OutZ tS tr w0 I0) P N c s e h Q) : CodeY (OutZ tS tr w0 I0) P N c s (e ++ l) h Q :=
 fun w I G a Qx hs hz hq => hK w I G a Qx (hs.le fun _ _ => zl6) hz hq
theorem CodeY.nilRaw {c : Code} {s : List DStep × Value} {e : Env} {h : Hp} {Q : List DStep × Value -> Qt} {d : Nat} {fl : Bool} (hg : get e d = some (.pv (.sl true fl []))) (hK : CodeY (OutZ tS tr w0 I0) P N c s ((d, .pv (.raw (.slice none 0 0))) :: e) h Q) : CodeY (OutZ tS tr w0 I0) P N c s e h Q := by
 intro w I G a Qx hs hz hq;have hv : LRel w I G h (.pv (.sl true fl [])) (a.tmps.getD d undef) := hs.he d _ hg;refine hK w I G a Qx (hs.view (d := d) ?_) hz hq;generalize a.tmps.getD d undef = u at hv ⊢;cases hv with
 | pv _ _ h =>
   cases h;exact .pv _ _ (.raw _)
def xN (v : LV) (p : PV) : Prop := v = .pv p ∨ ∃ ps : List PV, v = .tup (ps.map .pv) /\ p = .tup ps
theorem zxx {w : World} {I : Nat -> Prop} {G : Nat -> Pl} {h : Hp} {v : LV} {cv : Value} {p : PV} (hr : LRel w I G h v cv) (hp : xN v p) : Rep w I p cv := by
 rcases hp with rfl | ⟨ps, rfl, rfl⟩
 ·cases hr; assumption
 ·cases hr with
  | tup _ vs h1 h6 =>
    refine .tup ps vs (by simpa using h1) fun k u hk => ?_
    have := h6 k (.pv u) (by rw [qbf, hk]; rfl);generalize vs.getD k undef = y at this ⊢;cases this; assumption
def zl7 (P : Program) (rs : List ResultVar) (R : PV -> Prop) (s : List DStep × Value) (e : Env) (h : Hp) : Prop :=
 gK P e h rs (kA fun v => ∃ p, xN v p /\ R p) ∨ (get e 6 = some (.pv (.raw s.2)) /\ ∀ nl, (nl = true -> s.1 = []) -> gK P ((6, .pv (.sl nl false (s.1.map aQ))) :: e) h rs (kA fun v => ∃ p, xN v p /\ R p))
theorem PCall.ofY {f : Nat} {fn : Func} {c : Code} {ps : List PV} {R : PV -> Prop} (hf : P.funcs[f]? = some fn) (hb : fn.body = some c) (hn : (fn.name == "runtime.NumGoroutine") = false) (hl : (ps.map LV.pv).length <= fn.ntmps)
 (hC : ∀ w0 I0, CodeY (OutZ tS tr w0 I0) P fn.ntmps c ([], .slice none 0 0) (fI (ps.map .pv) 0) [] fun s x e h => match x with | .exit _ => False | _ => zl7 P fn.results.toList R s e h) : PCall P f ps R := by
 refine ⟨⟨fn, hf, by rw [hb]; rfl, hn⟩, fun w I G cargs hh hsz hrel => ?_⟩;refine sU hf hb hl hh hsz hrel fun a Qx hs hd hq => ?_;have noOwn : ∀ b, ¬ aS [] G b := fun b ⟨o, ob, h1, _⟩ => by simp at h1
 have hz : OutZ tS tr w I ([], .slice none 0 0) w I G [] := by
  refine ⟨⟨rfl, rfl, rfl, qg _, fun _ _ _ => rfl, fun _ h => h, fun _ h => .inl h, fun b hb => (noOwn b hb).elim, fun _ _ => rfl, qg _⟩, .slice none 0 0, fun _ => ⟨0, 0, 0, 0⟩, ?_, ?_⟩
  ·have dead : ∀ (o : Nat) ob, (d0 tS tr [] (.slice none 0 0))[o]? = some ob -> ¬ ob.alive ⟨0, 0, 0, 0⟩ := fun o ob ho ha => by
    match o, ho with
    | 0, ho => cases ho; cases ha.1
    | 1, ho => cases ho; exact ha
   refine ⟨⟨fun o ob ho => ?_, fun o o' ob ob' ho ha => (dead o ob ho ha).elim, fun o ob ho ha => (dead o ob ho ha).elim, hh.cl⟩, .ownNil 0 _ _ _ rfl, fun h => absurd rfl h⟩
   match o, ho with
   | 0, ho => cases ho; rfl
   | 1, ho => cases ho; trivial
  ·rintro b ⟨o, ob, ho, ha, _⟩
   match o, ho with
   | 0, ho => cases ho; cases ha.1
   | 1, ho => cases ho; exact ha.elim
 refine hC w I w I G a Qx hs hz fun s x e' h' w' I' G' a' hk hs' hd' hz' => ?_
 have fin : zl7 P fn.results.toList R s e' h' -> ∃ cv, (results fn a'.tmps).run P w' = .ok cv w' /\ ∃ cv' r h2 I2 G2, Ending.returned cv = .returned cv' /\ (∃ v, r = .pv v /\ R v) /\ HRel w' I2 G2 h2 /\ LRel w' I2 G2 h2 r cv' /\ TrH w I G [] w' I2 G2 h2 := by
  have done : ∀ {e2 : Env} {I2 : Nat -> Prop}, SRel w' I2 G' e2 h' fn.ntmps a' -> Tr w I (fun _ => False) w' I2 (aS h' G') -> gK P e2 h' fn.results.toList (kA fun v => ∃ p, xN v p /\ R p) -> ∃ cv, (results fn a'.tmps).run P w' = .ok cv w' /\ ∃ cv' r h2 I2 G2, Ending.returned cv = .returned cv' /\ (∃ v, r = .pv v /\ R v) /\ HRel w' I2 G2 h2 /\ LRel w' I2 G2 h2 r cv' /\ TrH w I G [] w' I2 G2 h2 := fun {e2 I2} hs2 t hr => by
   obtain ⟨v, ⟨p, hvp, hp⟩, cv, g1, g2⟩ := mU (P := P) hs2.hh hs2.he hr;refine ⟨cv, g1, cv, .pv p, [], I2, G', rfl, ⟨p, rfl, hp⟩, HRel.nil _ hs2.hh.cl, ?_, ⟨⟨t.os, t.tape, t.output, t.size, fun b hb _ => t.keep b hb (fun x => x), t.i1, fun b hb => (t.i2 b hb).elim .inl fun x => x.elim False.elim fun x => .inr (.inr x), fun b ⟨o, ob, h1, _⟩ => by simp at h1, t.frz, t.drawn⟩, qai _, fun o ob' ho => by simp at ho⟩⟩;exact .pv _ _ (zxx g2 hvp)
  rintro (hr | ⟨h6, hr⟩)
  ·exact done hs' hz'.1 hr
  ·obtain ⟨I2, nl, q1, q2, q3, q4, q5⟩ := hz'.tree hs'.hh
   have h6v : a'.tmps.getD 6 undef = s.2 := by
    have : LRel w' I' G' h' (.pv (.raw s.2)) (a'.tmps.getD 6 undef) := hs'.he 6 _ h6;generalize a'.tmps.getD 6 undef = u at this ⊢;cases this with | pv _ _ h => cases h; rfl
   have hs2 : SRel w' I2 G' e' h' fn.ntmps a' := ⟨q3, hs'.he.mono q4 (.refl _ _), hs'.hn⟩;exact done (hs2.view (d := 6) (v := .pv (.sl nl false (s.1.map aQ))) (by rw [h6v]; exact .pv _ _ q2)) q5 (hr nl q1)
 cases x with
 | exit n => exact hk.elim
 | normal => exact (hq a' w' (hd'.trans hd) (fin hk)).1
 | ret => exact (hq a' w' (hd'.trans hd) (fin hk)).2
end
end Go.Eng
namespace Go.Eng
open Go Go.Proofs
section
variable (na fa : Bool) (xa : LL) (nb fb : Bool) (xb : LL) (nl fl : Bool) (ls : LL) (i k : Int)
def zl8 (R : PV -> Prop) : Prop :=
 ∃ n f es, some (PV.sl nb fb xb) = some (PV.sl n f es) /\ R (Z6 (i64.wrap (i64.wrap (i * i64.wrap ((↑es.length : Int) + 1)) + k)))
theorem zxy {R : PV -> Prop} (h : zl8 nb fb xb i k R) : PCall qa 38 [.ptr [.sl na fa xa, .sl nb fb xb, .sl nl fl ls], .int .i64 i, .int .i64 k] R :=
 PCall.wz Tryz.func38 aR [0, 1, 2, 6] bE h
end
def zdv (na fa : Bool) (xa : LL) (nb fb : Bool) (xb : LL) (x2 : Int) (n_1 : Bool) (s_1 : LL) : Env × Hp := ([(0, LV.box 0 0), (2, Y6 x2)], [.box [LV.pv (PV.sl na fa xa), LV.pv (PV.sl nb fb xb), LV.own 1], .sl (3, 1) true n_1 s_1])
def zdw (na fa : Bool) (xa : LL) (nb fb : Bool) (xb : LL) (x2 x3 : Int) (n_1 : Bool) (s_1 : LL) : Env × Hp := ([(0, LV.box 0 0), (2, Y6 x2), (3, Y6 x3)], [.box [LV.pv (PV.sl na fa xa), LV.pv (PV.sl nb fb xb), LV.own 1], .sl (3, 1) true n_1 s_1])
section
variable (na fa : Bool) (xa : LL) (nb fb : Bool) (xb : LL) (J : Int -> Bool -> LL -> Prop) (μ : Int -> Bool -> LL -> Nat) (J2 : Int -> Int -> Bool -> LL -> Int -> Int -> Bool -> LL -> Prop) (μ2 : Int -> Int -> Bool -> LL -> Nat)
def zl9 (R : LV -> Hp -> Prop) : Prop :=
 ((0 : Int) <= i64.wrap (i64.wrap ((↑xa.length : Int) + 1) * i64.wrap ((↑xb.length : Int) + 1)) /\ i64.wrap (i64.wrap ((↑xa.length : Int) + 1) * i64.wrap ((↑xb.length : Int) + 1)) <= i64.wrap (i64.wrap ((↑xa.length : Int) + 1) * i64.wrap ((↑xb.length : Int) + 1)) /\ (↑8 : Int) * i64.wrap (i64.wrap ((↑xa.length : Int) + 1) * i64.wrap ((↑xb.length : Int) + 1)) <= 281474976710656 /\ i64.wrap (i64.wrap ((↑xa.length : Int) + 1) * i64.wrap ((↑xb.length : Int) + 1)) <= 9223372036854775807) /\ (aG (zdv na fa xa nb fb xb (i64.wrap ((↑xa.length : Int) - 1)) false (qan (i64.wrap (i64.wrap ((↑xa.length : Int) + 1) * i64.wrap ((↑xb.length : Int) + 1))).toNat [Z6 0])) /\ J (i64.wrap ((↑xa.length : Int) - 1)) false (qan (i64.wrap (i64.wrap ((↑xa.length : Int) + 1) * i64.wrap ((↑xb.length : Int) + 1))).toNat [Z6 0])) /\ ∀ (x2 : Int) (n_1 : Bool) (s_1 : LL), J x2 n_1 s_1 -> if decide (x2 >= 0) = true then (aG (zdw na fa xa nb fb xb x2 (i64.wrap ((↑xb.length : Int) - 1)) n_1 s_1) /\ J2 x2 (i64.wrap ((↑xb.length : Int) - 1)) n_1 s_1 x2 (i64.wrap ((↑xb.length : Int) - 1)) n_1 s_1) /\ ∀ (x21 x3 : Int) (n_11 : Bool) (s_11 : LL), J2 x2 (i64.wrap ((↑xb.length : Int) - 1)) n_1 s_1 x21 x3 n_11 s_11 ->
 let K5 := fun (y0_ y1_ : Int) (y2_ : Bool) (y3_ : LL) => aG (zdw na fa xa nb fb xb y0_ y1_ y2_ y3_) /\ J2 x2 (i64.wrap ((↑xb.length : Int) - 1)) n_1 s_1 y0_ y1_ y2_ y3_ /\ μ2 y0_ y1_ y2_ y3_ < μ2 x21 x3 n_11 s_11; if decide (x3 >= 0) = true then aD xa x21 1 /\ ∃ n f es, (xa.getD x21.toNat []).head? = some (PV.sl n f es) /\ aD xb x3 1 /\ ∃ n1 f1 es1, (xb.getD x3.toNat []).head? = some (PV.sl n1 f1 es1) /\ PCall qa 36 [PV.sl n f es, PV.sl n1 f1 es1] fun v => ∃ b, v = Zb b /\ if b = true then PCall qa 38 [PV.ptr [PV.sl na fa xa, PV.sl nb fb xb, PV.sl n_11 false s_11], Z6 x21, Z6 x3] fun v1 => ∃ n2, v1 = Z6 n2 /\ true = true /\ PCall qa 38 [PV.ptr [PV.sl na fa xa, PV.sl nb fb xb, PV.sl n_11 false s_11], Z6 (i64.wrap (x21 + 1)), Z6 (i64.wrap (x3 + 1))] fun v2 => ∃ n3, v2 = Z6 n3 /\ true = true /\ aD s_11 n3 1 /\ ∃ n4, (qc 0 (s_11.getD n3.toNat [])).head? = some (Z6 n4) /\ aD s_11 n2 1 /\ (1 = 1 /\ 1 <= (s_11.getD n2.toNat []).length) /\ K5 x21 (i64.wrap (x3 - 1)) n_11 (s_11.set n2.toNat (Z6 (i64.wrap (n4 + 1)) :: (qc 1 (s_11.getD n2.toNat [])))) else PCall qa 38 [PV.ptr [PV.sl na fa xa, PV.sl nb fb xb, PV.sl n_11 false s_11], Z6 x21, Z6 x3] fun v1 => ∃ n2, v1 = Z6 n2 /\ true = true /\ PCall qa 38 [PV.ptr [PV.sl na fa xa, PV.sl nb fb xb, PV.sl n_11 false s_11], Z6 (i64.wrap (x21 + 1)), Z6 x3] fun v2 => ∃ n3, v2 = Z6 n3 /\ true = true /\ aD s_11 n3 1 /\ ∃ n4, (qc 0 (s_11.getD n3.toNat [])).head? = some (Z6 n4) /\ PCall qa 38 [PV.ptr [PV.sl na fa xa, PV.sl nb fb xb, PV.sl n_11 false s_11], Z6 x21, Z6 (i64.wrap (x3 + 1))] fun v3 => ∃ n5, v3 = Z6 n5 /\ true = true /\ aD s_11 n5 1 /\ ∃ n6, (qc 0 (s_11.getD n5.toNat [])).head? = some (Z6 n6) /\ aD s_11 n2 1 /\ (1 = 1 /\ 1 <= (s_11.getD n2.toNat []).length) /\ K5 x21 (i64.wrap (x3 - 1)) n_11 (s_11.set n2.toNat (Z6 (if n4 < n6 then n6 else n4) :: (qc 1 (s_11.getD n2.toNat [])))) else aG (zdv na fa xa nb fb xb (i64.wrap (x21 - 1)) n_11 s_11) /\ J (i64.wrap (x21 - 1)) n_11 s_11 /\ μ (i64.wrap (x21 - 1)) n_11 s_11 < μ x2 n_1 s_1 else R (LV.tup []) [Ob.box [LV.pv (PV.sl na fa xa), LV.pv (PV.sl nb fb xb), LV.own 1], Ob.sl (3, 1) true n_1 s_1]
theorem zxz {R : LV -> Hp -> Prop} (h : zl9 na fa xa nb fb xb J μ J2 μ2 R) : ACall qa 35 [.box 0 0] [.box [.pv (.sl na fa xa), .pv (.sl nb fb xb), .pv (.sl true true [])]] R :=
 ACall.wz Tryz.func35 aR [0, 2, 3, 28, 38, 55] (iM [(2, (bN eG (zdv na fa xa nb fb xb) J μ (fun e h => (gI e 2, oN h 1, oS h 1)) [] [0, 2] [])), (5, (iA jQ (zdw na fa xa nb fb xb) J2 μ2 (fun e h => (gI e 2, gI e 3, oN h 1, oS h 1)) [] [0, 2, 3] []))]) [0, 1] h
end
def zdx (n f : Bool) (es : LL) (x3 x8 : Int) : Env × Hp := ([(3, Y6 x3), (6, LV.pv (PV.sl n f es)), (7, LV.pv (PV.int i64 (es.length : Int))), (8, Y6 x8)], [])
section
variable (n f : Bool) (es : LL) (J : Int -> Int -> Prop) (μ : Int -> Int -> Nat)
def zma (R : PV -> Prop) : Prop :=
 (aG (zdx n f es (0 : Int) (0 : Int)) /\ J (0 : Int) (0 : Int)) /\ ∀ (x3 x8 : Int), J x3 x8 ->
 let K3 := fun (y0_ y1_ : Int) => aG (zdx n f es y0_ y1_) /\ J y0_ y1_ /\ μ y0_ y1_ < μ x3 x8; if decide (x8 < (↑es.length : Int)) = true then aD es x8 3 /\ ∃ n1, (es.getD x8.toNat []).head? = some (Z6 n1) /\ ∃ n2, (es.getD x8.toNat []).tail.head? = some (Z6 n2) /\ ∃ n3 f1 es1, (es.getD x8.toNat []).tail.tail.head? = some (PV.sl n3 f1 es1) /\ if (n1 != 0) = true then K3 (i64.wrap (x3 + n2)) (i64.wrap (x8 + 1)) else K3 x3 (i64.wrap (x8 + 1)) else R (Z6 x3)
theorem zx0 {R : PV -> Prop} (h : zma n f es J μ R) : PCall qa 15 [.sl n f es] R :=
 PCall.wz Tryz.func15 aR [0, 2, 3, 5, 6, 7, 8, 9, 14] (dA 3 (bN jP (zdx n f es) J μ (fun e h => (gI e 3, gI e 8)) [] [3, 6, 7, 8] [])) h
end
section
variable (n f : Bool) (es : LL) (n2 f2 : Bool) (ss : LL)
def zmb (R : PV -> Prop) : Prop :=
 PCall qa 24 [PV.sl n f es, PV.sl n2 f2 ss] fun v => ∃ n1 f1 es1, v = PV.sl n1 f1 es1 /\ PCall qa 46 [PV.sl n f es, PV.sl n1 f1 es1] fun v1 => ∃ n3 f3 es2, v1 = PV.sl n3 f3 es2 /\ R (PV.sl n3 f3 es2)
theorem zx1 {R : PV -> Prop} (h : zmb n f es n2 f2 ss R) : PCall qa 14 [.sl n f es, .sl n2 f2 ss] R :=
 PCall.wz Tryz.func14 aR [0, 1, 4] bE h
end
def zdy (n f : Bool) (es : LL) (n2 f2 : Bool) (ss : LL) (x6 : Int) (n_0 : Bool) (s_0 : LL) : Env × Hp := ([(0, LV.pv (PV.sl n f es)), (1, LV.pv (PV.sl n2 f2 ss)), (5, LV.own 0), (6, Y6 x6)], [.sl (3, 1) true n_0 s_0])
def zdz (n f : Bool) (es : LL) (n2 f2 : Bool) (ss : LL) (n5 f5 : Bool) (s5 : LL) (x7 : Int) : Env × Hp := ([(0, LV.pv (PV.sl n f es)), (1, LV.pv (PV.sl n2 f2 ss)), (5, .pv (.sl n5 f5 s5)), (7, Y6 x7)], [])
def tP (n f : Bool) (es : LL) (n2 f2 : Bool) (ss : LL) (n5 f5 : Bool) (s5 : LL) (x7 x9 : Int) (n_0 : Bool) (s_0 : LL) : Env × Hp := ([(0, LV.pv (PV.sl n f es)), (1, LV.pv (PV.sl n2 f2 ss)), (5, .pv (.sl n5 f5 s5)), (7, Y6 x7), (8, LV.own 0), (9, Y6 x9)], [.sl (3, 1) true n_0 s_0])
def tQ (n f : Bool) (es : LL) (n2 f2 : Bool) (ss : LL) (J5 : Bool -> Bool -> LL -> Int -> Int -> Bool -> LL -> Bool -> Bool -> LL -> Int -> Int -> Bool -> LL -> Prop) (μ5 : Bool -> Bool -> LL -> Int -> Int -> Bool -> LL -> Nat) (K7 : Bool -> Bool -> LL -> Int -> Prop) (n5 f5 : Bool) (s5 : LL) (x7 : Int) (tt : LL) : Prop :=
 ∀ (n51 f51 : Bool) (s51 : LL) (x71 x9 : Int) (n_01 : Bool) (s_01 : LL), J5 n5 f5 s5 x7 (i64.wrap ((0 : Int) + 1)) false tt n51 f51 s51 x71 x9 n_01 s_01 ->
 let K11 := fun (y0_ y1_ : Bool) (y2_ : LL) (y3_ y4_ : Int) (y5_ : Bool) (y6_ : LL) => aG (tP n f es n2 f2 ss y0_ y1_ y2_ y3_ y4_ y5_ y6_) /\ J5 n5 f5 s5 x7 (i64.wrap ((0 : Int) + 1)) false tt y0_ y1_ y2_ y3_ y4_ y5_ y6_ /\ μ5 y0_ y1_ y2_ y3_ y4_ y5_ y6_ < μ5 n51 f51 s51 x71 x9 n_01 s_01; if decide (x9 < (↑ss.length : Int)) = true then aD s51 (i64.wrap (x9 + 1)) 1 /\ ∃ n7, (s51.getD (i64.wrap (x9 + 1)).toNat []).head? = some (Z6 n7) /\ aD s_01 x9 1 /\ ∃ n8, (qc 0 (s_01.getD x9.toNat [])).head? = some (Z6 n8) /\
 let V4 := aD s51 x9 1 /\ ∃ n12, (s51.getD x9.toNat []).head? = some (Z6 n12) /\ (aU [[Z6 (i64.wrap (n12 + 1))]] 1 /\ (s_01.length + 1) * 8 <= 140737488355328) /\ K11 n51 f51 s51 x71 (i64.wrap (x9 + 1)) (n_01 && false) (s_01 ++ [[Z6 (i64.wrap (n12 + 1))]]); if decide (n8 > n7) = true then aD s_01 x9 1 /\ ∃ n9, (qc 0 (s_01.getD x9.toNat [])).head? = some (Z6 n9) /\ aD es x71 1 /\ ∃ n10 f4 es3, (es.getD x71.toNat []).head? = some (PV.sl n10 f4 es3) /\ aD ss x9 1 /\ ∃ n11 f6 es4, (ss.getD x9.toNat []).head? = some (PV.sl n11 f6 es4) /\ PCall qa 21 [PV.sl n10 f4 es3, PV.sl n11 f6 es4] fun v1 => ∃ b1, v1 = Zb b1 /\ if b1 = true then V4 else (aU [[Z6 n9]] 1 /\ (s_01.length + 1) * 8 <= 140737488355328) /\ K11 n51 f51 s51 x71 (i64.wrap (x9 + 1)) (n_01 && false) (s_01 ++ [[Z6 n9]]) else aD es x71 1 /\ ∃ n9 f4 es3, (es.getD x71.toNat []).head? = some (PV.sl n9 f4 es3) /\ aD ss x9 1 /\ ∃ n10 f6 es4, (ss.getD x9.toNat []).head? = some (PV.sl n10 f6 es4) /\ PCall qa 21 [PV.sl n9 f4 es3, PV.sl n10 f6 es4] fun v1 => ∃ b1, v1 = Zb b1 /\ if b1 = true then V4 else (aU [[Z6 n7]] 1 /\ (s_01.length + 1) * 8 <= 140737488355328) /\ K11 n51 f51 s51 x71 (i64.wrap (x9 + 1)) (n_01 && false) (s_01 ++ [[Z6 n7]]) else K7 n_01 false s_01 (i64.wrap (x71 + 1))
def zmc (n f : Bool) (es : LL) (n2 f2 : Bool) (ss : LL) (ν : Nat) (J3 : Int -> Bool -> LL -> Prop) (μ3 : Int -> Bool -> LL -> Nat) (J4 : Bool -> Bool -> LL -> Int -> Prop) (μ4 : Bool -> Bool -> LL -> Int -> Nat) (J5 : Bool -> Bool -> LL -> Int -> Int -> Bool -> LL -> Bool -> Bool -> LL -> Int -> Int -> Bool -> LL -> Prop) (μ5 : Bool -> Bool -> LL -> Int -> Int -> Bool -> LL -> Nat) (R : PV -> Prop) : Prop := (aG (zdy n f es n2 f2 ss (0 : Int) true []) /\ J3 (0 : Int) true []) /\ ∀ (x6 : Int) (n_0 : Bool) (s_0 : LL), J3 x6 n_0 s_0 -> if decide (x6 <= (↑ss.length : Int)) = true then (aU [[Z6 0]] 1 /\ (s_0.length + 1) * 8 <= 140737488355328) /\ aG (zdy n f es n2 f2 ss (i64.wrap (x6 + 1)) (n_0 && false) (s_0 ++ [[Z6 0]])) /\ J3 (i64.wrap (x6 + 1)) (n_0 && false) (s_0 ++ [[Z6 0]]) /\ μ3 (i64.wrap (x6 + 1)) (n_0 && false) (s_0 ++ [[Z6 0]]) < μ3 x6 n_0 s_0 else (aG (zdz n f es n2 f2 ss n_0 false s_0 (0 : Int)) /\ J4 n_0 false s_0 (0 : Int)) /\ ∀ (n5 f5 : Bool) (s5 : LL) (x7 : Int), J4 n5 f5 s5 x7 ->
 let K7 := fun (y0_ y1_ : Bool) (y2_ : LL) (y3_ : Int) => aG (zdz n f es n2 f2 ss y0_ y1_ y2_ y3_) /\ J4 y0_ y1_ y2_ y3_ /\ μ4 y0_ y1_ y2_ y3_ < μ4 n5 f5 s5 x7; if decide (x7 < (↑es.length : Int)) = true then if decide ((0 : Int) < (↑ss.length : Int)) = true then aD s5 (i64.wrap ((0 : Int) + 1)) 1 /\ ∃ n1, (s5.getD 1 []).head? = some (Z6 n1) /\ aD [[Z6 0]] (0 : Int) 1 /\ ∃ n3, some (Z6 0) = some (Z6 n3) /\
 let V1 := aD s5 (0 : Int) 1 /\ ∃ n8, (s5.getD 0 []).head? = some (Z6 n8) /\ gZ true [[Z6 0]] [[Z6 (i64.wrap (n8 + 1))]] 1 8 /\ (aG (tP n f es n2 f2 ss n5 f5 s5 x7 (i64.wrap ((0 : Int) + 1)) false [[Z6 0], [Z6 (i64.wrap (n8 + 1))]]) /\ J5 n5 f5 s5 x7 (i64.wrap ((0 : Int) + 1)) false [[Z6 0], [Z6 (i64.wrap (n8 + 1))]] n5 f5 s5 x7 (i64.wrap ((0 : Int) + 1)) false [[Z6 0], [Z6 (i64.wrap (n8 + 1))]] /\ μ5 n5 f5 s5 x7 (i64.wrap ((0 : Int) + 1)) false [[Z6 0], [Z6 (i64.wrap (n8 + 1))]] < ν) /\ tQ n f es n2 f2 ss J5 μ5 K7 n5 f5 s5 x7 [[Z6 0], [Z6 (i64.wrap (n8 + 1))]]; if decide (n3 > n1) = true then aD [[Z6 0]] (0 : Int) 1 /\ ∃ n4, some (Z6 0) = some (Z6 n4) /\ aD es x7 1 /\ ∃ n6 f1 es1, (es.getD x7.toNat []).head? = some (PV.sl n6 f1 es1) /\ aD ss (0 : Int) 1 /\ ∃ n7 f3 es2, (ss.getD 0 []).head? = some (PV.sl n7 f3 es2) /\ PCall qa 21 [PV.sl n6 f1 es1, PV.sl n7 f3 es2] fun v => ∃ b, v = Zb b /\ if b = true then V1 else gZ true [[Z6 0]] [[Z6 n4]] 1 8 /\ (aG (tP n f es n2 f2 ss n5 f5 s5 x7 (i64.wrap ((0 : Int) + 1)) false [[Z6 0], [Z6 n4]]) /\ J5 n5 f5 s5 x7 (i64.wrap ((0 : Int) + 1)) false [[Z6 0], [Z6 n4]] n5 f5 s5 x7 (i64.wrap ((0 : Int) + 1)) false [[Z6 0], [Z6 n4]] /\ μ5 n5 f5 s5 x7 (i64.wrap ((0 : Int) + 1)) false [[Z6 0], [Z6 n4]] < ν) /\ tQ n f es n2 f2 ss J5 μ5 K7 n5 f5 s5 x7 [[Z6 0], [Z6 n4]] else aD es x7 1 /\ ∃ n4 f1 es1, (es.getD x7.toNat []).head? = some (PV.sl n4 f1 es1) /\ aD ss (0 : Int) 1 /\ ∃ n6 f3 es2, (ss.getD 0 []).head? = some (PV.sl n6 f3 es2) /\ PCall qa 21 [PV.sl n4 f1 es1, PV.sl n6 f3 es2] fun v => ∃ b, v = Zb b /\ if b = true then V1 else gZ true [[Z6 0]] [[Z6 n1]] 1 8 /\ (aG (tP n f es n2 f2 ss n5 f5 s5 x7 (i64.wrap ((0 : Int) + 1)) false [[Z6 0], [Z6 n1]]) /\ J5 n5 f5 s5 x7 (i64.wrap ((0 : Int) + 1)) false [[Z6 0], [Z6 n1]] n5 f5 s5 x7 (i64.wrap ((0 : Int) + 1)) false [[Z6 0], [Z6 n1]] /\ μ5 n5 f5 s5 x7 (i64.wrap ((0 : Int) + 1)) false [[Z6 0], [Z6 n1]] < ν) /\ tQ n f es n2 f2 ss J5 μ5 K7 n5 f5 s5 x7 [[Z6 0], [Z6 n1]] else K7 false true [[Z6 0]] (i64.wrap (x7 + 1)) else aD s5 (↑ss.length : Int) 1 /\ ∃ n1, (s5.getD (↑ss.length : Int).toNat []).head? = some (Z6 n1) /\ R (Z6 n1)
theorem zx2 (n f : Bool) (es : LL) (n2 f2 : Bool) (ss : LL) (ν : Nat) (J3 : Int -> Bool -> LL -> Prop) (μ3 : Int -> Bool -> LL -> Nat) (J4 : Bool -> Bool -> LL -> Int -> Prop) (μ4 : Bool -> Bool -> LL -> Int -> Nat) (J5 : Bool -> Bool -> LL -> Int -> Int -> Bool -> LL -> Bool -> Bool -> LL -> Int -> Int -> Bool -> LL -> Prop) (μ5 : Bool -> Bool -> LL -> Int -> Int -> Bool -> LL -> Nat) {R : PV -> Prop} (h : zmc n f es n2 f2 ss ν J3 μ3 J4 μ4 J5 μ5 R) : PCall qa 16 [.sl n f es, .sl n2 f2 ss] R :=
 PCall.wz Tryz.func16 aR [0, 1, 4, 5, 6, 7, 8, 9, 10, 14, 23, 30, 43, 56] (fun zz_ => match zz_ with | 3 => some ⟨Int × Bool × LL, fun s => zdy n f es n2 f2 ss s.1 s.2.1 s.2.2, fun _ s => J3 s.1 s.2.1 s.2.2, fun s => μ3 s.1 s.2.1 s.2.2, fun e h => (gI e 6, oN h 0, oS h 0), [(5, 3, 1)], [0, 1, 5, 6], [], fun p => ∀ (x6 : Int) (n_0 : Bool) (s_0 : LL), p (x6, n_0, s_0), fun p h s => h s.1 s.2.1 s.2.2⟩ | 7 => some ⟨Bool × Bool × LL × Int, fun s => zdz n f es n2 f2 ss s.1 s.2.1 s.2.2.1 s.2.2.2, fun _ s => J4 s.1 s.2.1 s.2.2.1 s.2.2.2, fun s => μ4 s.1 s.2.1 s.2.2.1 s.2.2.2, fun e h => (gN e 5, gF e 5, gS e 5, gI e 7), [], [0, 1, 5, 7], [], fun p => ∀ (n5 f5 : Bool) (s5 : LL) (x7 : Int), p (n5, f5, s5, x7), fun p h s => h s.1 s.2.1 s.2.2.1 s.2.2.2⟩ | 11 => some ⟨Bool × Bool × LL × Int × Int × Bool × LL, fun s => tP n f es n2 f2 ss s.1 s.2.1 s.2.2.1 s.2.2.2.1 s.2.2.2.2.1 s.2.2.2.2.2.1 s.2.2.2.2.2.2, fun t s => J5 t.1 t.2.1 t.2.2.1 t.2.2.2.1 t.2.2.2.2.1 t.2.2.2.2.2.1 t.2.2.2.2.2.2 s.1 s.2.1 s.2.2.1 s.2.2.2.1 s.2.2.2.2.1 s.2.2.2.2.2.1 s.2.2.2.2.2.2, fun s => μ5 s.1 s.2.1 s.2.2.1 s.2.2.2.1 s.2.2.2.2.1 s.2.2.2.2.2.1 s.2.2.2.2.2.2, fun e h => (gN e 5, gF e 5, gS e 5, gI e 7, gI e 9, oN h 0, oS h 0), [], [0, 1, 5, 7, 8, 9], [], fun p => ∀ (n5 f5 : Bool) (s5 : LL) (x7 x9 : Int) (n_0 : Bool) (s_0 : LL), p (n5, f5, s5, x7, x9, n_0, s_0), fun p h s => h s.1 s.2.1 s.2.2.1 s.2.2.2.1 s.2.2.2.2.1 s.2.2.2.2.2.1 s.2.2.2.2.2.2⟩ | 1000011 => some ⟨Unit, fun _ => ([], []), fun _ _ => True, fun _ => ν, fun _ _ => (), [], [], [], fun p => p (), fun p h _ => h⟩ | 2000007 => some ⟨Unit, fun _ => ([], []), fun _ _ => True, fun _ => 0, fun _ _ => (), [], [5], [], fun p => p (), fun p h _ => h⟩ | _ => none) h

def zmd  (R : PV -> Prop) : Prop :=
 PCall qa 8 [] fun v => ∃ n f es, v = PV.sl n f es /\ PCall qa 10 [PV.sl n f es] fun v1 => PCall qa 9 [v1, PV.sl false true [[Z3 97], [Z3 98], [Z3 99]], PV.sl false true [[Z3 97], [Z3 120], [Z3 99]]] fun v2 => ∃ vs, v2 = PV.tup vs /\ vs.length = 2 /\ ∃ x, vs.head? = some x /\ ∃ n1 f1 es1, x = PV.sl n1 f1 es1 /\ ∃ x1, vs.tail.head? = some x1 /\ ∃ n2, x1 = Z6 n2 /\ if (n2 == 0 && (↑es1.length : Int) == 4) = true then aD es1 (0 : Int) 3 /\ ∃ n3, (qc 0 (es1.getD 0 [])).head? = some (Z6 n3) /\ if (n3 == 0) = true then aD es1 (1 : Int) 3 /\ ∃ n4, (qc 0 (es1.getD 1 [])).head? = some (Z6 n4) /\ if (n4 == 1) = true then aD es1 (2 : Int) 3 /\ ∃ n5, (qc 0 (es1.getD 2 [])).head? = some (Z6 n5) /\ if (n5 == 2) = true then PCall qa 15 [PV.sl n1 f1 es1] fun v3 => ∃ n6, v3 = Z6 n6 /\ R (Zb (n6 == 2)) else R (Zb false) else R (Zb false) else R (Zb false) else R (Zb false)
theorem zx3  {R : PV -> Prop} (h : zmd  R) : PCall qa 13 [] R :=
 PCall.wz Tryz.func13 aR [0, 1, 2] bE h

def zd0 (n f : Bool) (es : LL) (n2 f2 : Bool) (ss : LL) (x5 : Int) : Env × Hp := ([(0, LV.pv (PV.sl n f es)), (1, LV.pv (PV.sl n2 f2 ss)), (5, Y6 x5)], [])
section
variable (n f : Bool) (es : LL) (n2 f2 : Bool) (ss : LL) (J : Int -> Prop) (μ : Int -> Nat)
def zme (R : PV -> Prop) : Prop :=
 if ((↑es.length : Int) != (↑ss.length : Int)) = true then R (Zb false) else (aG (zd0 n f es n2 f2 ss (0 : Int)) /\ J (0 : Int)) /\ ∀ (x5 : Int), J x5 -> if decide (x5 < (↑es.length : Int)) = true then aD es x5 3 /\ ∃ n1, (qc 0 (es.getD x5.toNat [])).head? = some (Z6 n1) /\ aD ss x5 3 /\ ∃ n3, (qc 0 (ss.getD x5.toNat [])).head? = some (Z6 n3) /\ if (n1 != n3) = true then R (Zb false) else aD es x5 3 /\ ∃ n4, (qc 1 (es.getD x5.toNat [])).head? = some (Z6 n4) /\ aD ss x5 3 /\ ∃ n5, (qc 1 (ss.getD x5.toNat [])).head? = some (Z6 n5) /\ if (n4 != n5) = true then R (Zb false) else aD es x5 3 /\ ∃ n6 f1 es1, (qc 2 (es.getD x5.toNat [])).head? = some (PV.sl n6 f1 es1) /\ aD ss x5 3 /\ ∃ n7 f3 es2, (qc 2 (ss.getD x5.toNat [])).head? = some (PV.sl n7 f3 es2) /\ PCall qa 21 [PV.sl n6 f1 es1, PV.sl n7 f3 es2] fun v => ∃ b, v = Zb b /\ if (!b) = true then R (Zb false) else aG (zd0 n f es n2 f2 ss (i64.wrap (x5 + 1))) /\ J (i64.wrap (x5 + 1)) /\ μ (i64.wrap (x5 + 1)) < μ x5 else R (Zb true)
theorem zx4 {R : PV -> Prop} (h : zme n f es n2 f2 ss J μ R) : PCall qa 11 [.sl n f es, .sl n2 f2 ss] R :=
 PCall.wz Tryz.func11 aR [0, 1, 4, 5, 10, 14, 54] (dA 4 (bN cz1 (zd0 n f es n2 f2 ss) J μ (fun e h => (((gI e 5), ()))) [] [0, 1, 5] [])) h
end
section
variable (n f : Bool) (es : LL) (n2 f2 : Bool) (ss : LL)
def zmf (R : PV -> Prop) : Prop :=
 PCall qa 7 [PV.sl n f es, Z6 16] fun v => ∃ n1 f1 es1, v = PV.sl n1 f1 es1 /\ PCall qa 7 [PV.sl n2 f2 ss, Z6 16] fun v1 => ∃ n3 f3 es2, v1 = PV.sl n3 f3 es2 /\ PCall qa 8 [] fun v2 => ∃ n4 f4 es3, v2 = PV.sl n4 f4 es3 /\ PCall qa 10 [PV.sl n4 f4 es3] fun v3 => PCall qa 9 [v3, PV.sl n1 f1 es1, PV.sl n3 f3 es2] fun v4 => ∃ vs, v4 = PV.tup vs /\ vs.length = 2 /\ ∃ x, vs.head? = some x /\ ∃ n5 f5 es4, x = PV.sl n5 f5 es4 /\ ∃ x1, vs.tail.head? = some x1 /\ ∃ n6, x1 = Z6 n6 /\ if (n6 == 0) = true then PCall qa 12 [PV.sl n4 f4 es3, PV.sl n1 f1 es1, PV.sl n3 f3 es2] fun v5 => ∃ n7 f6 es5, v5 = PV.sl n7 f6 es5 /\ PCall qa 11 [PV.sl n5 f5 es4, PV.sl n7 f6 es5] fun v6 => ∃ b, v6 = Zb b /\ if b = true then PCall qa 13 [] fun v7 => ∃ b1, v7 = Zb b1 /\ R (Zb b1) else R (Zb false) else R (Zb false)
theorem zx5 {R : PV -> Prop} (h : zmf n f es n2 f2 ss R) : PCall qa 3 [.sl n f es, .sl n2 f2 ss] R :=
 PCall.wz Tryz.func3 aR [0, 1, 4, 5, 6, 7] bE h
end
section
variable (n f : Bool) (es : LL) (k : Int)
def zmg (R : PV -> Prop) : Prop :=
 if decide ((↑es.length : Int) > k) = true then (dS es.length none (some k) none /\ aU es 1) /\ R (PV.sl n (f && decide (k = (↑es.length : Int))) (qc 0 (qak k.toNat es))) else R (PV.sl n f es)
theorem zx6 {R : PV -> Prop} (h : zmg n f es k R) : PCall qa 7 [.sl n f es, .int .i64 k] R :=
 PCall.wz Tryz.func7 aR [0, 1, 4, 8] bE h
end
def zd1 (n f : Bool) (es : LL) (n2 f2 : Bool) (es2 : LL) (x5 : Int) : Env × Hp := ([(0, LV.pv (PV.sl n f es)), (1, LV.pv (PV.sl n2 f2 es2)), (5, Y6 x5)], [])
section
variable (n f : Bool) (es : LL) (n2 f2 : Bool) (es2 : LL) (J : Int -> Prop) (μ : Int -> Nat)
def zd2 (R : PV -> Prop) : Prop :=
 if ((↑es.length : Int) != (↑es2.length : Int)) = true then R (Zb false) else (aG (zd1 n f es n2 f2 es2 (0 : Int)) /\ J (0 : Int)) /\ ∀ (x5 : Int), J x5 -> if decide (x5 < (↑es.length : Int)) = true then aD es x5 1 /\ ∃ n1, (es.getD x5.toNat []).head? = some (Z3 n1) /\ aD es2 x5 1 /\ ∃ n3, (es2.getD x5.toNat []).head? = some (Z3 n3) /\ if (n1 != n3) = true then R (Zb false) else aG (zd1 n f es n2 f2 es2 (i64.wrap (x5 + 1))) /\ J (i64.wrap (x5 + 1)) /\ μ (i64.wrap (x5 + 1)) < μ x5 else R (Zb true)
theorem zx7 {R : PV -> Prop} (h : zd2 n f es n2 f2 es2 J μ R) : PCall qa 21 [.sl n f es, .sl n2 f2 es2] R :=
 PCall.wz Tryz.func21 aR [0, 1, 4, 5, 10, 14, 25] (dA 4 (bN cz1 (zd1 n f es n2 f2 es2) J μ (fun e h => (((gI e 5), ()))) [] [0, 1, 5] [])) h
end
def zd3 (n f : Bool) (es : LL) (n2 f2 : Bool) (ss : LL) (x7 : Int) (n_0 : Bool) (s_0 : LL) (n_1 : Bool) (s_1 : LL) : Env × Hp := ([(0, LV.pv (PV.sl n f es)), (1, LV.pv (PV.sl n2 f2 ss)), (5, LV.own 0), (6, LV.own 1), (7, Y6 x7)], [.sl (21, 1) true n_0 s_0, .sl (3, 1) true n_1 s_1])
def zd4 (n f : Bool) (es : LL) (n2 f2 : Bool) (ss : LL) (x7 x8 x9 : Int) (n_0 : Bool) (s_0 : LL) (n_1 : Bool) (s_1 : LL) : Env × Hp := ([(0, LV.pv (PV.sl n f es)), (1, LV.pv (PV.sl n2 f2 ss)), (5, LV.own 0), (6, LV.own 1), (7, Y6 x7), (8, Y6 x8), (9, Y6 x9)], [.sl (21, 1) true n_0 s_0, .sl (3, 1) true n_1 s_1])
section
variable (n f : Bool) (es : LL) (n2 f2 : Bool) (ss : LL) (J : Int -> Bool -> LL -> Bool -> LL -> Prop) (μ : Int -> Bool -> LL -> Bool -> LL -> Nat) (J2 : Int -> Int -> Int -> Bool -> LL -> Bool -> LL -> Int -> Int -> Int -> Bool -> LL -> Bool -> LL -> Prop) (μ2 : Int -> Int -> Int -> Bool -> LL -> Bool -> LL -> Nat)
def zmh (R : PV -> Prop) : Prop :=
 (aG (zd3 n f es n2 f2 ss (0 : Int) true [] true []) /\ J (0 : Int) true [] true []) /\ ∀ (x7 : Int) (n_0 : Bool) (s_0 : LL) (n_1 : Bool) (s_1 : LL), J x7 n_0 s_0 n_1 s_1 -> if decide (x7 < (↑ss.length : Int)) = true then aD ss x7 1 /\ ∃ n1, (ss.getD x7.toNat []).head? = some (Z3 n1) /\ PCall qa 96 [PV.sl n f es, Z3 n1] fun v => ∃ n3, v = Z6 n3 /\ aD ss x7 1 /\ ∃ n4, (ss.getD x7.toNat []).head? = some (Z3 n4) /\ (aU [[Z3 n4]] 1 /\ (s_0.length + 1) * 4 <= 140737488355328) /\ (aU [[Z6 n3]] 1 /\ (s_1.length + 1) * 8 <= 140737488355328) /\ (aG (zd4 n f es n2 f2 ss x7 n3 (↑s_0.length : Int) (n_0 && false) (s_0 ++ [[Z3 n4]]) (n_1 && false) (s_1 ++ [[Z6 n3]])) /\ J2 x7 n3 (↑s_0.length : Int) (n_0 && false) (s_0 ++ [[Z3 n4]]) (n_1 && false) (s_1 ++ [[Z6 n3]]) x7 n3 (↑s_0.length : Int) (n_0 && false) (s_0 ++ [[Z3 n4]]) (n_1 && false) (s_1 ++ [[Z6 n3]])) /\ ∀ (x71 x8 x9 : Int) (n_01 : Bool) (s_01 : LL) (n_11 : Bool) (s_11 : LL), J2 x7 n3 (↑s_0.length : Int) (n_0 && false) (s_0 ++ [[Z3 n4]]) (n_1 && false) (s_1 ++ [[Z6 n3]]) x71 x8 x9 n_01 s_01 n_11 s_11 ->
 let V1 := aG (zd3 n f es n2 f2 ss (i64.wrap (x71 + 1)) n_01 s_01 n_11 s_11) /\ J (i64.wrap (x71 + 1)) n_01 s_01 n_11 s_11 /\ μ (i64.wrap (x71 + 1)) n_01 s_01 n_11 s_11 < μ x7 n_0 s_0 n_1 s_1; if (decide (x9 > 0) && x8 != 0) = true then aD s_11 (i64.wrap (x9 - 1)) 1 /\ ∃ n5, (qc 0 (s_11.getD (i64.wrap (x9 - 1)).toNat [])).head? = some (Z6 n5) /\ if decide (n5 > x8) = true then aD s_01 (i64.wrap (x9 - 1)) 1 /\ ∃ n6, (qc 0 (s_01.getD (i64.wrap (x9 - 1)).toNat [])).head? = some (Z3 n6) /\ aD s_01 x9 1 /\ (1 = 1 /\ 1 <= (s_01.getD x9.toNat []).length) /\ aD s_11 (i64.wrap (x9 - 1)) 1 /\ ∃ n7, (qc 0 (s_11.getD (i64.wrap (x9 - 1)).toNat [])).head? = some (Z6 n7) /\ aD s_11 x9 1 /\ (1 = 1 /\ 1 <= (s_11.getD x9.toNat []).length) /\ aD ss x71 1 /\ ∃ n8, (ss.getD x71.toNat []).head? = some (Z3 n8) /\ aD (s_01.set x9.toNat (Z3 n6 :: zq (qc 1 (s_01.getD x9.toNat [])))) (i64.wrap (x9 - 1)) 1 /\ (1 = 1 /\ 1 <= ((s_01.set x9.toNat (Z3 n6 :: zq (qc 1 (s_01.getD x9.toNat [])))).getD (i64.wrap (x9 - 1)).toNat []).length) /\ aD (s_11.set x9.toNat (Z6 n7 :: zq (qc 1 (s_11.getD x9.toNat [])))) (i64.wrap (x9 - 1)) 1 /\ (1 = 1 /\ 1 <= ((s_11.set x9.toNat (Z6 n7 :: zq (qc 1 (s_11.getD x9.toNat [])))).getD (i64.wrap (x9 - 1)).toNat []).length) /\ aG (zd4 n f es n2 f2 ss x71 x8 (i64.wrap (x9 - 1)) n_01 ((s_01.set x9.toNat (Z3 n6 :: zq (qc 1 (s_01.getD x9.toNat [])))).set (i64.wrap (x9 - 1)).toNat (Z3 n8 :: zq (qc 1 ((s_01.set x9.toNat (Z3 n6 :: zq (qc 1 (s_01.getD x9.toNat [])))).getD (i64.wrap (x9 - 1)).toNat [])))) n_11 ((s_11.set x9.toNat (Z6 n7 :: zq (qc 1 (s_11.getD x9.toNat [])))).set (i64.wrap (x9 - 1)).toNat (Z6 x8 :: zq (qc 1 ((s_11.set x9.toNat (Z6 n7 :: zq (qc 1 (s_11.getD x9.toNat [])))).getD (i64.wrap (x9 - 1)).toNat []))))) /\ J2 x7 n3 (↑s_0.length : Int) (n_0 && false) (s_0 ++ [[Z3 n4]]) (n_1 && false) (s_1 ++ [[Z6 n3]]) x71 x8 (i64.wrap (x9 - 1)) n_01 ((s_01.set x9.toNat (Z3 n6 :: zq (qc 1 (s_01.getD x9.toNat [])))).set (i64.wrap (x9 - 1)).toNat (Z3 n8 :: zq (qc 1 ((s_01.set x9.toNat (Z3 n6 :: zq (qc 1 (s_01.getD x9.toNat [])))).getD (i64.wrap (x9 - 1)).toNat [])))) n_11 ((s_11.set x9.toNat (Z6 n7 :: zq (qc 1 (s_11.getD x9.toNat [])))).set (i64.wrap (x9 - 1)).toNat (Z6 x8 :: zq (qc 1 ((s_11.set x9.toNat (Z6 n7 :: zq (qc 1 (s_11.getD x9.toNat [])))).getD (i64.wrap (x9 - 1)).toNat [])))) /\ μ2 x71 x8 (i64.wrap (x9 - 1)) n_01 ((s_01.set x9.toNat (Z3 n6 :: zq (qc 1 (s_01.getD x9.toNat [])))).set (i64.wrap (x9 - 1)).toNat (Z3 n8 :: zq (qc 1 ((s_01.set x9.toNat (Z3 n6 :: zq (qc 1 (s_01.getD x9.toNat [])))).getD (i64.wrap (x9 - 1)).toNat [])))) n_11 ((s_11.set x9.toNat (Z6 n7 :: zq (qc 1 (s_11.getD x9.toNat [])))).set (i64.wrap (x9 - 1)).toNat (Z6 x8 :: zq (qc 1 ((s_11.set x9.toNat (Z6 n7 :: zq (qc 1 (s_11.getD x9.toNat [])))).getD (i64.wrap (x9 - 1)).toNat [])))) < μ2 x71 x8 x9 n_01 s_01 n_11 s_11 else V1 else V1 else R (PV.sl n_0 false s_0)
theorem zx8 {R : PV -> Prop} (h : zmh n f es n2 f2 ss J μ J2 μ2 R) : PCall qa 78 [.sl n f es, .sl n2 f2 ss] R :=
 PCall.wz Tryz.func78 aR [0, 1, 4, 5, 6, 7, 8, 9, 13, 49] (iM [(4, (bN cz5 (zd3 n f es n2 f2 ss) J μ (fun e h => (gI e 7, oN h 0, oS h 0, oN h 1, oS h 1)) [(5, 21, 1), (6, 3, 1)] [0, 1, 5, 6, 7] [])), (10, (iA cz7 (zd4 n f es n2 f2 ss) J2 μ2 (fun e h => (gI e 7, gI e 8, gI e 9, oN h 0, oS h 0, oN h 1, oS h 1)) [] [0, 1, 5, 6, 7, 8, 9] []))]) h
end
def zd5 (tc tg tj tf tp : PV) (M S : List (PV × PV)) (n f : Bool) (es : LL) (x12 : Int) (h0_0 : PV) (n_1 : Bool) (s_1 : LL) : Env × Hp := ([(0, LV.pv (PV.ptr [tc, tg, tj, tf, tp, PV.mp M, PV.mp S])), (5, LV.box 0 0), (10, LV.pv (PV.sl n f es)), (11, LV.pv (PV.int i64 (es.length : Int))), (12, Y6 x12)], [.box [.pv h0_0, LV.own 1], .sl (21, 1) true n_1 s_1])
section
variable (tc tg tj tf tp : PV) (M S : List (PV × PV)) (n f : Bool) (es : LL) (J : Int -> PV -> Bool -> LL -> Prop) (μ : Int -> PV -> Bool -> LL -> Nat)
def zmi (R : PV -> Prop) : Prop :=
 gD (PV.ptr [tc, tg, tj, tf, tp, PV.mp M, PV.mp S]) = true /\ (aG (zd5 tc tg tj tf tp M S n f es (0 : Int) (PV.ptr [tc, tg, tj, tf, tp, PV.mp M, PV.mp S]) true []) /\ J (0 : Int) (PV.ptr [tc, tg, tj, tf, tp, PV.mp M, PV.mp S]) true []) /\ ∀ (x12 : Int) (h0_0 : PV) (n_1 : Bool) (s_1 : LL), J x12 h0_0 n_1 s_1 -> if decide (x12 < (↑es.length : Int)) = true then aD es x12 1 /\ ∃ n1, (es.getD x12.toNat []).head? = some (Z3 n1) /\ ACall qa 81 [LV.box 0 0, LV.pv (Z3 n1), Y6 8] [Ob.box [LV.pv h0_0, LV.own 1], Ob.sl (21, 1) false n_1 s_1] fun (r : LV) (h' : Hp) => ∃ (t : Bool × LL), (r = LV.tup [] /\ h' = [Ob.box [LV.pv h0_0, LV.own 1], Ob.sl (21, 1) true t.fst t.snd]) /\ (True /\ True /\ True) /\ aG (zd5 tc tg tj tf tp M S n f es (i64.wrap (x12 + 1)) h0_0 t.fst t.snd) /\ J (i64.wrap (x12 + 1)) h0_0 t.fst t.snd /\ μ (i64.wrap (x12 + 1)) h0_0 t.fst t.snd < μ x12 h0_0 n_1 s_1 else PCall qa 82 [PV.ptr [tc, tg, tj, tf, tp, PV.mp M, PV.mp S], PV.sl n_1 false s_1] fun v => ∃ n1 f1 es1, v = PV.sl n1 f1 es1 /\ R (PV.sl n1 f1 es1)
theorem zx9 {R : PV -> Prop} (h : zmi tc tg tj tf tp M S n f es J μ R) : PCall qa 55 [.ptr [tc, tg, tj, tf, tp, .mp M, .mp S], .sl n f es] R :=
 PCall.wz Tryz.func55 (fun zz_ => match zz_ with | 81 => some ⟨Bool × LL, fun _ hs t => (.tup [], match hs with | [.box (x :: _), .sl ty _ _ _] => [.box [x, .own 1], .sl ty true t.1 t.2] | [.box (x :: _)] => [.box [x, .own 1], .sl (21, 1) true t.1 t.2] | h => h), none⟩ | _ => none) [0, 1, 4, 5, 7, 10, 11, 12, 13] (dA 3 (bN jQ (zd5 tc tg tj tf tp M S n f es) J μ (fun e h => (gI e 12, hP h 0 0, oN h 1, oS h 1)) [(1000001, 21, 1)] [0, 5, 10, 11, 12] [])) h
end
def zd6 (n f : Bool) (es : LL) (n2 f2 : Bool) (ss : LL) (x6 : Int) (n_0 : Bool) (s_0 : LL) : Env × Hp := ([(0, LV.pv (PV.sl n f es)), (1, LV.pv (PV.sl n2 f2 ss)), (5, LV.own 0), (6, Y6 x6)], [.sl (21, 1) true n_0 s_0])
section
variable (n f : Bool) (es : LL) (n2 f2 : Bool) (ss : LL) (J : Int -> Bool -> LL -> Prop) (μ : Int -> Bool -> LL -> Nat)
def zmj (R : PV -> Prop) : Prop :=
 (aG (zd6 n f es n2 f2 ss (0 : Int) true []) /\ J (0 : Int) true []) /\ ∀ (x6 : Int) (n_0 : Bool) (s_0 : LL), J x6 n_0 s_0 ->
 let K3 := fun (y0_ : Int) (y1_ : Bool) (y2_ : LL) => aG (zd6 n f es n2 f2 ss y0_ y1_ y2_) /\ J y0_ y1_ y2_ /\ μ y0_ y1_ y2_ < μ x6 n_0 s_0; if decide (x6 < (↑ss.length : Int)) = true then aD ss x6 1 /\ ∃ n1, (ss.getD x6.toNat []).head? = some (Z3 n1) /\ ACall qa 77 [LV.pv (PV.sl n f es), LV.pv (Z3 n1), Y6 8] [] fun (r : LV) (h' : Hp) => (∃ (t : Bool × LL), (r = LV.own 0 /\ h' = [Ob.sl (21, 1) true t.fst t.snd]) /\ True /\ (aU t.snd 1 /\ (s_0.length + t.snd.length) * 4 <= 140737488355328) /\ K3 (i64.wrap (x6 + 1)) (n_0 && t.snd.isEmpty) (s_0 ++ t.snd)) ∨ ∃ (t : LL), (r = LV.pv (PV.sl false true t) /\ h' = []) /\ True /\ (aU t 1 /\ (s_0.length + t.length) * 4 <= 140737488355328) /\ K3 (i64.wrap (x6 + 1)) (n_0 && t.isEmpty) (s_0 ++ t) else PCall qa 78 [PV.sl n f es, PV.sl n_0 false s_0] fun v => ∃ n1 f1 es1, v = PV.sl n1 f1 es1 /\ R (PV.sl n1 f1 es1)
theorem zya {R : PV -> Prop} (h : zmj n f es n2 f2 ss J μ R) : PCall qa 52 [.sl n f es, .sl n2 f2 ss] R :=
 PCall.wz Tryz.func52 (fun zz_ => match zz_ with | 77 => some ⟨Bool × LL, fun _ hs t => (.own hs.length, hs ++ [.sl (21, 1) true t.1 t.2]), some ⟨LL, fun _ hs t => (.pv (.sl false true t), hs)⟩⟩ | _ => none) [0, 1, 4, 5, 6, 10] (dA 3 (bN eG (zd6 n f es n2 f2 ss) J μ (fun e h => (gI e 6, oN h 0, oS h 0)) [(5, 21, 1)] [0, 1, 5, 6] [])) h
end
def zd7 (n f : Bool) (es : LL) (n2 f2 : Bool) (ss : LL) (x13 : Int) : Env × Hp := ([(0, LV.pv (PV.sl n f es)), (1, LV.pv (PV.sl n2 f2 ss)), (12, LV.pv (PV.int i64 (es.length : Int))), (13, Y6 x13)], [])
section
variable (n f : Bool) (es : LL) (n2 f2 : Bool) (ss : LL) (J : Int -> Prop) (μ : Int -> Nat)
def zd8 (R : PV -> Prop) : Prop :=
 if ((↑es.length : Int) != (↑ss.length : Int)) = true then R (Zb false) else (aG (zd7 n f es n2 f2 ss (0 : Int)) /\ J (0 : Int)) /\ ∀ (x13 : Int), J x13 -> if decide (x13 < (↑es.length : Int)) = true then aD es x13 1 /\ ∃ n1, (es.getD x13.toNat []).head? = some (Z3 n1) /\ aD ss x13 1 /\ ∃ n3, (ss.getD x13.toNat []).head? = some (Z3 n3) /\ if (n1 != n3) = true then R (Zb false) else aG (zd7 n f es n2 f2 ss (i64.wrap (x13 + 1))) /\ J (i64.wrap (x13 + 1)) /\ μ (i64.wrap (x13 + 1)) < μ x13 else R (Zb true)
theorem zyb {R : PV -> Prop} (h : zd8 n f es n2 f2 ss J μ R) : PCall qa 36 [.sl n f es, .sl n2 f2 ss] R :=
 PCall.wz Tryz.func36 aR [0, 1, 4, 5, 10, 12, 13, 14, 24] (dA 4 (bN cz1 (zd7 n f es n2 f2 ss) J μ (fun e h => (((gI e 13), ()))) [] [0, 1, 12, 13] [])) h
end
end Go.Eng
namespace Go.Eng
open Go Go.Proofs Go.Eng.Rows Go.Eng.Trie
theorem xO : dN tab := zsg (by kernel_rfl)
theorem tR : eS tab := zsi (by kernel_rfl)
theorem xP : iO tab := zsk (by kernel_rfl)
theorem q1 : sZ tab false 0 [101, 769] = 2 := by kernel_rfl
theorem q2 : sZ tab false 0 [233] = 0 := by kernel_rfl
theorem q3 : sZ tab false 0 [769, 807] = 1 := by kernel_rfl
theorem q4 : sZ tab false 0 [8491] = 1 := by kernel_rfl
theorem q5 : zaz tab 101 = true := by kernel_rfl
theorem q6 : zaz tab 769 = false := by kernel_rfl
theorem q7 : zaz tab 4449 = false := by kernel_rfl
theorem zmk {α : Type} (p : α -> Bool) : ∀ {A : List α} (B : List α), (∀ x ∈ A, p x = false) -> (A ++ B).find? p = B.find? p
 | [], B, _ => rfl
 | a :: A, B, h => by
   rw [qaq, qat, h a qap];exact zmk p B fun x hx => h x (qal _ hx)
theorem zml {α : Type} (p : α -> Bool) : ∀ (A : List α) {B : List α}, (∀ x ∈ B, p x = false) -> (A ++ B).find? p = A.find? p
 | [], B, h => List.find?_eq_none.2 fun x hx => by rw [h x hx]; simp
 | a :: A, B, h => by
   rw [qaq, qat, qat];cases p a with
   | true => rfl
   | false => exact zml p A h
def noK (k : Int) (l : List Row) : Bool := l.all fun x => !decide (x.kind = k)
theorem zmm {k r : Int} {l : List Row} (h : noK k l = true) : ∀ x ∈ l, x.has k r = false := fun x hx => by
 have := List.all_eq_true.1 h x hx;simp only [qaj, dJ] at this;simp [Row.has, this]
theorem zyc {A B C : List Row} {k : Int} (h1 : noK k A = true) (h2 : noK k C = true) (r : Int) : cD (A ++ (B ++ C)) k r = cD B k r := by
 unfold cD first
 rw [zmk _ _ (zmm h1), zml _ _ (zmm h2)]
theorem zmn : tab = zcb ++ (tab73 ++ (zcc ++ zcd ++ zce ++ zcf ++ zcg ++ zch)) := by unfold tab; simp only [qab]
theorem zyd : aI tab = aI tab73 := funext fun r => by
 unfold aI; rw [zmn, zyc (by kernel_rfl) (by kernel_rfl)]
theorem zye {A B : List Row} (h : aI A = aI B) : ∀ d, aX A d = aX B d := fun d => by
 induction d with
 | zero => rfl
 | succ d ih => funext r; simp only [aX, h, ih]
theorem zyf (d : Nat) : aX tab d = aX tab73 d := zye zyd d
theorem zyg {x : Row} (hx : x ∈ tab) (hk : x.kind = 2) : x ∈ tab73 := by
 rw [zmn] at hx
 have no : ∀ {l : List Row}, noK 2 l = true -> x ∉ l := fun h hx => by
  have := List.all_eq_true.1 h x hx;simp [hk] at this
 rcases List.mem_append.1 hx with h | h
 ·exact absurd h (no (by kernel_rfl))
 ·rcases List.mem_append.1 h with h | h
  ·exact h
  ·exact absurd h (no (by kernel_rfl))
end Go.Eng
namespace Go.Eng
open Go Go.Proofs Go.Eng.Rows Go.Eng.Trie
end Go.Eng
namespace Go.Eng
open Go Go.Proofs Go.Eng.Rows Go.Eng.Trie Go.Eng.Srt
theorem PCall.ofA {P : Program} {f : Nat} {args : List PV} {Q : LV -> Hp -> Prop} {R : PV -> Prop} (hc : ACall P f (args.map .pv) [] Q) (hq : ∀ r h', Q r h' -> ∃ p, kN h' r = some p /\ R p) : PCall P f args R :=
 ⟨hc.1, fun w I G cargs h1 h2 h3 => (hc.2 w I G cargs h1 h2 h3).mono fun e w' ⟨cv, r, h', I', G', e1, e2, e3, e4, e5⟩ => by
  obtain ⟨p, hp, hR⟩ := hq r h' e2;have ht := e5.t;have hno : ∀ b, ¬ aS [] G b := fun b ⟨o, ob, ho, _⟩ => by simp at ho
  exact ⟨cv, .pv p, [], AllB I' h' G', G', e1, ⟨p, rfl, hR⟩, HRel.nil G' (fun b hb => hb.elim (e3.cl b) e3.blk_lt), .pv _ _ (r7 e3 e4 hp),
   ⟨⟨ht.os, ht.tape, ht.output, ht.size, ht.keep, fun b hb => .inl (ht.i1 b hb), fun b hb => hb.elim (ht.i2 b) (fun ho => (ht.own2 b ho).elim (fun x => absurd x (hno b)) (fun x => .inr (.inr x))), fun b hb => absurd hb (fun ⟨o, ob, ho, _⟩ => by simp at ho), ht.frz, ht.drawn⟩, qg _, fun o ob ho => by simp at ho⟩⟩⟩
theorem zmo (n f : Bool) (l : List Int) (k : Nat) (hk : k < 1000) : PCall qa 7 [.sl n f (aA l), .int .i64 k] fun v => ∃ n f, v = .sl n f (aA (l.take k)) := by
 refine zx6 _ _ _ _ ?_; unfold zmg;refine aC (fun hc => ?_) (fun hc => ?_)
 ·simp only [aB, bX] at hc;refine ⟨⟨by unfold dS; simp; omega, eV _⟩, n, _, by rw [show ((k : Int)).toNat = k by omega]; simp only [aA, List.map_take, List.drop_zero]; rfl⟩
 ·simp only [aB, bX] at hc;rw [qi (by omega)];exact ⟨_, _, rfl⟩
theorem zyh (n f n2 f2 : Bool) (l m : List Int) (hl : l.length < 1000000000000) : zd2 n f (aA l) n2 f2 (aA m) (fun i => 0 <= i /\ i <= l.length /\ l.take i.toNat = m.take i.toNat) (fun i => l.length - i.toNat) fun v => v = .bool (decide (l = m)) := by
 unfold zd2;refine aC (fun hc => ?_) (fun hc => ?_)
 ·simp only [bX, bne_iff_ne, ne_eq] at hc;have : l ≠ m := fun e => hc (by rw [e]);simp [this]
 ·simp only [bX, bne_iff_ne, ne_eq, qh] at hc;have hlm : l.length = m.length := by omega
  refine ⟨⟨rfl, qp _, by omega, rfl⟩, ?_⟩;rintro i ⟨i0, i1, he⟩;refine aC (fun h => ?_) (fun h => ?_)
  ·simp only [aB, bX] at h;have hi : i.toNat < l.length := by omega
   have hj : i.toNat < m.length := by omega
   obtain ⟨g1, g2⟩ := iE i0 hi;obtain ⟨k1, k2⟩ := iE i0 hj;have hw : i64.wrap (i + 1) = i + 1 := wz;refine ⟨g1, l[i.toNat], by rw [g2]; rfl, k1, m[i.toNat], by rw [k2]; rfl, aC (fun hc2 => ?_) (fun hc2 => ?_)⟩
   ·simp only [bne_iff_ne, ne_eq] at hc2;have : l ≠ m := fun e => hc2 (by subst e; rfl);simp [this]
   ·simp only [bne_iff_ne, ne_eq, qh] at hc2;rw [hw];exact ⟨rfl, ⟨by omega, by omega, by rw [show (i + 1).toNat = i.toNat + 1 by omega, dI hi, dI hj, he, hc2]⟩, by dsimp only; omega⟩
  ·simp only [aB, bX] at h;rw [qi (by omega), qi (by omega)] at he;simp [he]
theorem zyi (n f n2 f2 : Bool) (l m : List Int) (hl : l.length < 1000000000000) : zd8 n f (aA l) n2 f2 (aA m) (fun i => 0 <= i /\ i <= l.length /\ l.take i.toNat = m.take i.toNat) (fun i => l.length - i.toNat) fun v => v = .bool (decide (l = m)) := by
 unfold zd8;refine aC (fun hc => ?_) (fun hc => ?_)
 ·simp only [bX, bne_iff_ne, ne_eq] at hc;have : l ≠ m := fun e => hc (by rw [e]);simp [this]
 ·simp only [bX, bne_iff_ne, ne_eq, qh] at hc;have hlm : l.length = m.length := by omega
  refine ⟨⟨rfl, qp _, by omega, rfl⟩, ?_⟩;rintro i ⟨i0, i1, he⟩;refine aC (fun h => ?_) (fun h => ?_)
  ·simp only [aB, bX] at h;have hi : i.toNat < l.length := by omega
   have hj : i.toNat < m.length := by omega
   obtain ⟨g1, g2⟩ := iE i0 hi;obtain ⟨k1, k2⟩ := iE i0 hj;have hw : i64.wrap (i + 1) = i + 1 := wz;refine ⟨g1, l[i.toNat], by rw [g2]; rfl, k1, m[i.toNat], by rw [k2]; rfl, aC (fun hc2 => ?_) (fun hc2 => ?_)⟩
   ·simp only [bne_iff_ne, ne_eq] at hc2;have : l ≠ m := fun e => hc2 (by subst e; rfl);simp [this]
   ·simp only [bne_iff_ne, ne_eq, qh] at hc2;rw [hw];exact ⟨rfl, ⟨by omega, by omega, by rw [show (i + 1).toNat = i.toNat + 1 by omega, dI hi, dI hj, he, hc2]⟩, by dsimp only; omega⟩
  ·simp only [aB, bX] at h;rw [qi (by omega), qi (by omega)] at he;simp [he]
theorem zyj (n f n2 f2 : Bool) (l m : List Int) (hl : l.length < 1000000000000) : PCall qa 21 [.sl n f (aA l), .sl n2 f2 (aA m)] fun v => v = .bool (decide (l = m)) :=
 zx7 _ _ _ _ _ _ _ _ (zyh n f n2 f2 l m hl)
theorem zmp (n f n2 f2 : Bool) (l m : List Int) (hl : l.length < 1000000000000) : PCall qa 36 [.sl n f (aA l), .sl n2 f2 (aA m)] fun v => v = .bool (decide (l = m)) :=
 zyb _ _ _ _ _ _ (fun i => 0 <= i /\ i <= l.length /\ l.take i.toNat = m.take i.toNat) (fun i => l.length - i.toNat) (zyi n f n2 f2 l m hl)
section
variable {rows : List Row}
end
section
variable {rows : List Row}
theorem set1 {es : List (List PV)} {k : Nat} {v x : PV} (h : es.getD k [] = [x]) : es.set k (v :: zq (qc 1 (es.getD k []))) = es.set k [v] := by rw [h]; rfl
theorem zd9 (A : List Int) (x : Int) (B : List Int) : (aA (A ++ x :: B)).getD A.length [] = [.int .i32 x] := by
 rw [zhg (by simp)]; simp
theorem zea (A : List Int) (x : Int) (B : List Int) : (bG (A ++ x :: B)).getD A.length [] = [.int .i64 x] := by
 simp [bG]
theorem zyk (hk : iO rows) (n f n2 f2 : Bool) (L : List Int) (hrl : rows.length < 1000000) (hL : L.length < 1000000000) (hr : R32 L) :
 PCall qa 78 [.sl n f (bH rows), .sl n2 f2 (aA L)] fun v => ∃ n f, v = .sl n f (aA (c5 (aF rows 1) L)) := by
 have olen : ∀ l, (c5 (aF rows 1) l).length = l.length := fun l => ((s9 (key := aF rows 1) hk l).len).symm
 refine zx8 _ _ _ _ _ _
  (fun i _ s0 _ s1 => 0 <= i /\ i <= L.length /\ s0 = aA (c5 (aF rows 1) (L.take i.toNat)) /\ s1 = bG ((c5 (aF rows 1) (L.take i.toNat)).map (aF rows 1))) (fun i _ _ _ _ => L.length - i.toNat)
  (fun i0 _ _ _ _ _ _ i c k _ s0 _ s1 => i = i0 /\ 0 <= i /\ i.toNat < L.length /\ ∃ x A B, L[i.toNat]? = some x /\ c = aF rows 1 x /\ k = (A.length : Nat) /\ c5 (aF rows 1) (L.take i.toNat) = A ++ B /\ (∀ y ∈ B, fJ (aF rows 1) x y = true) /\ s0 = aA (A ++ x :: B) /\ s1 = bG ((A ++ x :: B).map (aF rows 1))) (fun _ _ k _ _ _ _ => k.toNat) ?_
 unfold zmh;refine ⟨⟨rfl, qp _, by omega, by simp [c5, aA], by simp [c5, bG]⟩, ?_⟩;rintro i n0 _ n1 _ ⟨i0, i1, rfl, rfl⟩;refine aC (fun hc => ?_) (fun hc => ?_)
 ·simp only [aB, bX] at hc;have hi : i.toNat < L.length := by omega
  obtain ⟨g1, g2⟩ := iE i0 hi;have hx := hr _ (qv hi);have hw : i64.wrap (i + 1) = i + 1 := wz;have hol := olen (L.take i.toNat);rw [qk] at hol;refine ⟨g1, L[i.toNat], by rw [g2]; rfl, ?_⟩;refine (xA n f _ hrl hx).mono ?_;rintro _ rfl;refine ⟨_, rfl, g1, L[i.toNat], by rw [g2]; rfl, ⟨eV [_], by rw [bX]; omega⟩, ⟨kB (enc := fun n => [PV.int .i64 n]) (fun _ => rfl) [_], by rw [lE, qf]; omega⟩, ⟨rfl, ?_⟩, ?_⟩
  ·refine ⟨rfl, i0, hi, L[i.toNat], c5 (aF rows 1) (L.take i.toNat), [], qar hi, rfl, by simp, by simp, fun y hy => (by cases hy), by simp [aA], by simp [bG]⟩
  ·rintro i' c k n01 _ n11 _ ⟨rfl, _, _, x, A, B, hxi, rfl, rfl, hord, hB, rfl, rfl⟩;have hwi : i64.wrap (i' + 1) = i' + 1 := wz;have hAB : A.length + B.length = min i'.toNat L.length := by rw [<- hol, hord, qb]
   have hxe : L[i'.toNat] = x := (List.getElem?_eq_some_iff.1 hxi).2
   -- the end of the walk back
   have done : (A = [] ∨ ∃ A' z, A = A' ++ [z] /\ fJ (aF rows 1) x z = false) -> 0 <= i' + 1 /\ i' + 1 <= L.length /\ aA (A ++ x :: B) = aA (c5 (aF rows 1) (L.take (i' + 1).toNat)) /\ bG ((A ++ x :: B).map (aF rows 1)) = bG ((c5 (aF rows 1) (L.take (i' + 1).toNat)).map (aF rows 1)) := fun h => by
    have : c5 (aF rows 1) (L.take (i' + 1).toNat) = A ++ x :: B := by
     rw [show (i' + 1).toNat = i'.toNat + 1 by omega, dI hi, za1, hord, hxe, oE hB h]
    rw [this];exact ⟨by omega, by omega, rfl, rfl⟩
   have hmu : L.length - (i' + 1).toNat < L.length - i'.toNat := by omega
   refine aC (fun h1 => ?_) (fun h1 => ?_)
   ·simp only [qe, aB, bne_iff_ne, ne_eq] at h1
    obtain ⟨A', z, rfl⟩ : ∃ A' z, A = A' ++ [z] := by
     rcases A.eq_nil_or_concat with rfl | ⟨D, z, rfl⟩
     ·simp at h1
     ·exact ⟨D, z, by simp⟩
    have lA : (A' ++ [z]).length = A'.length + 1 := by simp
    rw [lA] at hAB;have hwk : i64.wrap ((((A' ++ [z]).length : Nat) : Int) - 1) = (A'.length : Nat) := by rw [lA, wz]; omega
    have e0 : (A' ++ [z]) ++ x :: B = A' ++ z :: (x :: B) := by simp
    rw [hwk, e0];simp only [qu, List.map_cons, qd];rw [lA];generalize hk2 : aF rows 1 = key at *;have i1 : aD (aA (A' ++ z :: x :: B)) ((A'.length : Nat) : Int) 1 := cS (enc := fun n => [PV.int .i32 n]) (fun _ => rfl) (by omega) (by simp; omega);have i2 : aD (aA (A' ++ z :: x :: B)) ((A'.length + 1 : Nat) : Int) 1 := cS (enc := fun n => [PV.int .i32 n]) (fun _ => rfl) (by omega) (by simp; omega);have j1 : aD (bG (A'.map key ++ key z :: key x :: B.map key)) ((A'.length : Nat) : Int) 1 := cS oJ (by omega) (by simp; omega);have j2 : aD (bG (A'.map key ++ key z :: key x :: B.map key)) ((A'.length + 1 : Nat) : Int) 1 := cS oJ (by omega) (by simp; omega);have i3 : aD (aA (A' ++ z :: z :: B)) ((A'.length : Nat) : Int) 1 := cS (enc := fun n => [PV.int .i32 n]) (fun _ => rfl) (by omega) (by simp; omega);have j3 : aD (bG (A'.map key ++ key z :: key z :: B.map key)) ((A'.length : Nat) : Int) 1 := cS oJ (by omega) (by simp; omega);have gz := zd9 A' z (x :: B);have gx : (aA (A' ++ z :: x :: B)).getD (A'.length + 1) [] = [.int .i32 x] := by have := zd9 (A' ++ [z]) x B; simpa using this
    have hz : (bG (A'.map key ++ key z :: key x :: B.map key)).getD A'.length [] = [.int .i64 (key z)] := by have := zea (A'.map key) (key z) (key x :: B.map key); simpa using this
    have hx2 : (bG (A'.map key ++ key z :: key x :: B.map key)).getD (A'.length + 1) [] = [.int .i64 (key x)] := by have := zea (A'.map key ++ [key z]) (key x) (B.map key); simpa using this
    have gz2 := zd9 A' z (z :: B);have hz2 : (bG (A'.map key ++ key z :: key z :: B.map key)).getD A'.length [] = [.int .i64 (key z)] := by have := zea (A'.map key) (key z) (key z :: B.map key); simpa using this
    have s1 : (aA (A' ++ z :: x :: B)).set (A'.length + 1) [.int .i32 z] = aA (A' ++ z :: z :: B) := by
     have := s6 (A' ++ [z]) B x z;have e : (aA (A' ++ z :: x :: B)).set (A'.length + 1) [.int .i32 z] = aA ((A' ++ z :: x :: B).set (A'.length + 1) z) := by simp [aA, List.map_set]
     rw [e]; simp at this ⊢
    have s2 : (aA (A' ++ z :: z :: B)).set A'.length [.int .i32 x] = aA (A' ++ x :: z :: B) := by simp [aA]
    have t1 : (bG (A'.map key ++ key z :: key x :: B.map key)).set (A'.length + 1) [.int .i64 (key z)] = bG (A'.map key ++ key z :: key z :: B.map key) := by simp [bG]
    have t2 : (bG (A'.map key ++ key z :: key z :: B.map key)).set A'.length [.int .i64 (key x)] = bG (A'.map key ++ key x :: key z :: B.map key) := by simp [bG]
    refine ⟨j1, key z, by rw [hz]; rfl, aC (fun h2 => ?_) (fun h2 => ?_)⟩
    ·simp only [aB] at h2;refine ⟨i1, z, by rw [gz]; rfl, i2, ⟨trivial, by rw [gx]; exact qg _⟩, j1, key z, by rw [hz]; rfl, j2, ⟨trivial, by rw [hx2]; exact qg _⟩, g1, x, by rw [g2, hxe]; rfl, ?_⟩;rw [set1 gx, set1 hx2, s1, t1, set1 gz2, set1 hz2, s2, t2];refine ⟨i3, ⟨trivial, by rw [gz2]; exact qg _⟩, j3, ⟨trivial, by rw [hz2]; exact qg _⟩, rfl, ⟨trivial, i0, hi, x, A', z :: B, hxi, rfl, rfl, by rw [hord]; simp, fun y hy => ?_, rfl, by simp⟩, by simp⟩;rcases List.mem_cons.1 hy with rfl | hy
     ·exact qA.2 ⟨h1.2, h2⟩
     ·exact hB y hy
    ·simp only [aB] at h2;rw [hwi];obtain ⟨d1, d2, d3, d4⟩ := done (.inr ⟨A', z, rfl, wC.2 (.inr (by omega))⟩);refine ⟨rfl, ⟨d1, d2, ?_, ?_⟩, hmu⟩
     ·rw [<- d3, e0]
     ·rw [<- d4]; simp
   ·have hA : A = [] ∨ aF rows 1 x = 0 := by
     simp only [qe, aB, bne_iff_ne, ne_eq, not_and, qh] at h1;by_cases hA : A = []
     ·exact .inl hA
     ·exact .inr (h1 (by have := List.length_pos_iff.2 hA; omega))
    rw [hwi];refine ⟨rfl, done ?_, hmu⟩;rcases hA with h | h
    ·exact .inl h
    ·rcases A.eq_nil_or_concat with rfl | ⟨D, z, rfl⟩
     ·exact .inl rfl
     ·exact .inr ⟨D, z, by simp, wC.2 (.inl h)⟩
 ·simp only [aB, bX] at hc;rw [qi (by omega)];exact ⟨_, _, rfl⟩
end
theorem zeb : tab.length < 1000000 := by have := zu6; omega
theorem zmq (n f : Bool) : PCall qa 10 [.sl n f (bH tab)] (fY tab) := zwo n f tab zeb xO
theorem R32.take {l : List Int} (h : R32 l) (k : Nat) : R32 (l.take k) := fun x hx => h x (qx hx)
section
variable {rows : List Row} {v : PV}
theorem zyl {ts : List PV} {key : Int -> Int} (hT : ∀ r : Int, (-2147483648 <= r /\ r <= 2147483647) -> PCall qa 71 [.ptr ts, .int .i32 r] fun v => v = .int .i64 (key r)) : lF (.ptr ts) key := by
 intro a b ha hb;refine ztr _ _ _ ?_; unfold zi2;refine .inl ⟨ts, rfl, .inl ⟨ts, rfl, ?_⟩⟩;refine (hT a ha).mono ?_;rintro _ rfl;refine ⟨_, rfl, ?_⟩;refine (hT b hb).mono ?_;rintro _ rfl;refine ⟨_, rfl, ?_⟩;refine (p61 _ _).mono ?_;rintro _ rfl;refine ⟨_, rfl, _, rfl, ?_⟩;unfold cmpS; split <;> (try split) <;> omega
theorem zym (hk : iO rows) (hv : fY rows v) (n f : Bool) (L : List Int) (hr : R32 L) (hL : L.length < 1000000000000) : PCall qa 82 [v, .sl n f (aA L)] fun x => ∃ n f, x = .sl n f (aA (c5 (aF rows 1) L)) := by
 obtain ⟨tc, tg, tj, tf, tp, made, sec, rfl, ht, hm⟩ := hv;have hT : ∀ r : Int, (-2147483648 <= r /\ r <= 2147483647) -> PCall qa 71 [.ptr [tc, tg, tj, tf, tp, .mp (eU made), .mp (kE sec)], .int .i32 r] fun v => v = .int .i64 (aF rows 1 r) := fun r hr => wW _ _ ht hr;exact PCall.ofA (args := [_, _]) (zxc hk hT (zyl hT) L hr hL) fun r h' ⟨hr, hh⟩ => by subst hr; subst hh; exact ⟨_, rfl, _, _, rfl⟩
theorem zmr (hp : dN rows) {l : List Int} (h : R32 l) : R32 (l.flatMap (aX rows 8)) := fun x hx => by
 obtain ⟨r, hr, h2⟩ := List.mem_flatMap.1 hx;rcases wB hp 8 r x h2 with rfl | h3
 ·exact h x hr
 ·omega
theorem xQ (rows : List Row) (l : List Int) : (l.flatMap (aX rows 8)).length <= 768 * l.length := by
 induction l with
 | nil => simp
 | cons x l ih =>
   have := mW rows 8 x;rw [qbg, qb, qz]; omega
theorem zms (rows : List Row) {l : List Int} {i : Nat} (hi : i < l.length) : (l.take (i + 1)).flatMap (aX rows 8) = (l.take i).flatMap (aX rows 8) ++ aX rows 8 l[i] := by
 rw [dI hi, List.flatMap_append]; simp
theorem zyn (hp : dN rows) (hk : iO rows) (hv : fY rows v) (n f : Bool) (L : List Int) (hr : R32 L) (hL : L.length < 1000000) : PCall qa 55 [v, .sl n f (aA L)] fun x => ∃ n f, x = .sl n f (aA (jS rows L)) := by
 have hv' := hv;obtain ⟨tc, tg, tj, tf, tp, made, sec, rfl, ht, hm⟩ := hv;refine zx9 _ _ _ _ _ _ _ _ _ _ (fun i h0 _ s => h0 = .ptr [tc, tg, tj, tf, tp, .mp (eU made), .mp (kE sec)] /\ 0 <= i /\ i <= L.length /\ s = aA ((L.take i.toNat).flatMap (aX rows 8))) (fun i _ _ _ => L.length - i.toNat) ?_;unfold zmi;refine ⟨rfl, ⟨rfl, rfl, qp _, by omega, rfl⟩, ?_⟩;rintro i h0 n1 _ ⟨rfl, i0, i1, rfl⟩;refine aC (fun hc => ?_) (fun hc => ?_)
 ·simp only [aB, bX] at hc;have hi : i.toNat < L.length := by omega
  obtain ⟨g1, g2⟩ := iE i0 hi;have hx := hr _ (qv hi);have hw : i64.wrap (i + 1) = i + 1 := wz;have hfl := xQ rows (L.take i.toNat);rw [qk] at hfl;refine ⟨g1, L[i.toNat], by rw [g2]; rfl, ?_⟩;refine (zws _ _ hp ht 8 _ n1 _ (by omega) hx (by omega)).mono ?_;rintro r h' ⟨nl, rfl, rfl⟩;rw [hw];exact ⟨(nl, _), ⟨rfl, rfl⟩, ⟨trivial, trivial, trivial⟩, rfl, ⟨rfl, by omega, by omega, by rw [show (i + 1).toNat = i.toNat + 1 by omega, zms rows hi]; rfl⟩, by dsimp only; omega⟩
 ·simp only [aB, bX] at hc;rw [qi (by omega)];have hfl := xQ rows L;refine (zym hk hv' n1 false _ (zmr hp hr) (by omega)).mono ?_;rintro _ ⟨n2, f2, rfl⟩;exact ⟨_, _, _, rfl, _, _, rfl⟩
theorem zyo (hp : dN rows) (hk : iO rows) (n f n2 f2 : Bool) (hrl : rows.length < 1000000) (L : List Int) (hr : R32 L) (hL : L.length < 1000000) : PCall qa 52 [.sl n f (bH rows), .sl n2 f2 (aA L)] fun x => ∃ n f, x = .sl n f (aA (jS rows L)) := by
 refine zya _ _ _ _ _ _ (fun i _ s => 0 <= i /\ i <= L.length /\ s = aA ((L.take i.toNat).flatMap (aX rows 8))) (fun i _ _ => L.length - i.toNat) ?_;unfold zmj;refine ⟨⟨rfl, qp _, by omega, rfl⟩, ?_⟩;rintro i n1 _ ⟨i0, i1, rfl⟩;refine aC (fun hc => ?_) (fun hc => ?_)
 ·simp only [aB, bX] at hc;have hi : i.toNat < L.length := by omega
  obtain ⟨g1, g2⟩ := iE i0 hi;have hx := hr _ (qv hi);have hw : i64.wrap (i + 1) = i + 1 := wz;have hfl := xQ rows (L.take i.toNat);rw [qk] at hfl;have hf1 := mW rows 8 L[i.toNat]
  have he : aA ((L.take i.toNat).flatMap (aX rows 8)) ++ aA (aX rows 8 L[i.toNat]) = aA ((L.take (i + 1).toNat).flatMap (aX rows 8)) := by
   rw [show (i + 1).toNat = i.toNat + 1 by omega, zms rows hi, kF]
  refine ⟨g1, L[i.toNat], by rw [g2]; rfl, ?_⟩;rw [hw];refine (zwq hp n f hrl 8 _ (by omega) hx).mono ?_;rintro r h' (⟨nl, rfl, rfl⟩ | ⟨rfl, rfl⟩)
  ·exact .inl ⟨(nl, _), ⟨rfl, rfl⟩, trivial, ⟨eV _, by simp only [bX, qf]; omega⟩, rfl, ⟨by omega, by omega, he⟩, by dsimp only; omega⟩
  ·exact .inr ⟨_, ⟨rfl, rfl⟩, trivial, ⟨eV _, by rw [bX, bX]; omega⟩, rfl, ⟨by omega, by omega, he⟩, by dsimp only; omega⟩
 ·simp only [aB, bX] at hc;rw [qi (by omega)];have hfl := xQ rows L;refine (zyk hk n f n1 false _ hrl (by omega) (zmr hp hr)).mono ?_;rintro _ ⟨n2, f2, rfl⟩;exact ⟨_, _, _, rfl, _, _, rfl⟩
theorem zmt (hk : iO rows) {l : List Int} (h : l.length < 1000000) : (jS rows l).length < 1000000000000 := by
 have := zsx hk l; omega
end
end Go.Eng
namespace Go.Eng
open Go Go.Proofs Go.Eng.Rows Go.Eng.Trie
end Go.Eng
namespace Go.Eng
open Go Go.Proofs
section
variable (a b : Int)
def zmu (R : PV -> Prop) : Prop :=
 if (decide (a >= 4352) && decide (a < 4371) && decide (b >= 4449) && decide (b < 4470)) = true then R (PV.tup [Z3 (i32.wrap ((44032 : Int) + i32.wrap (i32.wrap (i32.wrap (i32.wrap (i32.wrap (a - 4352) * 21) + b) - 4449) * 28))), Zb true]) else PCall qa 131 [Z3 a] fun v => ∃ b1, v = Zb b1 /\ if (b1 && (i32.wrap (a - 44032)).tmod (28 : Int) == 0 && decide (b > 4519) && decide (b < 4547)) = true then R (PV.tup [Z3 (i32.wrap (i32.wrap (a + b) - 4519)), Zb true]) else R (PV.tup [Z3 0, Zb false])
theorem zyp {R : PV -> Prop} (h : zmu a b R) : PCall qa 106 [.int .i32 a, .int .i32 b] R :=
 PCall.wz Tryz.func106 aR [0, 1, 4, 5, 6, 29] bE h
end
section
variable (tc tg tj tf tp : PV) (M S : List (PV × PV)) (a b : Int)
def zmv (R : PV -> Prop) : Prop :=
 PCall qa 106 [Z3 a, Z3 b] fun v => ∃ vs, v = PV.tup vs /\ vs.length = 2 /\ ∃ x, vs.head? = some x /\ ∃ n, x = Z3 n /\ ∃ x1, vs.tail.head? = some x1 /\ ∃ b1, x1 = Zb b1 /\ if b1 = true then R (PV.tup [Z3 n, Zb true]) else PCall qa 107 [PV.ptr [tc, tg, tj, tf, tp, PV.mp M, PV.mp S], Z3 a, Z3 b] fun v1 => ∃ vs1, v1 = PV.tup vs1 /\ vs1.length = 2 /\ ∃ x2, vs1.head? = some x2 /\ ∃ n1, x2 = Z3 n1 /\ ∃ x3, vs1.tail.head? = some x3 /\ ∃ b2, x3 = Zb b2 /\ R (PV.tup [Z3 n1, Zb b2])
theorem zyq {R : PV -> Prop} (h : zmv tc tg tj tf tp M S a b R) : PCall qa 80 [.ptr [tc, tg, tj, tf, tp, .mp M, .mp S], .int .i32 a, .int .i32 b] R :=
 PCall.wz Tryz.func80 aR [0, 1, 2, 6, 7, 8, 9, 16] bE h
end
def zec (tc tg tj tf tp : PV) (M S : List (PV × PV)) (n f : Bool) (es : LL) (x6 x7 x16 : Int) (n_0 : Bool) (s_0 : LL) : Env × Hp := ([(0, LV.pv (PV.ptr [tc, tg, tj, tf, tp, PV.mp M, PV.mp S])), (5, LV.own 0), (6, Y6 x6), (7, Y6 x7), (14, LV.pv (PV.sl n f es)), (15, LV.pv (PV.int i64 (es.length : Int))), (16, Y6 x16)], [.sl (21, 1) true n_0 s_0])
section
variable (tc tg tj tf tp : PV) (M S : List (PV × PV)) (n f : Bool) (es : LL) (J : Int -> Int -> Int -> Bool -> LL -> Prop) (μ : Int -> Int -> Int -> Bool -> LL -> Nat)
def zmw (R : PV -> Prop) : Prop :=
 (aG (zec tc tg tj tf tp M S n f es (-1 : Int) (0 : Int) (0 : Int) true []) /\ J (-1 : Int) (0 : Int) (0 : Int) true []) /\ ∀ (x6 x7 x16 : Int) (n_0 : Bool) (s_0 : LL), J x6 x7 x16 n_0 s_0 ->
 let K5 := fun (y0_ y1_ y2_ : Int) (y3_ : Bool) (y4_ : LL) => aG (zec tc tg tj tf tp M S n f es y0_ y1_ y2_ y3_ y4_) /\ J y0_ y1_ y2_ y3_ y4_ /\ μ y0_ y1_ y2_ y3_ y4_ < μ x6 x7 x16 n_0 s_0; if decide (x16 < (↑es.length :
  Int)) = true then aD es x16 1 /\ ∃ n1, (es.getD x16.toNat []).head? = some (Z3 n1) /\ PCall qa 71 [PV.ptr [tc, tg, tj, tf, tp, PV.mp M, PV.mp S], Z3 n1] fun v => ∃ n2, v = Z6 n2 /\
 let V1 := if (n2 == 0) = true then (aU [[Z3 n1]] 1 /\ (s_0.length + 1) * 4 <= 140737488355328) /\ K5 (↑s_0.length : Int) n2 (i64.wrap (x16 + 1)) (n_0 && false) (s_0 ++ [[Z3 n1]]) else (aU [[Z3 n1]] 1 /\ (s_0.length + 1) * 4 <=
  140737488355328) /\ K5 x6 n2 (i64.wrap (x16 + 1)) (n_0 && false) (s_0 ++ [[Z3 n1]]); if (decide (x6 >= 0) && (x6 == i64.wrap ((↑s_0.length : Int) - 1) || x7 != 0 && decide (x7 < n2))) = true then aD s_0 x6 1 /\ ∃ (n3 :
  Int), (qc 0 (s_0.getD x6.toNat [])).head? = some (Z3 n3) /\ PCall qa 80 [PV.ptr [tc, tg, tj, tf, tp, PV.mp M, PV.mp S], Z3 n3, Z3 n1] fun v1 => ∃ vs, v1 = PV.tup vs /\ vs.length = 2 /\ ∃ x, vs.head? =
  some x /\ ∃ n4, x = Z3 n4 /\ ∃ x1, vs.tail.head? = some x1 /\ ∃ b, x1 = Zb b /\ if b = true then aD s_0 x6 1 /\ (1 = 1 /\ 1 <= (s_0.getD x6.toNat []).length) /\ K5 x6 x7 (i64.wrap (x16 + 1)) n_0 (s_0.set
  x6.toNat (Z3 n4 :: zq (qc 1 (s_0.getD x6.toNat [])))) else V1 else V1 else R (PV.sl n_0 false s_0)
theorem zyr {R : PV -> Prop} (h : zmw tc tg tj tf tp M S n f es J μ R) : PCall qa 54 [.ptr [tc, tg, tj, tf, tp, .mp M, .mp S], .sl n f es] R :=
 PCall.wz Tryz.func54 aR [0, 1, 4, 5, 6, 7, 9, 10, 11, 12, 13, 14, 15, 16, 17, 41, 52, 58] (dA 5 (bN cz5 (zec tc tg tj tf tp M S n f es) J μ (fun e h => (gI e 6, gI e 7, gI e 16, oN h 0, oS h 0)) [(5, 21, 1)] [0, 5, 6, 7, 14, 15, 16] [])) h
end
section
variable (tc tg tj tf tp : PV) (M S : List (PV × PV)) (n f : Bool) (es : LL)
def zmx (R : PV -> Prop) : Prop :=
 PCall qa 55 [PV.ptr [tc, tg, tj, tf, tp, PV.mp M, PV.mp S], PV.sl n f es] fun v => ∃ n1 f1 es1, v = PV.sl n1 f1 es1 /\ PCall qa 54 [PV.ptr [tc, tg, tj, tf, tp, PV.mp M, PV.mp S], PV.sl n1 f1 es1] fun v1 => ∃ n2 f2 es2, v1 = PV.sl n2 f2 es2 /\ R (PV.sl n2 f2 es2)
theorem zys {R : PV -> Prop} (h : zmx tc tg tj tf tp M S n f es R) : PCall qa 34 [.ptr [tc, tg, tj, tf, tp, .mp M, .mp S], .sl n f es] R :=
 PCall.wz Tryz.func34 aR [0, 1, 4] bE h
end
end Go.Eng
namespace Go.Eng
open Go Go.Proofs Go.Eng.Rows Go.Eng.Trie Go.Eng.Srt
def lI : Option Int -> PV
 | some r => .tup [.int .i32 r, .bool true]
 | none => .tup [.int .i32 0, .bool false]
theorem zyt {a b : Int} (ha : -2147483648 <= a /\ a <= 2147483647) (hb : -2147483648 <= b /\ b <= 2147483647) : PCall qa 106 [.int .i32 a, .int .i32 b] fun v => v = lI (eT a b) := by
 refine zyp _ _ ?_; unfold zmu;refine aC (fun hc => ?_) (fun hc => ?_)
 ·simp only [qe, aB, ge_iff_le] at hc;have w1 : i32.wrap (a - 4352) = a - 4352 := dC (by omega) (by omega);have w2 : i32.wrap ((a - 4352) * 21) = (a - 4352) * 21 := dC (by omega) (by omega);have w3 : i32.wrap ((a - 4352) * 21 + b) = (a - 4352) * 21 + b := dC (by omega) (by omega);have w4 : i32.wrap ((a - 4352) * 21 + b - 4449) = (a - 4352) * 21 + b - 4449 := dC (by omega) (by omega);have w5 : i32.wrap (((a - 4352) * 21 + b - 4449) * 28) = ((a - 4352) * 21 + b - 4449) * 28 := dC (by omega) (by omega);have w6 : i32.wrap (44032 + ((a - 4352) * 21 + b - 4449) * 28) = 44032 + ((a - 4352) * 21 + b - 4449) * 28 := dC (by omega) (by omega);rw [w1, w2, w3, w4, w5, w6];unfold eT;rw [if_pos (by omega)];simp only [lI];rw [show (a - 4352) * 21 + b - 4449 = (a - 4352) * 21 + (b - 4449) by omega]
 ·simp only [qe, aB, ge_iff_le] at hc;refine (zlo a).mono ?_;rintro _ rfl;refine ⟨_, rfl, ?_⟩;have hn : ¬ ((4352 <= a /\ a < 4371) /\ 4449 <= b /\ b < 4470) := by omega
  cases hs : bZ a with
  | false =>
    refine bR (by simp) ?_;unfold eT; rw [if_neg hn, if_neg (by rw [hs]; simp)]; rfl
  | true =>
    have hr := hs;simp only [bZ, qe, aB] at hr;have w1 : i32.wrap (a - 44032) = a - 44032 := dC (by omega) (by omega);have e3 : (a - 44032).tmod 28 = (a - 44032) % 28 := qag (by omega);rw [w1, e3];refine aC (fun h2 => ?_) (fun h2 => ?_)
    ·simp only [qe, aB, gt_iff_lt, beq_iff_eq, qah] at h2;have w2 : i32.wrap (a + b) = a + b := dC (by omega) (by omega);have w3 : i32.wrap (a + b - 4519) = a + b - 4519 := dC (by omega) (by omega);rw [w2, w3];unfold eT; rw [if_neg hn, if_pos ⟨⟨hs, h2.1.1⟩, h2.1.2, h2.2⟩];simp only [lI];rw [show a + b - 4519 = a + (b - 4519) by omega]
    ·simp only [qe, aB, gt_iff_lt, beq_iff_eq, qah] at h2;unfold eT; rw [if_neg hn, if_neg (by omega)]; rfl
section
variable {rows : List Row} {v : PV}
theorem zyu (hp : dN rows) (h1 : eS rows) (hv : fY rows v) {a b : Int} (ha : -2147483648 <= a /\ a <= 2147483647) (hb : -2147483648 <= b /\ b <= 2147483647) : PCall qa 80 [v, .int .i32 a, .int .i32 b] fun x => x = lI (fK rows a b) := by
 obtain ⟨tc, tg, tj, tf, tp, made, sec, rfl, ht, hm⟩ := hv;refine zyq _ _ _ _ _ _ _ _ _ ?_; unfold zmv;refine (zyt ha hb).mono ?_;rintro _ rfl;unfold fK;cases eT a b with
 | some r =>
   exact ⟨_, rfl, rfl, _, rfl, _, rfl, _, rfl, _, rfl, bW rfl rfl⟩
 | none =>
   refine ⟨_, rfl, rfl, _, rfl, _, rfl, _, rfl, _, rfl, bR (by simp) ?_⟩;refine (zwn _ _ _ _ _ _ made a b).mono ?_;rintro _ rfl;rw [<- zsy hp h1 hm a b];unfold wX;split
   ·exact ⟨_, rfl, rfl, _, rfl, _, rfl, _, rfl, _, rfl, rfl⟩
   ·cases cN (a, b) made with
    | none => exact ⟨_, rfl, rfl, _, rfl, _, rfl, _, rfl, _, rfl, rfl⟩
    | some r => exact ⟨_, rfl, rfl, _, rfl, _, rfl, _, rfl, _, rfl, rfl⟩
def dG (st : CSt) : Int := match st.s with | none => -1 | some _ => st.P.length
theorem zmy {d : List Int} : ∀ m ∈ (bS rows d).M, aF rows 1 m ≠ 0 := by
 induction d using jR with
 | h0 => intro m hm; cases hm
 | h1 d r ih =>
   rw [iC];rcases qB rows (bS rows d) r with e | ⟨a, c, hs, hp, _, e⟩
   ·rw [e];unfold cW;split
    ·intro m hm; cases hm
    ·rename_i h0;intro m hm;rcases List.mem_append.1 hm with hm | hm
     ·exact ih m hm
     ·rw [qaz] at hm; subst hm; exact h0
   ·rw [e]; exact ih
def JC (rows : List Row) (L : List Int) (x6 x7 i : Int) (s : List (List PV)) : Prop := (0 <= i /\ i <= L.length) /\ s = aA (bS rows (L.take i.toNat)).out /\ x6 = dG (bS rows (L.take i.toNat)) /\ x7 = dO (aF rows 1) (bS rows (L.take i.toNat)).M
theorem JC.next {L : List Int} {i : Int} (h0 : 0 <= i) (hi : i.toNat < L.length) {st : CSt} (he : cT rows (bS rows (L.take i.toNat)) L[i.toNat] = st) : JC rows L (dG st) (dO (aF rows 1) st.M) (i + 1) (aA st.out) := by
 have e : bS rows (L.take (i + 1).toNat) = st := by
  rw [show (i + 1).toNat = i.toNat + 1 by omega, dI hi, iC, he]
 exact ⟨⟨by omega, by omega⟩, by rw [e], by rw [e], by rw [e]⟩
theorem zyv (hp : dN rows) (h1 : eS rows) (hv : fY rows v) (n f : Bool) (L : List Int) (hr : R32 L) (hL : L.length < 1000000000000) : PCall qa 54 [v, .sl n f (aA L)] fun x => ∃ n f, x = .sl n f (aA (iB rows L)) := by
 have hv' := hv;obtain ⟨tc, tg, tj, tf, tp, made, sec, rfl, ht, hm⟩ := hv;refine zyr _ _ _ _ _ _ _ _ _ _ (fun x6 x7 i _ s => JC rows L x6 x7 i s) (fun _ _ i _ _ => L.length - i.toNat) ?_;unfold zmw;refine ⟨⟨rfl, ⟨qp _, by omega⟩, rfl, rfl, rfl⟩, ?_⟩;rintro x6 x7 i n0 _ ⟨⟨i0, i1⟩, rfl, rfl, rfl⟩;refine aC (fun hc => ?_) (fun hc => ?_)
 ·simp only [aB, bX] at hc;have hi : i.toNat < L.length := by omega
  obtain ⟨g1, g2⟩ := iE i0 hi;have hx := hr _ (qv hi);have hw : i64.wrap (i + 1) = i + 1 := wz;refine ⟨g1, L[i.toNat], by rw [g2]; rfl, ?_⟩;refine (wW _ _ ht hx).mono ?_;rintro _ rfl;refine ⟨_, rfl, ?_⟩;rw [hw];have hlen := za6 rows (L.take i.toNat);have hrng := za7 h1 (L.take i.toNat);have hnz := zmy (rows := rows) (d := L.take i.toNat);have hnP := tD (rows := rows) (d := L.take i.toNat);rw [qk] at hlen;unfold iB at hlen hrng;have next := fun st => JC.next (rows := rows) (st := st) i0 hi
  generalize bS rows (L.take i.toNat) = st at *;have hmu : L.length - (i + 1).toNat < L.length - i.toNat := by omega
  have hsz : aU [[PV.int .i32 L[i.toNat]]] 1 /\ ((aA st.out).length + 1) * 4 <= 140737488355328 := ⟨eV [_], by rw [bX]; omega⟩;have hout : aA st.out ++ [[PV.int .i32 L[i.toNat]]] = aA (st.out ++ [L[i.toNat]]) := by rw [kF]; rfl
  have hl : ((aA st.out).length : Int) = st.out.length := by rw [bX]
  have app0 : cT rows st L[i.toNat] = cW (aF rows 1) st L[i.toNat] -> aF rows 1 L[i.toNat] = 0 -> JC rows L (aA st.out).length (aF rows 1 L[i.toNat]) (i + 1) (aA st.out ++ [[PV.int .i32 L[i.toNat]]]) := fun he h0 => by
   have := next _ (he.trans (by unfold cW; rw [if_pos h0]))
   rw [hout, hl, h0];simpa [dG, dO, CSt.out] using this
  have app1 : cT rows st L[i.toNat] = cW (aF rows 1) st L[i.toNat] -> aF rows 1 L[i.toNat] ≠ 0 -> JC rows L (dG st) (aF rows 1 L[i.toNat]) (i + 1) (aA st.out ++ [[PV.int .i32 L[i.toNat]]]) := fun he h0 => by
   have := next _ (he.trans (by unfold cW; rw [if_neg h0]))
   rw [hout];simp only [tC] at this;have e2 : st.out ++ [L[i.toNat]] = CSt.out ⟨st.P, st.s, st.M ++ [L[i.toNat]]⟩ := by simp [CSt.out]
   rw [e2];exact this
  refine aC (fun hf => ?_) (fun hf => ?_)
  ·simp only [qe, aB, qj, beq_iff_eq, bne_iff_ne, ne_eq, ge_iff_le] at hf;obtain ⟨hf1, hf2⟩ := hf;cases hs : st.s with
   | none => simp [dG, hs] at hf1
   | some a =>
     have hsi : dG st = st.P.length := by simp [dG, hs]
     have hol : st.out.length = st.P.length + 1 + st.M.length := by simp [CSt.out, hs]; omega
     have hw2 : i64.wrap ((aA st.out).length - 1) = st.out.length - 1 := by rw [hl]; exact wz
     have hfree : st.M = [] ∨ dO (aF rows 1) st.M < aF rows 1 L[i.toNat] := by
      rcases hf2 with h | h
      ·rw [hw2, hsi] at h;exact .inl (List.eq_nil_of_length_eq_zero (by omega))
      ·exact .inr h.2
     have hat : st.out[st.P.length]'(by omega) = a := by simp [CSt.out, hs]
     obtain ⟨k1, k2⟩ := iE (l := st.out) (i := dG st) (by omega) (by omega);have hta : (dG st).toNat = st.P.length := by omega
     have k3 : (aA st.out).getD (dG st).toNat [] = [PV.int .i32 a] := by
      rw [k2]; simp only [hta, hat]
     have ha : -2147483648 <= a /\ a <= 2147483647 := by
      rcases hrng a (by simp [CSt.out, hs]) with h | h
      ·exact hr a (qx h)
      ·omega
     refine ⟨k1, a, by rw [k3]; rfl, ?_⟩;refine (zyu hp h1 hv' ha hx).mono ?_;rintro _ rfl;cases hpc : fK rows a L[i.toNat] with
     | some c =>
       refine ⟨_, rfl, rfl, _, rfl, _, rfl, _, rfl, _, rfl, bW rfl ⟨k1, ⟨rfl, by rw [k3]; exact qg _⟩, rfl, ?_, by dsimp only; omega⟩⟩;rw [k3, hta]
       have he : cT rows st L[i.toNat] = ⟨st.P, some c, st.M⟩ := by
        unfold cT; rw [hs]; simp only; rw [if_pos hfree, hpc]
       have := next _ he
       have e2 : (aA st.out).set st.P.length [PV.int .i32 c] = aA (CSt.out ⟨st.P, some c, st.M⟩) := by
        simp [CSt.out, hs, aA]
       have e3 : dG ⟨st.P, some c, st.M⟩ = dG st := by rw [hsi]; rfl
       rw [e3] at this;show JC rows L (dG st) (dO (aF rows 1) st.M) (i + 1) ((aA st.out).set st.P.length [PV.int .i32 c]);rw [e2];exact this
     | none =>
       have he : cT rows st L[i.toNat] = cW (aF rows 1) st L[i.toNat] := by
        unfold cT; rw [hs]; simp only; rw [if_pos hfree, hpc]
       refine ⟨_, rfl, rfl, _, rfl, _, rfl, _, rfl, _, rfl, bR (by simp) (aC (fun h0 => ?_) (fun h0 => ?_))⟩
       ·exact ⟨hsz, rfl, app0 he (by simpa using h0), by dsimp only; omega⟩
       ·exact ⟨hsz, rfl, app1 he (by simpa using h0), by dsimp only; omega⟩
  ·simp only [qe, aB, qj, beq_iff_eq, bne_iff_ne, ne_eq, ge_iff_le] at hf
   have he : cT rows st L[i.toNat] = cW (aF rows 1) st L[i.toNat] := by
    rcases qB rows st L[i.toNat] with e | ⟨a, c, hs, hpc, hfree, e⟩
    ·exact e
    ·have hsi : dG st = st.P.length := by simp [dG, hs]
     have hol : st.out.length = st.P.length + 1 + st.M.length := by simp [CSt.out, hs]; omega
     have hw2 : i64.wrap ((aA st.out).length - 1) = st.out.length - 1 := by rw [hl]; exact wz
     refine absurd ⟨by omega, ?_⟩ hf;by_cases hM : st.M = []
     ·left; rw [hw2, hsi, hol, hM]; simp
     ·right;obtain ⟨m, hm, e⟩ := zba (key := aF rows 1) hM;exact ⟨by rw [e]; exact hnz m hm, hfree.elim (fun e => absurd e hM) id⟩
   refine aC (fun h0 => ?_) (fun h0 => ?_)
   ·exact ⟨hsz, rfl, app0 he (by simpa using h0), by dsimp only; omega⟩
   ·exact ⟨hsz, rfl, app1 he (by simpa using h0), by dsimp only; omega⟩
 ·simp only [aB, bX] at hc;rw [qi (by omega)];exact ⟨_, _, rfl⟩
theorem zyw (hp : dN rows) (h1 : eS rows) (hk : iO rows) (hv : fY rows v) (n f : Bool) (L : List Int) (hr : R32 L) (hL : L.length < 1000000) : PCall qa 34 [v, .sl n f (aA L)] fun x => ∃ n f, x = .sl n f (aA (gO rows L)) := by
 have hv' := hv;obtain ⟨tc, tg, tj, tf, tp, made, sec, rfl, ht, hm⟩ := hv;refine zys _ _ _ _ _ _ _ _ _ _ ?_; unfold zmx;refine (zyn hp hk hv' n f L hr hL).mono ?_;rintro _ ⟨n1, f1, rfl⟩;refine ⟨_, _, _, rfl, ?_⟩;refine (zyv hp h1 hv' _ _ _ (za2 hk hp hr) (zmt hk hL)).mono ?_;rintro _ ⟨n2, f2, rfl⟩;exact ⟨_, _, _, rfl, _, _, rfl⟩
theorem zyx (hp : dN rows) (h1 : eS rows) (hk : iO rows) {l : List Int} (h : R32 l) : R32 (gO rows l) := fun x hx => by
 rcases za7 h1 _ x hx with h2 | h2
 ·exact za2 hk hp h x h2
 ·omega
end
theorem v22 : Tryz.prog.underlying 22 = some (.slice 21) := by kernel_rfl
theorem v21 : Tryz.prog.underlying 21 = some (.int .i32) := by kernel_rfl
theorem zmz {v : PV} (h : pW qa 8 22 v) : ∃ nl l, v = .sl nl false (aA l) /\ R32 l := by
 obtain ⟨nl, l, e, hl, _, hr⟩ := zrm v22 v21 (zrn (by kernel_rfl) h);cases e;exact ⟨nl, l, rfl, hr⟩
end Go.Eng
namespace Go.Eng
open Go Go.Proofs
end Go.Eng
namespace Go.Eng
open Go Go.Proofs Go.Eng.Rows Go.Eng.Trie Go.Eng.Srt
theorem zm0 {t : PV} (ht : fY tab t) (n f : Bool) (L : List Int) (hr : R32 L) (hL : L.length < 1000000) : PCall qa 34 [t, .sl n f (aA L)] fun x => ∃ n f, x = .sl n f (aA (gO tab L)) := zyw xO tR xP ht n f L hr hL
theorem tT (n f n2 f2 : Bool) (a b : List Int) (hl : a.length < 1000000000000) : PCall qa 21 [.sl n f (aA a), .sl n2 f2 (aA b)] fun x => x = .bool (decide (a = b)) := zyj n f n2 f2 a b hl
theorem zed {l : List Int} (h : R32 l) : R32 (gO tab l) := zyx xO tR xP h
theorem zm1 (l : List Int) (k : Nat) : (l.take k).length <= k := by rw [qk]; omega
theorem zm2 {len : Nat} {i j : Int} (h0 : 0 <= i) (h1 : i <= j) (h2 : j <= len) : dS len (some i) (some j) none := ⟨h0, h1, h2, trivial⟩
theorem zm3 (L : List Int) (i j : Nat) : qc i (qak j (aA L)) = aA (fT L i j) := by simp [aA, fT]
theorem R32.sub {L : List Int} (h : R32 L) (i j : Nat) : R32 (fT L i j) := fun x hx => h x (qx (List.mem_of_mem_drop hx))
theorem zyy (L : List Int) (i j : Nat) : (fT L i j).length <= L.length := by unfold fT; rw [qad, qk]; omega
theorem w3 : Tryz.prog.underlying 3 = some (.int .i64) := by kernel_rfl
end Go.Eng

namespace Go.Eng.Rows
open Go Go.Eng Go.Eng.Trie Go.Eng.Srt
def xR (rows : List Row) (hard : List Int) (lo hi : Int) : Bool := rows.all fun y => !(decide (y.kind = 4) && hard.contains y.a) || (decide (y.to < lo) || decide (hi < y.fr))
theorem zm4 {rows : List Row} {hard : List Int} {lo hi r : Int} (h : xR rows hard lo hi = true) (h0 : hard.contains 0 = false) (h1 : hard.contains 12 = false) (h2 : hard.contains 13 = false) (hr : lo <= r /\ r <= hi) : hard.contains (aK rows r) = false := by
 unfold aK;split
 ·split <;> assumption
 ·unfold aF;cases hf : cD rows 4 r with
  | none => exact h0
  | some p =>
    obtain ⟨x, hx, hk, ha, _, h3, h4, _⟩ := kX hf;dsimp only;rw [<- ha];have := List.all_eq_true.1 h x hx;simp only [qj, qaj, qav, aB, dJ] at this;rcases this with (h5 | h5) | h5 | h5
    ·exact absurd hk h5
    ·exact h5
    ·omega
    ·omega
def zyz (rows : List Row) : Bool := rows.all fun x =>
 (!(decide (x.kind = 5) && decide (x.a = 1)) || xR rows [1, 2, 3, 5] x.fr x.to) &&
 (!decide (x.kind = 6) || (xR rows [1, 2, 3] x.fr x.to && ((decide (0 <= x.a) && decide (x.a <= 2)) && (!decide (x.a = 1) || (decide (x.fr = x.to) && (decide (aK rows x.fr = 4) || (decide (aK rows x.fr = 5) || decide (aK rows x.fr = 8))))))))
theorem zy0 {b : Int} (h : ([1, 2, 3] : List Int).contains b = false) : dB b = false := by
 simp only [qbc, qbh, qbo, qae, beq_eq_false_iff_ne, ne_eq] at h;unfold dB;simp only [qae, dJ]; omega
theorem zy1 {rows : List Row} (h : zyz rows = true) : iQ rows := by
 have hall := List.all_eq_true.1 h
 have h6 : ∀ r, aF rows 6 r ≠ 0 -> ∃ x ∈ rows, x.kind = 6 /\ x.a = aF rows 6 r /\ x.fr <= r /\ r <= x.to := fun r hr => by
  unfold aF at hr ⊢;cases hf : cD rows 6 r with
  | none => rw [hf] at hr; exact absurd rfl hr
  | some p =>
    obtain ⟨x, hx, hk, ha, _, h3, h4, _⟩ := kX hf;exact ⟨x, hx, hk, ha, h3, h4⟩
 have g6 : ∀ x ∈ rows, x.kind = 6 -> xR rows [1, 2, 3] x.fr x.to = true /\ (0 <= x.a /\ x.a <= 2) /\ (x.a ≠ 1 ∨ (x.fr = x.to /\ (aK rows x.fr = 4 ∨ aK rows x.fr = 5 ∨ aK rows x.fr = 8))) := fun x hx hk => by
  have := hall x hx;simp only [qe, qj, qaj, aB, dJ] at this;rcases this.2 with h | h
  ·exact absurd hk h
  ·exact h
 refine ⟨fun r hr => ?_, fun r => ?_, fun r hr => ?_, fun r hr => ?_⟩
 ·unfold cE at hr;cases hf : cD rows 5 r with
  | none => rw [hf] at hr; cases hr
  | some p =>
    rw [hf] at hr;obtain ⟨x, hx, hk, ha, _, h3, h4, _⟩ := kX hf;have := hall x hx;simp only [qe, qj, qaj, qav, dJ] at this;rcases this.1 with (h5 | h5) | h5
    ·exact absurd hk h5
    ·exact absurd (ha.trans (of_decide_eq_true hr)) h5
    ·have := zm4 h5 (by decide) (by decide) (by decide) ⟨h3, h4⟩;simp only [qbc, qbh, qbo, qae, beq_eq_false_iff_ne, ne_eq] at this;refine ⟨?_, this.2.2.2⟩;unfold dB;simp only [qae, dJ]; exact ⟨this.2.2.1, this.1, this.2.1⟩
 ·unfold cG;split
  ·rename_i hn;obtain ⟨x, hx, hk, ha, _, _⟩ := h6 r hn;have := (g6 x hx hk).2.1;omega
  ·split
   ·exact .inr (.inr (.inr rfl))
   ·exact .inl rfl
 ·unfold cG at hr;split at hr
  ·rename_i hn;obtain ⟨x, hx, hk, ha, h3, h4⟩ := h6 r hn;exact zy0 (zm4 (g6 x hx hk).1 (by decide) (by decide) (by decide) ⟨h3, h4⟩)
  ·split at hr
   ·rename_i h4;unfold dB;rcases h4.1 with e | e <;> rw [e] <;> rfl
   ·exact absurd rfl hr
 ·unfold cG at hr;split at hr
  ·rename_i hn;obtain ⟨x, hx, hk, ha, h3, h4⟩ := h6 r hn;obtain ⟨_, g2, g3⟩ := g6 x hx hk;have h1 : x.a = 1 := by omega
   obtain ⟨g4, g5⟩ := g3.resolve_left (fun h => h h1);rw [show r = x.fr by omega]; exact g5
  ·split at hr
   ·rename_i h4;rcases h4.1 with e | e
    ·exact .inl e
    ·exact .inr (.inl e)
   ·omega
end Go.Eng.Rows
namespace Go.Eng
open Go.Eng.Rows
theorem zee : iQ tab := zy1 (by kernel_rfl)
end Go.Eng

namespace Go.Eng
open Go Go.Proofs
section
variable (tc tg tj tf tp : PV) (M S : List (PV × PV)) (r : Int)
def zm5 (R : PV -> Prop) : Prop :=
 if (decide (r >= 44032) && decide (r <= 55203) && (i32.wrap (r - 44032)).tmod (28 : Int) == 0) = true then R (Z6 12) else if (decide (r >= 44032) && decide (r <= 55203)) = true then R (Z6 13) else (∃ ps, some tg = some (PV.ptr ps) /\ PCall qa 94 [PV.ptr ps, Z6 (i64.wrap r)] fun v => ∃ n, v = Z6 n /\ R (Z6 n)) ∨ some tg = some PV.nilp /\ PCall qa 94 [PV.nilp, Z6 (i64.wrap r)] fun v => ∃ n, v = Z6 n /\ R (Z6 n)
theorem zy2 {R : PV -> Prop} (h : zm5 tg r R) : PCall qa 102 [.ptr [tc, tg, tj, tf, tp, .mp M, .mp S], .int .i32 r] R :=
 PCall.wz Tryz.func102 aR [0, 1, 4, 5, 18, 25] bE h
end
section
variable (tc tg tj tf tp : PV) (M S : List (PV × PV)) (r : Int)
def zm6 (R : PV -> Prop) : Prop :=
 let V1 := PCall qa 102 [PV.ptr [tc, tg, tj, tf, tp, PV.mp M, PV.mp S], Z3 r] fun v1 => ∃ n1, v1 = Z6 n1 /\ if ((n1 == 4 || n1 == 5) && r != 8204) = true then R (Z6 3) else R (Z6 0); (∃ ps, some tj = some (PV.ptr ps) /\ PCall qa 94 [PV.ptr ps, Z6 (i64.wrap r)] fun v => ∃ n, v = Z6 n /\ if (n != 0) = true then R (Z6 n) else V1) ∨ some tj = some PV.nilp /\ PCall qa 94 [PV.nilp, Z6 (i64.wrap r)] fun v => ∃ n, v = Z6 n /\ if (n != 0) = true then R (Z6 n) else V1
theorem zy3 {R : PV -> Prop} (h : zm6 tc tg tj tf tp M S r R) : PCall qa 104 [.ptr [tc, tg, tj, tf, tp, .mp M, .mp S], .int .i32 r] R :=
 PCall.wz Tryz.func104 aR [0, 1, 4, 5, 6, 8, 17, 31] bE h
end
section
variable (tc tg tj tf tp : PV) (M S : List (PV × PV)) (r : Int)
def zm7 (R : PV -> Prop) : Prop :=
 (∃ ps, some tf = some (PV.ptr ps) /\ PCall qa 70 [PV.ptr ps, Z6 (i64.wrap r)] fun v => ∃ cs, v = PV.agg cs /\ cs.length = 4 /\ ∃ b, cs.head? = some (Zb b) /\ ∃ b1, cs.tail.head? = some (Zb b1) /\ ∃ b2, cs.tail.tail.head? = some (Zb b2) /\ ∃ b3, cs.tail.tail.tail.head? = some (Zb b3) /\ R (Zb b)) ∨ some tf = some PV.nilp /\ PCall qa 70 [PV.nilp, Z6 (i64.wrap r)] fun v => ∃ cs, v = PV.agg cs /\ cs.length = 4 /\ ∃ b, cs.head? = some (Zb b) /\ ∃ b1, cs.tail.head? = some (Zb b1) /\ ∃ b2, cs.tail.tail.head? = some (Zb b2) /\ ∃ b3, cs.tail.tail.tail.head? = some (Zb b3) /\ R (Zb b)
theorem zy4 {R : PV -> Prop} (h : zm7 tf r R) : PCall qa 103 [.ptr [tc, tg, tj, tf, tp, .mp M, .mp S], .int .i32 r] R :=
 PCall.wz Tryz.func103 aR [0, 1, 4] bE h
end
section
variable (n f : Bool) (es : LL) (r : Int)
def zm8 (R : PV -> Prop) : Prop :=
 if (decide (r >= 44032) && decide (r <= 55203)) = true then if ((i32.wrap (r - 44032)).tmod (28 : Int) == 0) = true then R (Z6 12) else R (Z6 13) else PCall qa 128 [PV.sl n f es, Z6 4, Z3 r] fun v => ∃ n1, v = Z6 n1 /\ R (Z6 n1)
theorem zy5 {R : PV -> Prop} (h : zm8 n f es r R) : PCall qa 122 [.sl n f es, .int .i32 r] R :=
 PCall.wz Tryz.func122 aR [0, 1, 4, 10, 14] bE h
end
section
variable (n f : Bool) (es : LL) (r : Int)
def zm9 (R : PV -> Prop) : Prop :=
 PCall qa 128 [PV.sl n f es, Z6 6, Z3 r] fun v => ∃ n1, v = Z6 n1 /\ if (n1 != 0) = true then R (Z6 n1) else PCall qa 122 [PV.sl n f es, Z3 r] fun v1 => ∃ n2, v1 = Z6 n2 /\ if ((n2 == 4 || n2 == 5) && r != 8204) = true then R (Z6 3) else R (Z6 0)
theorem zy6 {R : PV -> Prop} (h : zm9 n f es r R) : PCall qa 139 [.sl n f es, .int .i32 r] R :=
 PCall.wz Tryz.func139 aR [0, 1, 4, 5, 6, 11, 25] bE h
end
section
variable (a b : Int)
def zna (R : PV -> Prop) : Prop :=
 let X := if (a == 13) = true then if (a == 13) = true then R (Zb (b == 11)) else R (Zb false) else if (a == 11) = true then R (Zb (b == 11)) else R (Zb false)
 let A := if (a == 7) = true then R (Zb true) else if (a == 9) = true then R (Zb (b == 9 || b == 10 || b == 12 || b == 13)) else if (a == 12) = true then if (a == 12) = true then R (Zb (b == 10 || b == 11)) else X else if (a == 10) = true then R (Zb (b == 10 || b == 11)) else X
 let B := if (b == 4) = true then if (b == 4) = true then R (Zb true) else A else if (b == 5) = true then if (b == 5) = true then R (Zb true) else A else if (b == 8) = true then R (Zb true) else A
 let C := if (b == 1) = true then if (b == 1) = true then R (Zb false) else B else if (b == 2) = true then if (b == 2) = true then R (Zb false) else B else if (b == 3) = true then R (Zb false) else B
 if (a == 1) = true then R (Zb (b == 2)) else if (a == 2) = true then if (a == 2) = true then R (Zb false) else C else if (a == 3) = true then R (Zb false) else C
theorem zy7 {R : PV -> Prop} (h : zna a b R) : PCall qa 105 [.int .i64 a, .int .i64 b] R :=
 PCall.wz Tryz.func105 aR [0, 1, 4, 5, 6, 10, 13, 14, 18, 22, 23, 25, 41, 50] bE h
end
section
variable (so od : Bool) (la pi co : Int) (tc tg tj tf tp : PV) (M S : List (PV × PV)) (r : Int)
def znb (R : PV -> Prop) : Prop :=
 PCall qa 102 [PV.ptr [tc, tg, tj, tf, tp, PV.mp M, PV.mp S], Z3 r] fun v => ∃ n, v = Z6 n /\ PCall qa 103 [PV.ptr [tc, tg, tj, tf, tp, PV.mp M, PV.mp S], Z3 r] fun v1 => ∃ b, v1 = Zb b /\ PCall
 qa 104 [PV.ptr [tc, tg, tj, tf, tp, PV.mp M, PV.mp S], Z3 r] fun v2 => ∃ n1, v2 = Z6 n1 /\ PCall qa 105 [Z6 la, Z6 n] fun v3 => ∃ b1, v3 = Zb b1 /\
 let C : Int -> Bool -> Bool -> Prop := fun p o c => if (n1 == 2) = true then R (PV.tup [PV.agg [Zb true, Z6 n, Z6 p, Z6 1, Zb o], Zb c]) else if (co != 0 && n1 == 1) = true then R (PV.tup [PV.agg [Zb true, Z6 n, Z6 p, Z6 2, Zb o], Zb c]) else if (co != 0 && n1 == 3) = true then R (PV.tup [PV.agg [Zb true, Z6 n, Z6 p, Z6 co, Zb o], Zb c]) else R (PV.tup [PV.agg [Zb true, Z6 n, Z6 p, Z6 0, Zb o], Zb c])
 let D : Bool -> Bool -> Prop := fun o c => if b = true then C 1 o c else if (pi == 1 && n == 4) = true then C 1 o c else if (pi == 1 && n == 5) = true then C 2 o c else C 0 o c
 let E : Bool -> Prop := fun c => if (n == 6) = true then D (!od) c else D false c
 if (!b1) = true then if (!(pi == 2 && b)) = true then if (!(co == 2 && n1 == 2)) = true then E (!so || !(od && n == 6)) else E (!so || false) else E (!so || false) else E (!so || false)
theorem zy8 {R : PV -> Prop} (h : znb so od la pi co tc tg tj tf tp M S r R) : PCall qa 79 [.agg [.bool so, .int .i64 la, .int .i64 pi, .int .i64 co, .bool od], .ptr [tc, tg, tj, tf, tp, .mp M, .mp S], .int .i32 r] R :=
 PCall.wz Tryz.func79 aR [0, 1, 2, 3, 6, 7, 8, 9, 10, 11, 12, 64, 67, 76, 85, 89, 98] bE h
end
def zef (tc tg tj tf tp : PV) (M S : List (PV × PV)) (n f : Bool) (es : LL) (x2 : Int) (h0_0 : Bool) (h0_1 h0_2 h0_3 : Int) (h0_4 : Bool) : Env × Hp := ([(0, LV.pv (PV.ptr [tc, tg, tj, tf, tp, PV.mp M, PV.mp S])), (1, LV.pv (PV.sl n f es)), (2, Y6 x2), (7, LV.box 0 0)], [.box [.pv (.bool h0_0), Y6 h0_1, Y6 h0_2, Y6 h0_3, .pv (.bool h0_4)]])
section
variable (tc tg tj tf tp : PV) (M S : List (PV × PV)) (n f : Bool) (es : LL) (k : Int) (J : Int -> Bool -> Int -> Int -> Int -> Bool -> Prop) (μ : Int -> Bool -> Int -> Int -> Int -> Bool -> Nat)
def znc (R : PV -> Prop) : Prop :=
 if (decide (k < 0) || decide (k >= (↑es.length : Int))) = true then R (Z6 (↑es.length : Int)) else aD es k 1 /\ ∃ n1, (es.getD k.toNat []).head? = some (Z3 n1) /\ PCall qa 79 [PV.agg [Zb false, Z6 0, Z6 0, Z6 0, Zb false],
  PV.ptr [tc, tg, tj, tf, tp, PV.mp M, PV.mp S], Z3 n1] fun v => ∃ vs, v = PV.tup vs /\ vs.length = 2 /\ ∃ x, vs.head? = some x /\ ∃ cs, x = PV.agg cs /\ cs.length = 5 /\ ∃ b, cs.head? = some (Zb b)
  /\ ∃ n2, cs.tail.head? = some (Z6 n2) /\ ∃ n3, cs.tail.tail.head? = some (Z6 n3) /\ ∃ n4, cs.tail.tail.tail.head? = some (Z6 n4) /\ ∃ b1, cs.tail.tail.tail.tail.head? = some (Zb b1) /\ ∃ (x1 : PV),
  vs.tail.head? = some x1 /\ ∃ b2, x1 = Zb b2 /\ (aG (zef tc tg tj tf tp M S n f es (i64.wrap (k + 1)) b n2 n3 n4 b1) /\ J (i64.wrap (k + 1)) b n2 n3 n4 b1) /\ ∀ (x2 : Int) (h0_0 : Bool) (h0_1 h0_2 h0_3 : Int)
  (h0_4 : Bool), J x2 h0_0 h0_1 h0_2 h0_3 h0_4 ->
 let K5 := fun (y0_ : Int) (y1_ : Bool) (y2_ y3_ y4_ : Int) (y5_ : Bool) => aG (zef tc tg tj tf tp M S n f es y0_ y1_ y2_ y3_ y4_ y5_) /\ J y0_ y1_ y2_ y3_ y4_ y5_ /\ μ y0_ y1_ y2_ y3_ y4_ y5_ < μ x2 h0_0 h0_1 h0_2 h0_3
  h0_4; if decide (x2 < (↑es.length : Int)) = true then aD es x2 1 /\ ∃ n5, (es.getD x2.toNat []).head? = some (Z3 n5) /\ (PCall qa 79 [PV.agg [Zb h0_0, Z6 h0_1, Z6 h0_2, Z6 h0_3, Zb h0_4], PV.ptr [tc, tg, tj, tf, tp, PV.mp
  M, PV.mp S], Z3 n5] fun v1 => ∃ vs1, v1 = PV.tup vs1 /\ vs1.length = 2 /\ ∃ x3, vs1.head? = some x3 /\ ∃ cs1, x3 = PV.agg cs1 /\ cs1.length = 5 /\ ∃ b3, cs1.head? = some (Zb b3) /\ ∃ (n6 : Int),
  cs1.tail.head? = some (Z6 n6) /\ ∃ n7, cs1.tail.tail.head? = some (Z6 n7) /\ ∃ n8, cs1.tail.tail.tail.head? = some (Z6 n8) /\ ∃ b4, cs1.tail.tail.tail.tail.head? = some (Zb b4) /\ ∃ x4, vs1.tail.head? = some
  x4 /\ ∃ b5, x4 = Zb b5 /\
 let V1 := if b5 = true then R (Z6 x2) else K5 (i64.wrap (x2 + 1)) b3 n6 n7 n8 b4; V1 /\ V1 /\ V1) /\ PCall qa 79 [PV.agg [Zb h0_0, Z6 h0_1, Z6 h0_2, Z6 h0_3, Zb h0_4], PV.ptr [tc, tg, tj, tf, tp, PV.mp M, PV.mp S], Z3 n5] fun
  (v1 : PV) => ∃ vs1, v1 = PV.tup vs1 /\ vs1.length = 2 /\ ∃ x3, vs1.head? = some x3 /\ ∃ cs1, x3 = PV.agg cs1 /\ cs1.length = 5 /\ ∃ b3, cs1.head? = some (Zb b3) /\ ∃ n6, cs1.tail.head? = some (Z6
  n6) /\ ∃ n7, cs1.tail.tail.head? = some (Z6 n7) /\ ∃ n8, cs1.tail.tail.tail.head? = some (Z6 n8) /\ ∃ b4, cs1.tail.tail.tail.tail.head? = some (Zb b4) /\ ∃ x4, vs1.tail.head? = some x4 /\ ∃ b5, x4 = Zb
  b5 /\
 let V2 := if b5 = true then R (Z6 x2) else K5 (i64.wrap (x2 + 1)) b3 n6 n7 n8 b4; V2 /\ V2 else R (Z6 x2)
theorem zy9 {R : PV -> Prop} (h : znc tc tg tj tf tp M S n f es k J μ R) : PCall qa 53 [.ptr [tc, tg, tj, tf, tp, .mp M, .mp S], .sl n f es, .int .i64 k] R :=
 PCall.wz Tryz.func53 aR [0, 1, 2, 6, 7, 9, 10, 18, 36, 49] (dA 5 (bN cz6 (zef tc tg tj tf tp M S n f es) J μ (fun e h => (gI e 2, hB h 0 0, hI h 0 1, hI h 0 2, hI h 0 3, hB h 0 4)) [] [0, 1, 2, 7] [])) h
end
def zeg (tc tg tj tf tp : PV) (M S : List (PV × PV)) (n f : Bool) (es : LL) (x6 : Int) (n_0 : Bool) (s_0 : LL) : Env × Hp := ([(0, LV.pv (PV.ptr [tc, tg, tj, tf, tp, PV.mp M, PV.mp S])), (1, LV.pv (PV.sl n f es)), (5, LV.own 0), (6, Y6 x6)], [.sl (22, 1) true n_0 s_0])
section
variable (tc tg tj tf tp : PV) (M S : List (PV × PV)) (n f : Bool) (es : LL) (J : Int -> Bool -> LL -> Prop) (μ : Int -> Bool -> LL -> Nat)
def znd (R : PV -> Prop) : Prop :=
 (aG (zeg tc tg tj tf tp M S n f es (0 : Int) true []) /\ J (0 : Int) true []) /\ ∀ (x6 : Int) (n_0 : Bool) (s_0 : LL), J x6 n_0 s_0 -> if decide (x6 < (↑es.length : Int)) = true then PCall qa 53 [PV.ptr [tc, tg, tj, tf, tp, PV.mp M, PV.mp S], PV.sl n f es, Z6 x6] fun v => ∃ n1, v = Z6 n1 /\ (dS es.length (some x6) (some n1) none /\ aU es 1) /\ PCall qa 47 [PV.sl n (f && decide (n1 = (↑es.length : Int))) (qc x6.toNat (qak n1.toNat es))] fun v1 => ∃ n2 f1 es1, v1 = PV.sl n2 f1 es1 /\ (aU [[PV.sl n2 f1 es1]] 1 /\ (s_0.length + 1) * 24 <= 140737488355328) /\ aG (zeg tc tg tj tf tp M S n f es n1 (n_0 && false) (s_0 ++ [[PV.sl n2 f1 es1]])) /\ J n1 (n_0 && false) (s_0 ++ [[PV.sl n2 f1 es1]]) /\ μ n1 (n_0 && false) (s_0 ++ [[PV.sl n2 f1 es1]]) < μ x6 n_0 s_0 else R (PV.sl n_0 false s_0)
theorem zza {R : PV -> Prop} (h : znd tc tg tj tf tp M S n f es J μ R) : PCall qa 33 [.ptr [tc, tg, tj, tf, tp, .mp M, .mp S], .sl n f es] R :=
 PCall.wz Tryz.func33 aR [0, 1, 4, 5, 6, 7, 11] (dA 3 (bN eG (zeg tc tg tj tf tp M S n f es) J μ (fun e h => (gI e 6, oN h 0, oS h 0)) [(5, 22, 1)] [0, 1, 5, 6] [])) h
end
section
variable (a : Int)
def zne (R : PV -> Prop) : Prop :=
 R (Zb (a == 3 || a == 1 || a == 2))
theorem zzb {R : PV -> Prop} (h : zne a R) : PCall qa 123 [.int .i64 a] R :=
 PCall.wz Tryz.func123 aR [0, 2] bE h
end
section
variable (a b : Int)
def znf (R : PV -> Prop) : Prop :=
 if (a == 9) = true then R (Zb (b == 9 || b == 10 || b == 12 || b == 13)) else if (a == 12 || a == 10) = true then R (Zb (b == 10 || b == 11)) else if (a == 13 || a == 11) = true then R (Zb (b == 11)) else R (Zb false)
theorem zzc {R : PV -> Prop} (h : znf a b R) : PCall qa 124 [.int .i64 a, .int .i64 b] R :=
 PCall.wz Tryz.func124 aR [0, 1, 4, 6, 26, 38] bE h
end
def zeh (n f : Bool) (es : LL) (n2 f2 : Bool) (ss : LL) (x7 : Bool) (x8 : Int) : Env × Hp := ([(0, LV.pv (PV.sl n f es)), (1, LV.pv (PV.sl n2 f2 ss)), (7, .pv (.bool x7)), (8, Y6 x8)], [])
section
variable (n f : Bool) (es : LL) (n2 f2 : Bool) (ss : LL) (k : Int) (J : Bool -> Int -> Prop) (μ : Bool -> Int -> Nat)
def zng (R : PV -> Prop) : Prop :=
 aD ss k 1 /\ ∃ n1, (ss.getD k.toNat []).head? = some (Z3 n1) /\ PCall qa 139 [PV.sl n f es, Z3 n1] fun v => ∃ n3, v = Z6 n3 /\ if (n3 != 2) = true then R (Zb false) else (aG (zeh n f es n2 f2 ss false (i64.wrap (k - 1))) /\ J false (i64.wrap (k - 1))) /\ ∀ (x7 : Bool) (x8 : Int), J x7 x8 ->
 let K5 := fun (y0_ : Bool) (y1_ : Int) => aG (zeh n f es n2 f2 ss y0_ y1_) /\ J y0_ y1_ /\ μ y0_ y1_ < μ x7 x8; if decide (x8 >= 0) = true then aD ss x8 1 /\ ∃ n4, (ss.getD x8.toNat []).head? = some (Z3 n4) /\ PCall qa 139 [PV.sl n f es, Z3 n4] fun v1 => ∃ n5, v1 = Z6 n5 /\ if (n5 == 2) = true then R (Zb x7) else if (n5 == 0) = true then R (Zb false) else if (n5 == 1) = true then K5 true (i64.wrap (x8 - 1)) else K5 x7 (i64.wrap (x8 - 1)) else R (Zb false)
theorem zzd {R : PV -> Prop} (h : zng n f es n2 f2 ss k J μ R) : PCall qa 125 [.sl n f es, .sl n2 f2 ss, .int .i64 k] R :=
 PCall.wz Tryz.func125 aR [0, 1, 2, 6, 7, 8, 9, 16, 20, 30, 33, 35] (dA 5 (bN jP (zeh n f es n2 f2 ss) J μ (fun e h => (gB e 7, gI e 8)) [] [0, 1, 7, 8] [])) h
end
def zei (n f : Bool) (es : LL) (n2 f2 : Bool) (ss : LL) (x7 : Int) : Env × Hp := ([(0, LV.pv (PV.sl n f es)), (1, LV.pv (PV.sl n2 f2 ss)), (7, Y6 x7)], [])
section
variable (n f : Bool) (es : LL) (n2 f2 : Bool) (ss : LL) (k : Int) (J : Int -> Prop) (μ : Int -> Nat)
def znh (R : PV -> Prop) : Prop :=
 aD ss k 1 /\ ∃ n1, (ss.getD k.toNat []).head? = some (Z3 n1) /\ PCall qa 128 [PV.sl n f es, Z6 5, Z3 n1] fun v => ∃ n3, v = Z6 n3 /\ if (n3 != 1) = true then R (Zb false) else aD ss (i64.wrap (k - 1)) 1 /\ ∃ n4, (ss.getD (i64.wrap (k - 1)).toNat []).head? = some (Z3 n4) /\ PCall qa 122 [PV.sl n f es, Z3 n4] fun v1 => ∃ n5, v1 = Z6 n5 /\ if (n5 != 5) = true then R (Zb false) else (aG (zei n f es n2 f2 ss (i64.wrap (k - 2))) /\ J (i64.wrap (k - 2))) /\ ∀ (x7 : Int), J x7 -> if decide (x7 >= 0) = true then aD ss x7 1 /\ ∃ n6, (ss.getD x7.toNat []).head? = some (Z3 n6) /\ PCall qa 128 [PV.sl n f es, Z6 5, Z3 n6] fun v2 => ∃ n7, v2 = Z6 n7 /\ if (n7 == 1) = true then R (Zb true) else aD ss x7 1 /\ ∃ n8, (ss.getD x7.toNat []).head? = some (Z3 n8) /\ PCall qa 122 [PV.sl n f es, Z3 n8] fun v3 => ∃ n9, v3 = Z6 n9 /\ if (n9 != 4) = true then R (Zb false) else aG (zei n f es n2 f2 ss (i64.wrap (x7 - 1))) /\ J (i64.wrap (x7 - 1)) /\ μ (i64.wrap (x7 - 1)) < μ x7 else R (Zb false)
theorem zze {R : PV -> Prop} (h : znh n f es n2 f2 ss k J μ R) : PCall qa 126 [.sl n f es, .sl n2 f2 ss, .int .i64 k] R :=
 PCall.wz Tryz.func126 aR [0, 1, 2, 6, 7, 24, 28, 37, 44] (dA 4 (bN cz1 (zei n f es n2 f2 ss) J μ (fun e h => (((gI e 7), ()))) [] [0, 1, 7] [])) h
end
def zej (n f : Bool) (es : LL) (n2 f2 : Bool) (ss : LL) (x7 x8 : Int) : Env × Hp := ([(0, LV.pv (PV.sl n f es)), (1, LV.pv (PV.sl n2 f2 ss)), (7, Y6 x7), (8, Y6 x8)], [])
section
variable (n f : Bool) (es : LL) (n2 f2 : Bool) (ss : LL) (k : Int) (J : Int -> Int -> Prop) (μ : Int -> Int -> Nat)
def zni (R : PV -> Prop) : Prop :=
 aD ss k 1 /\ ∃ n1, (ss.getD k.toNat []).head? = some (Z3 n1) /\ PCall qa 122 [PV.sl n f es, Z3 n1] fun v => ∃ n3, v = Z6 n3 /\ if (n3 != 6) = true then R (Zb false) else (aG (zej n f es n2 f2 ss (0 : Int) (i64.wrap (k - 1))) /\ J (0 : Int) (i64.wrap (k - 1))) /\ ∀ (x7 x8 : Int), J x7 x8 -> if decide (x8 >= 0) = true then aD ss x8 1 /\ ∃ n4, (ss.getD x8.toNat []).head? = some (Z3 n4) /\ PCall qa 122 [PV.sl n f es, Z3 n4] fun v1 => ∃ n5, v1 = Z6 n5 /\ if (n5 == 6) = true then aG (zej n f es n2 f2 ss (i64.wrap (x7 + 1)) (i64.wrap (x8 - 1))) /\ J (i64.wrap (x7 + 1)) (i64.wrap (x8 - 1)) /\ μ (i64.wrap (x7 + 1)) (i64.wrap (x8 - 1)) < μ x7 x8 else R (Zb (x7.tmod (2 : Int) == 1)) else R (Zb (x7.tmod (2 : Int) == 1))
theorem zzf {R : PV -> Prop} (h : zni n f es n2 f2 ss k J μ R) : PCall qa 127 [.sl n f es, .sl n2 f2 ss, .int .i64 k] R :=
 PCall.wz Tryz.func127 aR [0, 1, 2, 6, 7, 8, 15, 28] (dA 5 (bN jP (zej n f es n2 f2 ss) J μ (fun e h => (gI e 7, gI e 8)) [] [0, 1, 7, 8] [])) h
end
section
variable (n f : Bool) (es : LL) (n2 f2 : Bool) (ss : LL) (k : Int)
def znj (R : PV -> Prop) : Prop :=
 if (k == 0) = true then R (Zb true) else aD ss (i64.wrap (k - 1)) 1 /\ ∃ n1, (ss.getD (i64.wrap (k - 1)).toNat []).head? = some (Z3 n1) /\ aD ss k 1 /\ ∃ n3, (ss.getD k.toNat []).head? = some (Z3 n3) /\ PCall qa 122 [PV.sl n f es, Z3 n1] fun v => ∃ n4, v = Z6 n4 /\ PCall qa 122 [PV.sl n f es, Z3 n3] fun v1 => ∃ n5, v1 = Z6 n5 /\ if (n4 == 1 && n5 == 2) = true then R (Zb false) else PCall qa 123 [Z6 n4] fun v2 => ∃ b, v2 = Zb b /\ if b = true then R (Zb true) else PCall qa 123 [Z6 n5] fun v3 => ∃ b1, v3 = Zb b1 /\ if b1 = true then R (Zb true) else PCall qa 124 [Z6 n4, Z6 n5] fun v4 => ∃ b2, v4 = Zb b2 /\ if (b2 || n5 == 4 || n5 == 5 || n5 == 8 || n4 == 7) = true then R (Zb false) else PCall qa 125 [PV.sl n f es, PV.sl n2 f2 ss, Z6 k] fun v5 => ∃ b3, v5 = Zb b3 /\ if (!b3) = true then PCall qa 126 [PV.sl n f es, PV.sl n2 f2 ss, Z6 k] fun v6 => ∃ b4, v6 = Zb b4 /\ if (!b4) = true then PCall qa 127 [PV.sl n f es, PV.sl n2 f2 ss, Z6 k] fun v7 => ∃ b5, v7 = Zb b5 /\ R (Zb !b5) else R (Zb false) else R (Zb false)
theorem zzg {R : PV -> Prop} (h : znj n f es n2 f2 ss k R) : PCall qa 95 [.sl n f es, .sl n2 f2 ss, .int .i64 k] R :=
 PCall.wz Tryz.func95 aR [0, 1, 2, 6, 7, 8, 10, 29, 35, 54] bE h
end
def zek (n f : Bool) (es : LL) (n2 f2 : Bool) (ss : LL) (x7 : Int) : Env × Hp := ([(0, LV.pv (PV.sl n f es)), (1, LV.pv (PV.sl n2 f2 ss)), (7, Y6 x7)], [])
section
variable (n f : Bool) (es : LL) (n2 f2 : Bool) (ss : LL) (k : Int) (J : Int -> Prop) (μ : Int -> Nat)
def znk (R : PV -> Prop) : Prop :=
 (aG (zek n f es n2 f2 ss (i64.wrap (k + 1))) /\ J (i64.wrap (k + 1))) /\ ∀ (x7 : Int), J x7 -> if decide (x7 < (↑ss.length : Int)) = true then PCall qa 95 [PV.sl n f es, PV.sl n2 f2 ss, Z6 x7] fun v => ∃ b, v = Zb b /\ if b = true then R (Z6 x7) else aG (zek n f es n2 f2 ss (i64.wrap (x7 + 1))) /\ J (i64.wrap (x7 + 1)) /\ μ (i64.wrap (x7 + 1)) < μ x7 else R (Z6 (↑ss.length : Int))
theorem zzh {R : PV -> Prop} (h : znk n f es n2 f2 ss k J μ R) : PCall qa 72 [.sl n f es, .sl n2 f2 ss, .int .i64 k] R :=
 PCall.wz Tryz.func72 aR [0, 1, 2, 6, 7, 13, 19] (dA 2 (bN cz1 (zek n f es n2 f2 ss) J μ (fun e h => (((gI e 7), ()))) [] [0, 1, 7] [])) h
end
def zel (n f : Bool) (es : LL) (n2 f2 : Bool) (ss : LL) (x6 : Int) (n_0 : Bool) (s_0 : LL) : Env × Hp := ([(0, LV.pv (PV.sl n f es)), (1, LV.pv (PV.sl n2 f2 ss)), (5, LV.own 0), (6, Y6 x6)], [.sl (22, 1) true n_0 s_0])
section
variable (n f : Bool) (es : LL) (n2 f2 : Bool) (ss : LL) (J : Int -> Bool -> LL -> Prop) (μ : Int -> Bool -> LL -> Nat)
def znl (R : PV -> Prop) : Prop :=
 (aG (zel n f es n2 f2 ss (0 : Int) true []) /\ J (0 : Int) true []) /\ ∀ (x6 : Int) (n_0 : Bool) (s_0 : LL), J x6 n_0 s_0 -> if decide (x6 < (↑ss.length : Int)) = true then PCall qa 72 [PV.sl n f es, PV.sl n2 f2 ss, Z6 x6] fun v => ∃ n1, v = Z6 n1 /\ (dS ss.length (some x6) (some n1) none /\ aU ss 1) /\ (aU [[PV.sl n2 (f2 && decide (n1 = (↑ss.length : Int))) (qc x6.toNat (qak n1.toNat ss))]] 1 /\ (s_0.length + 1) * 24 <= 140737488355328) /\ aG (zel n f es n2 f2 ss n1 (n_0 && false) (s_0 ++ [[PV.sl n2 (f2 && decide (n1 = (↑ss.length : Int))) (qc x6.toNat (qak n1.toNat ss))]])) /\ J n1 (n_0 && false) (s_0 ++ [[PV.sl n2 (f2 && decide (n1 = (↑ss.length : Int))) (qc x6.toNat (qak n1.toNat ss))]]) /\ μ n1 (n_0 && false) (s_0 ++ [[PV.sl n2 (f2 && decide (n1 = (↑ss.length : Int))) (qc x6.toNat (qak n1.toNat ss))]]) < μ x6 n_0 s_0 else R (PV.sl n_0 false s_0)
theorem zzi {R : PV -> Prop} (h : znl n f es n2 f2 ss J μ R) : PCall qa 46 [.sl n f es, .sl n2 f2 ss] R :=
 PCall.wz Tryz.func46 aR [0, 1, 4, 5, 6, 7, 11] (dA 3 (bN eG (zel n f es n2 f2 ss) J μ (fun e h => (gI e 6, oN h 0, oS h 0)) [(5, 22, 1)] [0, 1, 5, 6] [])) h
end
end Go.Eng
namespace Go.Eng
open Go Go.Proofs Go.Eng.Rows Go.Eng.Trie Go.Eng.Srt
def zem (st : SSt) : PV := .agg [.bool st.some, .int .i64 st.last, .int .i64 st.pict, .int .i64 st.conj, .bool st.odd]
theorem znm {r : Int} (h : 44032 <= r /\ r <= 55203) : i32.wrap (r - 44032) = r - 44032 := dC (by omega) (by omega)
section
variable {rows : List Row} {v : PV}
theorem znn (hv : fY rows v) {r : Int} (hr : -2147483648 <= r /\ r <= 2147483647) : PCall qa 102 [v, .int .i32 r] fun x => x = .int .i64 (aK rows r) := by
 obtain ⟨tc, tg, tj, tf, tp, made, sec, rfl, ht, hm⟩ := hv;refine zy2 _ _ _ _ _ _ _ _ ?_; unfold zm5;by_cases hh : 44032 <= r /\ r <= 55203
 ·rw [znm hh];by_cases hm28 : (r - 44032).tmod 28 = 0
  ·refine bW (by simp [hh, hm28]) ?_;unfold aK; rw [if_pos hh, if_pos hm28]
  ·refine bR (by simp [hm28]) (bW (by simp [hh]) ?_);unfold aK; rw [if_pos hh, if_neg hm28]
 ·refine bR (by simp; omega) (bR (by simp; omega) ?_);obtain ⟨ps, rfl⟩ := ht.g.ptr;refine .inl ⟨ps, rfl, ?_⟩;have hw : i64.wrap r = r := wz;rw [hw];refine (zcn ht.g r (by omega)).mono ?_;rintro _ rfl;refine ⟨_, rfl, ?_⟩;rw [zda]; unfold aK; rw [if_neg hh]
theorem zzj (hv : fY rows v) {r : Int} (hr : -2147483648 <= r /\ r <= 2147483647) : PCall qa 104 [v, .int .i32 r] fun x => x = .int .i64 (cG rows r) := by
 have hb := znn hv hr;obtain ⟨tc, tg, tj, tf, tp, made, sec, rfl, ht, hm⟩ := hv;refine zy3 _ _ _ _ _ _ _ _ ?_; unfold zm6;obtain ⟨ps, rfl⟩ := ht.j.ptr;refine .inl ⟨ps, rfl, ?_⟩;have hw : i64.wrap r = r := wz;rw [hw];refine (zcn ht.j r (by omega)).mono ?_;rintro _ rfl;refine ⟨_, rfl, ?_⟩;rw [zda];unfold cG;refine aC (fun hc => ?_) (fun hc => ?_)
 ·simp only [bne_iff_ne, ne_eq] at hc;rw [if_pos hc]
 ·simp only [bne_iff_ne, ne_eq, qh] at hc;rw [if_neg (fun h => h hc)];refine hb.mono ?_;rintro _ rfl;refine ⟨_, rfl, aC (fun h2 => ?_) (fun h2 => ?_)⟩
  ·simp only [qe, qj, beq_iff_eq, bne_iff_ne, ne_eq] at h2;rw [if_pos h2]
  ·simp only [qe, qj, beq_iff_eq, bne_iff_ne, ne_eq] at h2;rw [if_neg h2]
theorem zzk (hv : fY rows v) {r : Int} (hr : -2147483648 <= r /\ r <= 2147483647) : PCall qa 103 [v, .int .i32 r] fun x => x = .bool (cE rows 5 r) := by
 obtain ⟨tc, tg, tj, tf, tp, made, sec, rfl, ht, hm⟩ := hv;refine zy4 _ _ _ _ _ _ _ _ ?_; unfold zm7;obtain ⟨ps, rfl⟩ := ht.f.ptr;refine .inl ⟨ps, rfl, ?_⟩;have hw : i64.wrap r = r := wz;rw [hw];refine (zkw ht.f r (by omega)).mono ?_;rintro _ rfl;rw [zln];exact ⟨_, rfl, rfl, _, rfl, _, rfl, _, rfl, _, rfl, rfl⟩
theorem oU (n f : Bool) (hl : rows.length < 1000000) {r : Int} (hr : -2147483648 <= r /\ r <= 2147483647) : PCall qa 122 [.sl n f (bH rows), .int .i32 r] fun x => x = .int .i64 (aK rows r) := by
 refine zy5 _ _ _ _ ?_; unfold zm8;refine aC (fun hh => ?_) (fun hh => ?_)
 ·simp only [qe, aB, ge_iff_le] at hh;rw [znm hh];unfold aK; rw [if_pos hh];refine aC (fun h2 => ?_) (fun h2 => ?_)
  ·simp only [beq_iff_eq] at h2; rw [if_pos h2]
  ·simp only [beq_iff_eq] at h2; rw [if_neg h2]
 ·simp only [qe, aB, ge_iff_le] at hh;refine (nH n f 4 r hl hr).mono ?_;rintro _ rfl;unfold aK; rw [if_neg hh];exact ⟨_, rfl, rfl⟩
theorem zno (n f : Bool) (hl : rows.length < 1000000) {r : Int} (hr : -2147483648 <= r /\ r <= 2147483647) : PCall qa 139 [.sl n f (bH rows), .int .i32 r] fun x => x = .int .i64 (cG rows r) := by
 refine zy6 _ _ _ _ ?_; unfold zm9;refine (nH n f 6 r hl hr).mono ?_;rintro _ rfl;refine ⟨_, rfl, ?_⟩;unfold cG;refine aC (fun hc => ?_) (fun hc => ?_)
 ·simp only [bne_iff_ne, ne_eq] at hc;rw [if_pos hc]
 ·simp only [bne_iff_ne, ne_eq, qh] at hc;rw [if_neg (fun h => h hc)];refine (oU n f hl hr).mono ?_;rintro _ rfl;refine ⟨_, rfl, aC (fun h2 => ?_) (fun h2 => ?_)⟩
  ·simp only [qe, qj, beq_iff_eq, bne_iff_ne, ne_eq] at h2;rw [if_pos h2]
  ·simp only [qe, qj, beq_iff_eq, bne_iff_ne, ne_eq] at h2;rw [if_neg h2]
theorem zzl (a b : Int) : PCall qa 105 [.int .i64 a, .int .i64 b] fun x => x = .bool (iP a b) := by
 refine zy7 _ _ ?_; unfold zna;simp only [beq_iff_eq];have hd : ∀ x y : Int, (x == y) = decide (x = y) := fun x y => by by_cases h : x = y <;> simp [h]
 simp only [hd];unfold iP oG;rcases (by omega : b = 1 ∨ b = 2 ∨ b = 3 ∨ b = 4 ∨ b = 5 ∨ b = 8 ∨ (b ≠ 1 /\ b ≠ 2 /\ b ≠ 3 /\ b ≠ 4 /\ b ≠ 5 /\ b ≠ 8)) with rfl | rfl | rfl | rfl | rfl | rfl | ⟨b1, b2, b3, b4, b5, b8⟩
 all_goals
  rcases (by omega : a = 1 ∨ a = 2 ∨ a = 3 ∨ a = 7 ∨ a = 9 ∨ a = 10 ∨ a = 11 ∨ a = 12 ∨ a = 13 ∨ (a ≠ 1 /\ a ≠ 2 /\ a ≠ 3 /\ a ≠ 7 /\ a ≠ 9 /\ a ≠ 10 /\ a ≠ 11 /\ a ≠ 12 /\ a ≠ 13)) with rfl | rfl | rfl | rfl | rfl | rfl | rfl | rfl | rfl | ⟨a1, a2, a3, a7, a9, a10, a11, a12, a13⟩
 all_goals simp [*, qax]
theorem zzm (hv : fY rows v) (st : SSt) {r : Int} (hr : -2147483648 <= r /\ r <= 2147483647) : PCall qa 79 [zem st, v, .int .i32 r] fun x => x = .tup [zem (dZ rows st r), .bool (qC rows st r)] := by
 have h1 := znn hv hr;have h2 := zzk hv hr;have h3 := zzj hv hr;obtain ⟨tc, tg, tj, tf, tp, made, sec, rfl, ht, hm⟩ := hv;obtain ⟨so, la, pi, co, od⟩ := st;refine zy8 _ _ _ _ _ _ _ _ _ _ _ _ _ ?_; unfold znb;refine h1.mono ?_;rintro _ rfl;refine ⟨_, rfl, ?_⟩;refine h2.mono ?_;rintro _ rfl;refine ⟨_, rfl, ?_⟩;refine h3.mono ?_;rintro _ rfl;refine ⟨_, rfl, ?_⟩;refine (zzl la (aK rows r)).mono ?_;rintro _ rfl;refine ⟨_, rfl, ?_⟩;unfold dZ qC tE zem;dsimp only;have hd : ∀ x y : Int, (x == y) = decide (x = y) := fun x y => by by_cases h : x = y <;> simp [h]
 have hd2 : ∀ x y : Int, (x != y) = !decide (x = y) := fun x y => by by_cases h : x = y <;> simp [h]
 simp only [hd, hd2];generalize iP la (aK rows r) = b1;generalize cE rows 5 r = b;generalize cG rows r = c;generalize aK rows r = n;by_cases n6 : n = 6
 ·subst n6;cases b1 <;> cases b <;> by_cases p2 : pi = 2 <;> by_cases c2 : c = 2 <;> by_cases k2 : co = 2 <;> by_cases c1 : c = 1 <;> by_cases c3 : c = 3 <;> by_cases k0 : co = 0 <;> first | omega | simp [*]
 ·by_cases p1 : pi = 1
  ·subst p1;by_cases n4 : n = 4
   ·subst n4;cases b1 <;> cases b <;> by_cases c2 : c = 2 <;> by_cases k2 : co = 2 <;> by_cases c1 : c = 1 <;> by_cases c3 : c = 3 <;> by_cases k0 : co = 0 <;> first | omega | simp [*]
   ·by_cases n5 : n = 5
    ·subst n5;cases b1 <;> cases b <;> by_cases c2 : c = 2 <;> by_cases k2 : co = 2 <;> by_cases c1 : c = 1 <;> by_cases c3 : c = 3 <;> by_cases k0 : co = 0 <;> first | omega | simp [*]
    ·cases b1 <;> cases b <;> by_cases c2 : c = 2 <;> by_cases k2 : co = 2 <;> by_cases c1 : c = 1 <;> by_cases c3 : c = 3 <;> by_cases k0 : co = 0 <;> first | omega | simp [*]
  ·cases b1 <;> cases b <;> by_cases p2 : pi = 2 <;> by_cases c2 : c = 2 <;> by_cases k2 : co = 2 <;> by_cases c1 : c = 1 <;> by_cases c3 : c = 3 <;> by_cases k0 : co = 0 <;> first | omega | simp [*]
end
theorem jX {L : List Int} (h : R32 L) (i : Nat) : -2147483648 <= L.getD i 0 /\ L.getD i 0 <= 2147483647 := by
 by_cases hi : i < L.length
 ·rw [show L.getD i 0 = L[i] by simp [qaa, hi]]; exact h _ (qv hi)
 ·rw [show L.getD i 0 = 0 by simp [qaa, hi]]; omega
theorem kG {l : List Int} {i : Int} (h0 : 0 <= i) (hi : i.toNat < l.length) : aD (aA l) i 1 /\ (aA l).getD i.toNat [] = [.int .i32 (l.getD i.toNat 0)] := by
 obtain ⟨h1, h2⟩ := iE h0 hi;exact ⟨h1, by rw [h2]; simp [qaa, hi]⟩
theorem zzn {α : Type} {l : List α} {i : Nat} (d : α) (h : i < l.length) : l.getD i d = l[i] := by simp [qaa, h]
theorem PCall.vac {P : Program} {f : Nat} {args args' : List PV} {Q Q' : PV -> Prop} (h : PCall P f args' Q') {k : Nat} {fl : Bool} {es : List (List PV)} (hk : args[k]? = some (.sl true fl es)) (hne : es ≠ []) : PCall P f args Q :=
 ⟨h.1, fun w I G cargs _ _ h3 => by
  have := h3 k (.pv (.sl true fl es)) (by rw [qbf, hk]; rfl);generalize cargs.getD k undef = c at this;cases this with
  | pv _ _ h =>
    generalize hx : es = xs at h;cases h with
    | slnil => exact absurd hx hne⟩
theorem zzo {L : List Int} (h : L ≠ []) : aA L ≠ [] := fun e => h (by cases L with | nil => rfl | cons a b => cases e)
section
variable {rows : List Row} {v : PV}
theorem znp {L : List Int} {i : Nat} (hi : i < L.length) (hb : fU rows L i = false) : gP rows L (L.length - i) i = gP rows L (L.length - (i + 1)) (i + 1) := by
 rw [show L.length - i = (L.length - (i + 1)) + 1 by omega, gP, if_neg (by rw [hb]; decide)]
theorem znq {L : List Int} {i : Nat} (hi : i < L.length) (hb : fU rows L i = true) : gP rows L (L.length - i) i = i := by
 rw [show L.length - i = (L.length - (i + 1)) + 1 by omega, gP, if_pos hb]
theorem zzp (ht : iQ rows) (hv : fY rows v) (n f : Bool) (L : List Int) (hr : R32 L) (hL : L.length < 1000000000000) (k : Int) (k0 : 0 <= k) (k1 : k < L.length) (hb : fU rows L k.toNat = true) :
 PCall qa 53 [v, .sl n f (aA L), .int .i64 k] fun x => x = .int .i64 (cH rows L k.toNat : Nat) := by
 have hs := fun st {r : Int} hr => zzm hv st (r := r) hr;obtain ⟨tc, tg, tj, tf, tp, made, sec, rfl, ht', hm⟩ := hv
 refine zy9 _ _ _ _ _ _ _ _ _ _ _
  (fun i so la pi co od => (k + 1 <= i /\ i <= L.length) /\ bF rows L k.toNat (i.toNat - k.toNat) = ⟨so, la, pi, co, od⟩ /\ cH rows L k.toNat = gP rows L (L.length - i.toNat) i.toNat) (fun i _ _ _ _ _ => L.length - i.toNat) ?_
 unfold znc;have hl8 : ((aA L).length : Int) = L.length := by rw [bX]
 rw [hl8];refine bR (by simp; omega) ?_;have hk : k.toNat < L.length := by omega
 obtain ⟨g1, g2⟩ := kG k0 hk;have hw : i64.wrap (k + 1) = k + 1 := wz;refine ⟨g1, _, by rw [g2]; rfl, ?_⟩;refine (hs st0 (jX hr k.toNat)).mono ?_;rintro _ rfl;rw [hw];refine ⟨_, rfl, rfl, _, rfl, _, rfl, rfl, _, rfl, _, rfl, _, rfl, _, rfl, _, rfl, _, rfl, _, rfl, ⟨rfl, ⟨by omega, by omega⟩, ?_, ?_⟩, ?_⟩
 ·rw [show (k + 1).toNat - k.toNat = 1 by omega]; rfl
 ·rw [show (k + 1).toNat = k.toNat + 1 by omega]; rfl
 rintro i so la pi co od ⟨⟨i0, i1⟩, hst, hn⟩;refine aC (fun hc => ?_) (fun hc => ?_)
 ·simp only [aB] at hc;have hi : i.toNat < L.length := by omega
  obtain ⟨j, hj⟩ : ∃ j, i.toNat = k.toNat + (j + 1) := ⟨i.toNat - k.toNat - 1, by omega⟩;obtain ⟨g1, g2⟩ := kG (l := L) (i := i) (by omega) hi;have hwi : i64.wrap (i + 1) = i + 1 := wz
  have hcut : qC rows ⟨so, la, pi, co, od⟩ (L.getD i.toNat 0) = fU rows L i.toNat := by
   rw [<- hst, hj, show k.toNat + (j + 1) - k.toNat = j + 1 by omega];exact zta ht hb j
  have hstep : bF rows L k.toNat ((i + 1).toNat - k.toNat) = dZ rows ⟨so, la, pi, co, od⟩ (L.getD i.toNat 0) := by
   rw [<- hst, show (i + 1).toNat - k.toNat = (i.toNat - k.toNat) + 1 by omega];show dZ rows _ (L.getD (k.toNat + (i.toNat - k.toNat)) 0) = _;rw [show k.toNat + (i.toNat - k.toNat) = i.toNat by omega]
  have body : ∀ K : Prop, K -> if fU rows L i.toNat = true then (PV.int .i64 i = .int .i64 (cH rows L k.toNat : Nat)) else K /\ ((k + 1 <= i + 1 /\ i + 1 <= L.length) /\ bF rows L k.toNat ((i + 1).toNat - k.toNat) = ⟨(dZ rows ⟨so, la, pi, co, od⟩ (L.getD i.toNat 0)).some, (dZ rows ⟨so, la, pi, co, od⟩ (L.getD i.toNat 0)).last, (dZ rows ⟨so, la, pi, co, od⟩ (L.getD i.toNat 0)).pict, (dZ rows ⟨so, la, pi, co, od⟩ (L.getD i.toNat 0)).conj, (dZ rows ⟨so, la, pi, co, od⟩ (L.getD i.toNat 0)).odd⟩ /\ cH rows L k.toNat = gP rows L (L.length - (i + 1).toNat) (i + 1).toNat) /\ L.length - (i + 1).toNat < L.length - i.toNat := fun K hK => by
   split
   ·rename_i hbi;rw [hn, znq hi hbi, show ((i.toNat : Nat) : Int) = i by omega]
   ·rename_i hbi;refine ⟨hK, ⟨⟨by omega, by omega⟩, by rw [hstep], ?_⟩, by omega⟩;rw [hn, znp hi (by simpa using hbi), show (i + 1).toNat = i.toNat + 1 by omega]
  have call := hs ⟨so, la, pi, co, od⟩ (jX hr i.toNat);rw [hcut] at call;rw [hwi];refine ⟨g1, _, by rw [g2]; rfl, call.mono ?_, call.mono ?_⟩
  ·rintro _ rfl;exact ⟨_, rfl, rfl, _, rfl, _, rfl, rfl, _, rfl, _, rfl, _, rfl, _, rfl, _, rfl, _, rfl, _, rfl, body _ rfl, body _ rfl, body _ rfl⟩
  ·rintro _ rfl;exact ⟨_, rfl, rfl, _, rfl, _, rfl, rfl, _, rfl, _, rfl, _, rfl, _, rfl, _, rfl, _, rfl, _, rfl, body _ rfl, body _ rfl⟩
 ·simp only [aB] at hc;have hie : i.toNat = L.length := by omega
  rw [hn, show L.length - i.toNat = 0 by omega];show _ = PV.int .i64 ((i.toNat : Nat) : Int);rw [show ((i.toNat : Nat) : Int) = i by omega]
theorem zzq (n f : Bool) (l : List Int) (hn : n = true -> l = []) (hl : l.length < 1000000000000) : PCall qa 47 [.sl n f (aA l)] fun x => x = .sl n false (aA l) :=
 PCall.ofA (args := [_]) (zdp n f (aA l) (fun h => by rw [hn h]; rfl) ⟨rfl, .inl rfl, fun e he => (by cases he), eV _, by simp only [qt, bX]; omega⟩) fun r h' ⟨hr, hh⟩ => by subst hr; subst hh; exact ⟨_, rfl, rfl⟩
def clT (q : Bool × Bool × List Int) : List PV := [.sl q.1 q.2.1 (aA q.2.2)]
theorem xS (q : Bool × Bool × List Int) : (clT q).length = 1 := rfl
theorem znr (ht : iQ rows) (hv : fY rows v) (n f : Bool) (L : List Int) (hn0 : n = true -> L = []) (hr : R32 L) (hL : L.length < 100000000) :
 PCall qa 33 [v, .sl n f (aA L)] fun x => ∃ (n : Bool) (Q : List (Bool × Bool × List Int)), x = .sl n false (Q.map clT) /\ Q.map (fun q => q.2.2) = iR rows L 0 /\ (∀ q ∈ Q, q.1 = true -> q.2.2 = []) /\ (n = true -> Q = []) := by
 have hnx := fun k k0 k1 hb => zzp ht hv n f L hr (by omega) k k0 k1 hb;obtain ⟨tc, tg, tj, tf, tp, made, sec, rfl, ht', hm⟩ := hv
 refine zza _ _ _ _ _ _ _ _ _ _
  (fun i n s => (0 <= i /\ i <= L.length) /\ (i.toNat = L.length ∨ fU rows L i.toNat = true) /\ ∃ Q : List (Bool × Bool × List Int), s = Q.map clT /\ iR rows L 0 = Q.map (fun q => q.2.2) ++ iR rows L i.toNat /\ (∀ q ∈ Q, q.1 = true -> q.2.2 = []) /\ (n = true -> Q = []) /\ Q.length <= i.toNat) (fun i _ _ => L.length - i.toNat) ?_
 unfold znd;have hl8 : ((aA L).length : Int) = L.length := by rw [bX]
 rw [hl8];refine ⟨⟨rfl, ⟨qp _, by omega⟩, .inr rfl, [], rfl, rfl, (fun q hq => by cases hq), (fun _ => rfl), qg _⟩, ?_⟩;rintro i n2 _ ⟨⟨i0, i1⟩, hbeg, Q, rfl, hcl, hq, hnq, hql⟩;refine aC (fun hc => ?_) (fun hc => ?_)
 ·simp only [aB] at hc;have hi : i.toNat < L.length := by omega
  have hb := hbeg.resolve_left (by omega);obtain ⟨x1, x2, x3⟩ := qD (rows := rows) hi;refine (hnx i i0 hc hb).mono ?_;rintro _ rfl;refine ⟨_, rfl, ⟨zm2 i0 (by omega) (by rw [bX]; omega), eV _⟩, ?_⟩;rw [show (((cH rows L i.toNat : Nat) : Int)).toNat = cH rows L i.toNat by omega, zm3];have hsl := zyy L i.toNat (cH rows L i.toNat);have hsn : n = true -> fT L i.toNat (cH rows L i.toNat) = [] := fun h => by rw [hn0 h] at hi; cases hi
  refine (zzq n _ (fT L i.toNat (cH rows L i.toNat)) hsn (by omega)).mono ?_;rintro _ rfl;refine ⟨_, _, _, rfl, ⟨kB (enc := clT) xS [(n, false, fT L i.toNat (cH rows L i.toNat))], by rw [qf]; omega⟩, rfl, ⟨⟨by omega, by omega⟩, ?_, Q ++ [(n, false, fT L i.toNat (cH rows L i.toNat))], by rw [qu]; rfl, ?_, fun q hq2 => ?_, fun h => by simp at h, ?_⟩, ?_⟩
  ·rw [show (((cH rows L i.toNat : Nat) : Int)).toNat = cH rows L i.toNat by omega]; exact x3
  ·rw [show (((cH rows L i.toNat : Nat) : Int)).toNat = cH rows L i.toNat by omega, hcl, zit hi, qu, qab]; rfl
  ·rcases List.mem_append.1 hq2 with hq2 | hq2
   ·exact hq q hq2
   ·rw [List.mem_singleton.1 hq2]; exact hsn
  ·rw [show (((cH rows L i.toNat : Nat) : Int)).toNat = cH rows L i.toNat by omega, qb, qm]; omega
  ·dsimp only; omega
 ·simp only [aB] at hc;rw [zis (i := i.toNat) (by omega), qq] at hcl;exact ⟨n2, Q, rfl, hcl.symm, hq, hnq⟩
theorem zns (ht : iQ rows) (hv : fY rows v) (n f : Bool) (L : List Int) (hr : R32 L) (hL : L.length < 100000000) :
 PCall qa 33 [v, .sl n f (aA L)] fun x => ∃ (n : Bool) (Q : List (Bool × Bool × List Int)), x = .sl n false (Q.map clT) /\ Q.map (fun q => q.2.2) = iR rows L 0 := by
 by_cases h : n = true -> L = []
 ·exact (znr ht hv n f L h hr hL).mono fun x ⟨n, Q, h1, h2, _⟩ => ⟨n, Q, h1, h2⟩
 ·have hn : n = true := by cases n with | true => rfl | false => exact absurd (fun h => by cases h) h
  subst hn;exact PCall.vac (znr ht hv false f L (fun h => by cases h) hr hL) (k := 1) rfl (zzo fun e => h fun _ => e)
theorem qAt {C : List (List Int)} {Q : List (Bool × Bool × List Int)} (hQ : Q.map (fun q => q.2.2) = C) {i : Int} (i0 : 0 <= i) (hi : i.toNat < C.length) : aD (Q.map clT) i 1 /\ ∃ n f, (Q.map clT).getD i.toNat [] = [.sl n f (aA (C.getD i.toNat []))] := by
 subst hQ;rw [qf] at hi;refine ⟨cS xS i0 (by omega), Q[i.toNat].1, Q[i.toNat].2.1, ?_⟩;rw [c7 hi, zzn [] (by rw [qf]; exact hi), List.getElem_map]; rfl
end
end Go.Eng
namespace Go.Eng
open Go Go.Proofs Go.Eng.Rows Go.Eng.Srt
def bM (L : List Int) : LL := L.map fun n => [.int .i64 n]
theorem zen (L : List Int) : (bM L).length = L.length := by simp [bM]
theorem iY (L : List Int) (i : Nat) (h : i < L.length) : (bM L).getD i [] = [.int .i64 (L.getD i 0)] := by simp [bM, qaa, h]
theorem znt (L : List Int) (i : Nat) (n : Int) : (bM L).set i [.int .i64 n] = bM (L.set i n) := by simp [bM]
theorem lJ (L : List Int) (i : Nat) (h : i < L.length) : aD (bM L) (i : Int) 1 := ⟨by omega, by rw [zen]; omega, by rw [qd, iY L i h]; rfl⟩
theorem znu (na fa : Bool) (xa : LL) (nb fb : Bool) (xb : LL) (nl fl : Bool) (ls : LL) (i k : Nat) (hx : xb.length < 1000000000) (hi : i * (xb.length + 1) + k < 1000000000000) :
 PCall qa 38 [.ptr [.sl na fa xa, .sl nb fb xb, .sl nl fl ls], .int .i64 i, .int .i64 k] fun v => v = .int .i64 (i * (xb.length + 1) + k : Nat) := by
 refine zxy na fa xa nb fb xb nl fl ls i k ?_;unfold zl8;refine ⟨nb, fb, xb, rfl, ?_⟩;have h1 : i64.wrap ((xb.length : Int) + 1) = ((xb.length + 1 : Nat) : Int) := by rw [wz]; omega
 have h2 : i64.wrap ((i : Int) * ((xb.length + 1 : Nat) : Int)) = ((i * (xb.length + 1) : Nat) : Int) := by rw [<- qbm, wz]
 rw [h1, h2, <- Int.natCast_add, wz]
structure TabD (A B : List (List Int)) (D : Nat -> Nat -> Prop) (L : List Int) : Prop where
 len : L.length = (A.length + 1) * (B.length + 1)
 at' : ∀ i k, i <= A.length -> k <= B.length -> D i k -> L.getD (i * (B.length + 1) + k) 0 = (aZ (A.drop i) (B.drop k) : Nat)
theorem lK {a b i k : Nat} (hi : i <= a) (hk : k <= b) : i * (b + 1) + k < (a + 1) * (b + 1) := by
 have : i * (b + 1) <= a * (b + 1) := qy _ hi;rw [qbj]; omega
theorem zzr {b i k i' k' : Nat} (hk : k <= b) (hk' : k' <= b) (h : i * (b + 1) + k = i' * (b + 1) + k') : i = i' /\ k = k' := by
 have h1 : (i * (b + 1) + k) / (b + 1) = i := by rw [Nat.mul_comm, qbn (by omega), qbl (by omega)]; omega
 have h2 : (i' * (b + 1) + k') / (b + 1) = i' := by rw [Nat.mul_comm, qbn (by omega), qbl (by omega)]; omega
 have : i = i' := by rw [<- h1, <- h2, h]
 subst this;exact ⟨rfl, by omega⟩
theorem TabD.put {A B : List (List Int)} {D D' : Nat -> Nat -> Prop} {L : List Int} (h : TabD A B D L) {i k : Nat} (hi : i <= A.length) (hk : k <= B.length) {n : Int} (hn : n = (aZ (A.drop i) (B.drop k) : Nat)) (hD : ∀ i' k', i' <= A.length -> k' <= B.length -> D' i' k' -> D i' k' ∨ (i' = i /\ k' = k)) :
 TabD A B D' (L.set (i * (B.length + 1) + k) n) := by
 refine ⟨by rw [List.length_set]; exact h.len, fun i' k' h1 h2 h3 => ?_⟩;have hlt := lK hi hk;by_cases e : i' = i /\ k' = k
 ·obtain ⟨rfl, rfl⟩ := e;rw [<- hn];simp [qaa, h.len, hlt]
 ·have hne : i * (B.length + 1) + k ≠ i' * (B.length + 1) + k' := fun he => by
   obtain ⟨rfl, rfl⟩ := zzr hk h2 he;exact e ⟨rfl, rfl⟩
  have := h.at' i' k' h1 h2 ((hD i' k' h1 h2 h3).resolve_right e);rw [<- this];simp only [qaa, List.getElem?_set_ne hne]
theorem znv {a b : Nat} (h : (a + 1) * (b + 1) <= 1048576) : a < 1048576 /\ b < 1048576 := by
 have h1 : (a + 1) * 1 <= (a + 1) * (b + 1) := Nat.mul_le_mul_left _ (by omega);have h2 : 1 * (b + 1) <= (a + 1) * (b + 1) := qy _ (by omega);omega
theorem oV {Q : List (Bool × Bool × List Int)} {C : List (List Int)} (h : Q.map (fun q => q.2.2) = C) : (Q.map clT).length = C.length := by rw [<- h, qf, qf]
theorem qX {l : List (List Int)} {i : Nat} (h : i < l.length) : l.getD i [] ∈ l := by rw [qaa, qar h]; exact qv _
theorem jY {i : Nat} (h : i < 1000000000 := by omega) : i64.wrap ((i : Int) + 1) = ((i + 1 : Nat) : Int) := by rw [wz]; omega
theorem qY {C : List (List Int)} {Q : List (Bool × Bool × List Int)} (hQ : Q.map (fun q => q.2.2) = C) (i : Nat) (hi : i < C.length) : aD (Q.map clT) (i : Int) 1 /\ ∃ n f, (Q.map clT).getD i [] = [.sl n f (aA (C.getD i []))] := by
 have := qAt hQ (i := (i : Int)) (by omega) (by omega);rwa [qd] at this
theorem iF {α : Type} (l : List α) (i : Nat) (d : α) (h : i < l.length) : l.drop i = l.getD i d :: l.drop (i + 1) := by
 rw [List.drop_eq_getElem_cons h];congr 1;simp [qaa, h]
section
variable {QA QB : List (Bool × Bool × List Int)} {A B : List (List Int)}
theorem zzs (na fa nb fb : Bool) (hA : QA.map (fun q => q.2.2) = A) (hB : QB.map (fun q => q.2.2) = B) (hsz : (A.length + 1) * (B.length + 1) <= 1048576) (hl : ∀ c ∈ A, c.length < 100000000) :
 ACall qa 35 [.box 0 0] [.box [.pv (.sl na fa (QA.map clT)), .pv (.sl nb fb (QB.map clT)), .pv (.sl true true [])]] fun r h' => ∃ L, r = .tup [] /\ h' = [.box [.pv (.sl na fa (QA.map clT)), .pv (.sl nb fb (QB.map clT)), .own 1], .sl (3, 1) true false (bM L)] /\ TabD A B (fun _ _ => True) L := by
 have lA : QA.length = A.length := by rw [<- hA, qf]
 have lB : QB.length = B.length := by rw [<- hB, qf]
 obtain ⟨bA, bB⟩ := znv hsz
 refine zxz na fa (QA.map clT) nb fb (QB.map clT)
  (fun i n s => n = false /\ -1 <= i /\ i < A.length /\ ∃ L, s = bM L /\ TabD A B (fun i' k' => i < (i' : Int) ∨ k' = B.length) L) (fun i _ _ => (i + 1).toNat)
  (fun ti _ _ _ i k n s => i = ti /\ n = false /\ (0 <= i /\ i < A.length) /\ (-1 <= k /\ k < B.length) /\ ∃ L, s = bM L /\ TabD A B (fun i' k' => i < (i' : Int) ∨ k' = B.length ∨ (i = (i' : Int) /\ k < (k' : Int))) L) (fun _ k _ _ => (k + 1).toNat) ?_
 unfold zl9;have e1 : i64.wrap (((QA.map clT).length : Int) + 1) = ((A.length + 1 : Nat) : Int) := by rw [qf, lA, wz]; omega
 have e2 : i64.wrap (((QB.map clT).length : Int) + 1) = ((B.length + 1 : Nat) : Int) := by rw [qf, lB, wz]; omega
 have e3 : i64.wrap (((A.length + 1 : Nat) : Int) * ((B.length + 1 : Nat) : Int)) = (((A.length + 1) * (B.length + 1) : Nat) : Int) := by rw [<- qbm, wz]
 have e4 : i64.wrap (((QA.map clT).length : Int) - 1) = (A.length : Int) - 1 := by rw [qf, lA, wz]
 have e5 : i64.wrap (((QB.map clT).length : Int) - 1) = (B.length : Int) - 1 := by rw [qf, lB, wz]
 have lB' : (QB.map clT).length = B.length := by rw [qf, lB]
 rw [e1, e2, e3, e4, e5, qd];have hrep : (qan ((A.length + 1) * (B.length + 1)) [PV.int .i64 0] : LL) = bM (qan ((A.length + 1) * (B.length + 1)) 0) := by simp [bM]
 rw [hrep]
 have hat : ∀ (s : LL) (i k : Nat), i <= A.length -> k <= B.length -> PCall qa 38 [.ptr [.sl na fa (QA.map clT), .sl nb fb (QB.map clT), .sl false false s], .int .i64 i, .int .i64 k] fun v => v = .int .i64 (i * (B.length + 1) + k : Nat) := fun s i k hi hk => by
  have h := lK hi hk;have := znu na fa (QA.map clT) nb fb (QB.map clT) false false s i k (by rw [lB']; omega) (by rw [lB']; omega);rwa [lB'] at this
 refine ⟨⟨by omega, qp _, by omega, by omega⟩, ⟨rfl, rfl, by omega, by omega, _, rfl, ⟨by simp, fun i k hi hk hd => ?_⟩⟩, ?_⟩
 ·have h0 : aZ (A.drop i) (B.drop k) = 0 := by
   rcases hd with hd | hd
   ·rw [List.drop_eq_nil_of_le (by omega)]; exact wG _
   ·rw [hd, qaf]; exact tF _
  rw [h0];simp [qaa, lK hi hk]
 ·rintro i0 n0 _ ⟨rfl, i1, i2, L0, rfl, h0⟩;refine aC (fun hc => ?_) (fun hc => ?_)
  ·simp only [aB] at hc;refine ⟨⟨rfl, rfl, rfl, ⟨by omega, i2⟩, ⟨by omega, by omega⟩, L0, rfl, ⟨h0.len, fun i k hi hk hd => h0.at' i k hi hk (hd.elim .inl fun h => h.elim .inr fun h => ?_)⟩⟩, ?_⟩
   ·omega
   rintro i k0 n1 _ ⟨rfl, rfl, ⟨j1, j2⟩, ⟨j3, j4⟩, L, rfl, h1⟩;refine aC (fun hk => ?_) (fun hk => ?_)
   ·simp only [aB] at hk;obtain ⟨a, rfl⟩ := qas j1;obtain ⟨k, rfl⟩ := qas hk;have ha : a < A.length := by omega
    have hkB : k < B.length := by omega
    obtain ⟨qa1, na2, fa2, qa2⟩ := qAt hA (i := (a : Int)) (by omega) (by omega);obtain ⟨qb1, nb2, fb2, qb2⟩ := qAt hB (i := (k : Int)) (by omega) (by omega);rw [qd] at qa2 qb2;rw [qd, qd, qa2, qb2];refine ⟨qa1, na2, fa2, _, rfl, qb1, nb2, fb2, _, rfl, ?_⟩;have hcl : (A.getD a []).length < 100000000 := hl _ (qX ha);refine (zmp na2 fa2 nb2 fb2 (A.getD a []) (B.getD k []) (by omega)).mono ?_;rintro _ rfl;refine ⟨_, rfl, ?_⟩;have wi : i64.wrap ((a : Int) + 1) = ((a + 1 : Nat) : Int) := jY;have wk : i64.wrap ((k : Int) + 1) = ((k + 1 : Nat) : Int) := jY;have wm : i64.wrap ((k : Int) - 1) = (k : Int) - 1 := wz;rw [wi, wk, wm];have da := iF A a [] ha;have db := iF B k [] hkB;have t11 := lK (i := a) (k := k) (qn ha) (qn hkB);have t21 := lK (i := a + 1) (k := k) ha (qn hkB);have t12 := lK (i := a) (k := k + 1) (qn ha) hkB;have t22 := lK (i := a + 1) (k := k + 1) ha hkB;have v22 := h1.at' (a + 1) (k + 1) ha hkB (.inl (by omega));have v21 := h1.at' (a + 1) k ha (qn hkB) (.inl (by omega));have v12 := h1.at' a (k + 1) (qn ha) hkB (.inr (.inr ⟨rfl, by omega⟩))
    have fin : ∀ n : Int, n = (aZ (A.drop a) (B.drop k) : Nat) -> TabD A B (fun i' k' => (a : Int) < (i' : Int) ∨ k' = B.length ∨ ((a : Int) = (i' : Int) /\ (k : Int) - 1 < (k' : Int))) (L.set (a * (B.length + 1) + k) n) := fun n hn =>
     h1.put (qn ha) (qn hkB) hn fun i' k' _ _ hd => by omega
    have bl : aZ (A.drop (a + 1)) (B.drop (k + 1)) < 1048576 := qbd (zbc _ _) (by rw [qad]; omega);have bl2 : aZ (A.drop a) (B.drop k) < 1048577 := qbd (zbc _ _) (by rw [qad]; omega);refine aC (fun hb => ?_) (fun hb => ?_)
    ·simp only [aB] at hb;refine (hat _ a k (qn ha) (qn hkB)).mono ?_;rintro _ rfl;refine ⟨_, rfl, rfl, (hat _ (a + 1) (k + 1) ha hkB).mono ?_⟩;rintro _ rfl;refine ⟨_, rfl, rfl, lJ L _ (by rw [h1.len]; exact t22), _, by rw [qd, iY L _ (by rw [h1.len]; exact t22)]; rfl, lJ L _ (by rw [h1.len]; exact t11), ?_, ?_⟩
     ·rw [qd, iY L _ (by rw [h1.len]; exact t11)]; exact ⟨rfl, qg _⟩
     ·rw [qd, iY L _ (by rw [h1.len]; exact t11), v22, wz];refine ⟨rfl, ⟨rfl, rfl, ⟨by omega, j2⟩, ⟨by omega, by omega⟩, _, znt L _ _, fin _ ?_⟩, by dsimp only; omega⟩;rw [da, db, qE, if_pos hb]; omega
    ·simp only [aB] at hb;refine (hat _ a k (qn ha) (qn hkB)).mono ?_;rintro _ rfl;refine ⟨_, rfl, rfl, (hat _ (a + 1) k ha (qn hkB)).mono ?_⟩;rintro _ rfl;refine ⟨_, rfl, rfl, lJ L _ (by rw [h1.len]; exact t21), _, by rw [qd, iY L _ (by rw [h1.len]; exact t21)]; rfl, (hat _ a (k + 1) (qn ha) hkB).mono ?_⟩;rintro _ rfl;refine ⟨_, rfl, rfl, lJ L _ (by rw [h1.len]; exact t12), _, by rw [qd, iY L _ (by rw [h1.len]; exact t12)]; rfl, lJ L _ (by rw [h1.len]; exact t11), ?_, ?_⟩
     ·rw [qd, iY L _ (by rw [h1.len]; exact t11)]; exact ⟨rfl, qg _⟩
     ·rw [qd, iY L _ (by rw [h1.len]; exact t11), v21, v12];refine ⟨rfl, ⟨rfl, rfl, ⟨by omega, j2⟩, ⟨by omega, by omega⟩, _, znt L _ _, fin _ ?_⟩, by dsimp only; omega⟩;rw [da, db, qE, if_neg hb, <- da, <- db];split <;> omega
   ·simp only [aB] at hk;have wm : i64.wrap (i - 1) = i - 1 := wz;rw [wm];refine ⟨rfl, ⟨rfl, by omega, by omega, L, rfl, ⟨h1.len, fun i' k' h1' h2' hd => h1.at' i' k' h1' h2' ?_⟩⟩, ?_⟩
    ·omega
    ·dsimp only; omega
  ·simp only [aB] at hc;exact ⟨L0, rfl, rfl, ⟨h0.len, fun i k hi hk _ => h0.at' i k hi hk (.inl (by omega))⟩⟩
end
end Go.Eng
namespace Go.Eng
open Go Go.Proofs Go.Eng.Rows Go.Eng.Trie Go.Eng.Srt
section
variable {rows : List Row}
theorem xT (r : Int) : (aF rows 5 r = 1) ↔ cE rows 5 r = true := by
 unfold aF cE;cases cD rows 5 r with
 | none => simp
 | some p => simp
theorem znw (a : Int) : PCall qa 123 [.int .i64 a] fun x => x = .bool (dB a) := by
 refine zzb _ ?_; unfold zne dB;have hd : ∀ x y : Int, (x == y) = decide (x = y) := fun x y => by by_cases h : x = y <;> simp [h]
 simp only [hd, qax]
theorem zzt (a b : Int) : PCall qa 124 [.int .i64 a, .int .i64 b] fun x => x = .bool (oG a b) := by
 refine zzc _ _ ?_; unfold znf oG;have hd : ∀ x y : Int, (x == y) = decide (x = y) := fun x y => by by_cases h : x = y <;> simp [h]
 simp only [hd];by_cases h9 : a = 9
 ·rw [if_pos (by simp [h9]), if_pos h9]; simp only [qax]
 ·rw [if_neg (by simp [h9]), if_neg h9];by_cases h12 : a = 12 ∨ a = 10
  ·rw [if_pos (by simpa using h12), if_pos h12]
  ·rw [if_neg (by simpa using h12), if_neg h12]
   by_cases h13 : a = 13 ∨ a = 11
   ·rw [if_pos (by simpa using h13), if_pos h13]
   ·rw [if_neg (by simpa using h13), if_neg h13]
def qZ (rows : List Row) (L : List Int) (x : Bool) (j : Nat) : Bool := if x = true then decide ((bF rows L 0 j).conj ≠ 0) else decide ((bF rows L 0 j).conj = 2)
theorem zzu (ht : iQ rows) (L : List Int) (x : Bool) (j : Nat) : qZ rows L x (j + 1) =
 if cG rows (L.getD j 0) = 2 then x else if cG rows (L.getD j 0) = 0 then false else if cG rows (L.getD j 0) = 1 then qZ rows L true j else qZ rows L x j := by
 unfold qZ;rw [ztc];rcases ht.conj (L.getD j 0) with h | h | h | h <;> rw [h]
 ·cases x <;> simp
 ·by_cases h0 : (bF rows L 0 j).conj = 0
  ·cases x <;> simp [h0]
  ·cases x <;> simp [h0]
 ·cases x <;> simp
 ·by_cases h0 : (bF rows L 0 j).conj = 0
  ·cases x <;> simp [h0]
  ·cases x <;> simp [h0]
def oW (rows : List Row) (L : List Int) (j : Nat) : Bool := decide ((bF rows L 0 j).pict = 1)
theorem zzv (L : List Int) (j : Nat) : oW rows L (j + 1) = if cE rows 5 (L.getD j 0) = true then true else if aK rows (L.getD j 0) ≠ 4 then false else oW rows L j := by
 unfold oW;rw [ziu];generalize L.getD j 0 = r;generalize (bF rows L 0 j).pict = p;by_cases h1 : cE rows 5 r = true
 ·rw [if_pos h1, if_pos h1]; rfl
 ·rw [if_neg h1, if_neg h1];by_cases h2 : aK rows r = 4
  ·by_cases h3 : p = 1
   ·simp [h2, h3]
   ·simp [h2, h3]
  ·by_cases h3 : aK rows r = 5
   ·by_cases h4 : p = 1 <;> simp [h3, h4]
   ·simp [h2, h3]
theorem zzw (ht : iQ rows) (L : List Int) (k : Nat) : decide ((bF rows L 0 (k + 1)).pict = 2) = (decide (aK rows (L.getD k 0) = 5) && oW rows L k) := by
 unfold oW;rw [ziu];generalize L.getD k 0 = r;generalize (bF rows L 0 k).pict = p;by_cases h1 : cE rows 5 r = true
 ·have := (ht.pict _ h1).2;rw [if_pos h1]; simp [this]
 ·rw [if_neg h1];by_cases h3 : p = 1
  ·by_cases h5 : aK rows r = 5
   ·simp [h3, h5]
   ·by_cases h4 : aK rows r = 4 <;> simp [h3, h5, h4]
  ·simp [h3]
def tU (rows : List Row) (L : List Int) (x : Int) (j : Nat) : Bool := if x.tmod 2 = 1 then !(bF rows L 0 j).odd else (bF rows L 0 j).odd
theorem zzx (L : List Int) {x : Int} (h0 : 0 <= x) (j : Nat) : tU rows L x (j + 1) = if aK rows (L.getD j 0) = 6 then tU rows L (x + 1) j else decide (x.tmod 2 = 1) := by
 unfold tU;rw [ztd];rw [qag h0, qag (by omega : 0 <= x + 1)];generalize aK rows (L.getD j 0) = b;generalize (bF rows L 0 j).odd = o;by_cases h6 : b = 6
 ·rw [if_pos h6, h6];by_cases hx : x % 2 = 1
  ·rw [if_pos hx, if_neg (by omega)]; simp
  ·rw [if_neg hx, if_pos (by omega)]; simp
 ·rw [if_neg h6];by_cases hx : x % 2 = 1
  ·rw [if_pos hx]; simp [h6, hx]
  ·rw [if_neg hx]; simp [h6, hx]
variable (ht : iQ rows) (n f n2 f2 : Bool) (hl : rows.length < 1000000) (L : List Int) (hr : R32 L) (hL : L.length < 1000000000000)
include ht hl hr hL
theorem zzy (k : Nat) (hk : k + 1 < L.length) : PCall qa 125 [.sl n f (bH rows), .sl n2 f2 (aA L), .int .i64 ((k + 1 : Nat) : Int)] fun x => x = .bool (decide (cG rows (L.getD (k + 1) 0) = 2) && decide ((bF rows L 0 (k + 1)).conj = 2)) := by
 refine zzd _ _ _ _ _ _ _ (fun x j => (-1 <= j /\ j < L.length) /\ decide ((bF rows L 0 (k + 1)).conj = 2) = qZ rows L x (j + 1).toNat) (fun _ j => (j + 1).toNat) ?_;unfold zng;obtain ⟨g1, g2⟩ := kG (l := L) (i := ((k + 1 : Nat) : Int)) (by omega) (by omega);rw [show (((k + 1 : Nat) : Int)).toNat = k + 1 by omega] at g2 ⊢;refine ⟨g1, _, by rw [g2]; rfl, ?_⟩;refine (zno n f hl (jX hr _)).mono ?_;rintro _ rfl;refine ⟨_, rfl, aC (fun hc => ?_) (fun hc => ?_)⟩
 ·simp only [bne_iff_ne, ne_eq] at hc;rw [decide_eq_false hc, qao]
 ·simp only [bne_iff_ne, ne_eq, qh] at hc;rw [hc];have hw : i64.wrap (((k + 1 : Nat) : Int) - 1) = (k : Int) := by rw [wz]; omega
  rw [hw];refine ⟨⟨rfl, ⟨by omega, by omega⟩, by rw [show ((k : Int) + 1).toNat = k + 1 by omega]; rfl⟩, ?_⟩;rintro x j ⟨⟨j0, j1⟩, he⟩;simp only [decide_true, qah];rw [he];refine aC (fun h => ?_) (fun h => ?_)
  ·simp only [aB, ge_iff_le] at h;obtain ⟨g1, g2⟩ := kG (l := L) (i := j) h (by omega);refine ⟨g1, _, by rw [g2]; rfl, ?_⟩;have hs := zzu ht L x j.toNat;rw [show j.toNat + 1 = (j + 1).toNat by omega] at hs;have hwj : i64.wrap (j - 1) = j - 1 := wz;rw [hwj];refine (zno n f hl (jX hr _)).mono ?_;rintro _ rfl;refine ⟨_, rfl, aC (fun h2 => ?_) (fun h2 => aC (fun h0 => ?_) (fun h0 => aC (fun h1 => ?_) (fun h1 => ?_)))⟩
   ·simp only [beq_iff_eq] at h2;rw [hs, if_pos h2]
   ·simp only [beq_iff_eq] at h2 h0;rw [hs, if_neg h2, if_pos h0]
   ·simp only [beq_iff_eq] at h2 h0 h1;rw [if_neg h2, if_neg h0, if_pos h1] at hs;exact ⟨rfl, ⟨⟨by omega, by omega⟩, by rw [hs, show (j - 1 + 1).toNat = j.toNat by omega]⟩, by first | omega | (dsimp only; omega)⟩
   ·simp only [beq_iff_eq] at h2 h0 h1;rw [if_neg h2, if_neg h0, if_neg h1] at hs;exact ⟨rfl, ⟨⟨by omega, by omega⟩, by rw [hs, show (j - 1 + 1).toNat = j.toNat by omega]⟩, by first | omega | (dsimp only; omega)⟩
  ·simp only [aB, ge_iff_le] at h;rw [show (j + 1).toNat = 0 by omega];unfold qZ;cases x <;> rfl
theorem zzz (k : Nat) (hk : k + 1 < L.length) : PCall qa 126 [.sl n f (bH rows), .sl n2 f2 (aA L), .int .i64 ((k + 1 : Nat) : Int)] fun x => x = .bool (cE rows 5 (L.getD (k + 1) 0) && decide ((bF rows L 0 (k + 1)).pict = 2)) := by
 refine zze _ _ _ _ _ _ _ (fun j => (-1 <= j /\ j < L.length) /\ oW rows L k = oW rows L (j + 1).toNat) (fun j => (j + 1).toNat) ?_;unfold znh;rw [zzw ht];obtain ⟨g1, g2⟩ := kG (l := L) (i := ((k + 1 : Nat) : Int)) (by omega) (by omega);rw [show (((k + 1 : Nat) : Int)).toNat = k + 1 by omega] at g2 ⊢;refine ⟨g1, _, by rw [g2]; rfl, ?_⟩;refine (nH n f 5 _ hl (jX hr _)).mono ?_;rintro _ rfl;refine ⟨_, rfl, aC (fun hc => ?_) (fun hc => ?_)⟩
 ·simp only [bne_iff_ne, ne_eq, xT] at hc;rw [Bool.eq_false_iff.2 hc, qao]
 simp only [bne_iff_ne, ne_eq, qh, xT] at hc;rw [hc];have hw : i64.wrap (((k + 1 : Nat) : Int) - 1) = (k : Int) := by rw [wz]; omega
 have hw2 : i64.wrap (((k + 1 : Nat) : Int) - 2) = (k : Int) - 1 := by rw [wz]; omega
 rw [hw, hw2];obtain ⟨k1, k2⟩ := kG (l := L) (i := (k : Int)) (by omega) (by omega);refine ⟨k1, _, by rw [k2]; rfl, ?_⟩;rw [show ((k : Int)).toNat = k by omega];refine (oU n f hl (jX hr _)).mono ?_;rintro _ rfl;refine ⟨_, rfl, aC (fun h5 => ?_) (fun h5 => ?_)⟩
 ·simp only [bne_iff_ne, ne_eq] at h5;rw [decide_eq_false h5, qao, qau]
 simp only [bne_iff_ne, ne_eq, qh] at h5;rw [h5];simp only [decide_true, qah];refine ⟨⟨rfl, ⟨by omega, by omega⟩, by rw [show ((k : Int) - 1 + 1).toNat = k by omega]⟩, ?_⟩;rintro j ⟨⟨j0, j1⟩, he⟩;rw [he];refine aC (fun h => ?_) (fun h => ?_)
 ·simp only [aB, ge_iff_le] at h;obtain ⟨g1, g2⟩ := kG (l := L) (i := j) h (by omega);refine ⟨g1, _, by rw [g2]; rfl, ?_⟩;have hs := zzv (rows := rows) L j.toNat;rw [show j.toNat + 1 = (j + 1).toNat by omega] at hs;have hwj : i64.wrap (j - 1) = j - 1 := wz;rw [hwj];refine (nH n f 5 _ hl (jX hr _)).mono ?_;rintro _ rfl;refine ⟨_, rfl, aC (fun h2 => ?_) (fun h2 => ?_)⟩
  ·simp only [beq_iff_eq, xT] at h2;rw [hs, if_pos h2]
  ·simp only [beq_iff_eq, xT] at h2;refine ⟨g1, _, by rw [g2]; rfl, ?_⟩;refine (oU n f hl (jX hr _)).mono ?_;rintro _ rfl;refine ⟨_, rfl, aC (fun h4 => ?_) (fun h4 => ?_)⟩
   ·simp only [bne_iff_ne, ne_eq] at h4;rw [hs, if_neg h2, if_pos h4]
   ·simp only [bne_iff_ne, ne_eq, qh] at h4;rw [if_neg h2, if_neg (fun h => h h4)] at hs;exact ⟨rfl, ⟨⟨by omega, by omega⟩, by rw [hs, show (j - 1 + 1).toNat = j.toNat by omega]⟩, by first | omega | (dsimp only; omega)⟩
 ·simp only [aB, ge_iff_le] at h;rw [show (j + 1).toNat = 0 by omega]; rfl
theorem zz0 (k : Nat) (hk : k + 1 < L.length) : PCall qa 127 [.sl n f (bH rows), .sl n2 f2 (aA L), .int .i64 ((k + 1 : Nat) : Int)] fun x => x = .bool (decide (aK rows (L.getD (k + 1) 0) = 6) && (bF rows L 0 (k + 1)).odd) := by
 have _ht := ht;refine zzf _ _ _ _ _ _ _ (fun x j => (-1 <= j /\ j < L.length) /\ (0 <= x /\ x + j <= k) /\ (bF rows L 0 (k + 1)).odd = tU rows L x (j + 1).toNat) (fun _ j => (j + 1).toNat) ?_;unfold zni;obtain ⟨g1, g2⟩ := kG (l := L) (i := ((k + 1 : Nat) : Int)) (by omega) (by omega);rw [show (((k + 1 : Nat) : Int)).toNat = k + 1 by omega] at g2 ⊢;refine ⟨g1, _, by rw [g2]; rfl, ?_⟩;refine (oU n f hl (jX hr _)).mono ?_;rintro _ rfl;refine ⟨_, rfl, aC (fun hc => ?_) (fun hc => ?_)⟩
 ·simp only [bne_iff_ne, ne_eq] at hc;rw [decide_eq_false hc, qao]
 simp only [bne_iff_ne, ne_eq, qh] at hc;rw [hc];have hw : i64.wrap (((k + 1 : Nat) : Int) - 1) = (k : Int) := by rw [wz]; omega
 rw [hw];refine ⟨⟨rfl, ⟨by omega, by omega⟩, ⟨qp _, by omega⟩, by rw [show ((k : Int) + 1).toNat = k + 1 by omega]; rfl⟩, ?_⟩;rintro x j ⟨⟨j0, j1⟩, ⟨x0, x1⟩, he⟩;simp only [decide_true, qah];rw [he];have hx : ∀ y : Int, (y.tmod 2 == 1) = decide (y.tmod 2 = 1) := fun y => by by_cases h : y.tmod 2 = 1 <;> simp [h]
 refine aC (fun h => ?_) (fun h => ?_)
 ·simp only [aB, ge_iff_le] at h;obtain ⟨g1, g2⟩ := kG (l := L) (i := j) h (by omega);refine ⟨g1, _, by rw [g2]; rfl, ?_⟩;have hs := zzx (rows := rows) L x0 j.toNat;rw [show j.toNat + 1 = (j + 1).toNat by omega] at hs;have hwj : i64.wrap (j - 1) = j - 1 := wz;have hwx : i64.wrap (x + 1) = x + 1 := wz;rw [hwj, hwx];refine (oU n f hl (jX hr _)).mono ?_;rintro _ rfl;refine ⟨_, rfl, aC (fun h6 => ?_) (fun h6 => ?_)⟩
  ·simp only [beq_iff_eq] at h6;rw [if_pos h6] at hs;exact ⟨rfl, ⟨⟨by omega, by omega⟩, ⟨by omega, by omega⟩, by rw [hs, show (j - 1 + 1).toNat = j.toNat by omega]⟩, by first | omega | (dsimp only; omega)⟩
  ·simp only [beq_iff_eq] at h6;rw [hs, if_neg h6, hx]
 ·simp only [aB, ge_iff_le] at h;rw [show (j + 1).toNat = 0 by omega, hx];unfold tU;show _ = PV.bool (if x.tmod 2 = 1 then !false else false);by_cases h1 : x.tmod 2 = 1 <;> simp [h1]
theorem zz1 (k : Int) (k0 : 0 <= k) (k1 : k < L.length) : PCall qa 95 [.sl n f (bH rows), .sl n2 f2 (aA L), .int .i64 k] fun x => x = .bool (fU rows L k.toNat) := by
 refine zzg _ _ _ _ _ _ _ ?_; unfold znj;refine aC (fun h0 => ?_) (fun h0 => ?_)
 ·simp only [beq_iff_eq] at h0;rw [h0]; rfl
 simp only [beq_iff_eq] at h0;obtain ⟨j, rfl⟩ : ∃ j : Nat, k = ((j + 1 : Nat) : Int) := ⟨k.toNat - 1, by omega⟩;have hw : i64.wrap (((j + 1 : Nat) : Int) - 1) = (j : Int) := by rw [wz]; omega
 rw [hw, show (((j + 1 : Nat) : Int)).toNat = j + 1 by omega, ztb ht];obtain ⟨g1, g2⟩ := kG (l := L) (i := (j : Int)) (by omega) (by omega);obtain ⟨k1, k2⟩ := kG (l := L) (i := ((j + 1 : Nat) : Int)) (by omega) (by omega);rw [show (((j + 1 : Nat) : Int)).toNat = j + 1 by omega] at k2;rw [show ((j : Int)).toNat = j by omega] at g2 ⊢;refine ⟨g1, _, by rw [g2]; rfl, k1, _, by rw [k2]; rfl, ?_⟩;have c1 := zzy ht n f n2 f2 hl L hr hL j (by omega);have c2 := zzz ht n f n2 f2 hl L hr hL j (by omega);have c3 := zz0 ht n f n2 f2 hl L hr hL j (by omega);refine (oU n f hl (jX hr _)).mono ?_;rintro _ rfl;refine ⟨_, rfl, ?_⟩;refine (oU n f hl (jX hr _)).mono ?_;rintro _ rfl;refine ⟨_, rfl, ?_⟩;generalize aK rows (L.getD j 0) = a at *;generalize hb : aK rows (L.getD (j + 1) 0) = b at *;refine aC (fun h1 => ?_) (fun h1 => ?_)
 ·simp only [qe, beq_iff_eq] at h1;rw [if_pos h1]
 simp only [qe, beq_iff_eq] at h1;rw [if_neg h1];refine (znw a).mono ?_;rintro _ rfl;refine ⟨_, rfl, aC (fun h2 => ?_) (fun h2 => ?_)⟩
 ·rw [if_pos (.inl h2)]
 refine (znw b).mono ?_;rintro _ rfl;refine ⟨_, rfl, aC (fun h3 => ?_) (fun h3 => ?_)⟩
 ·rw [if_pos (.inr h3)]
 rw [if_neg (fun h => h.elim h2 h3)];refine (zzt a b).mono ?_;rintro _ rfl;refine ⟨_, rfl, aC (fun h4 => ?_) (fun h4 => ?_)⟩
 ·simp only [qj, beq_iff_eq] at h4;rw [if_pos (by rcases h4 with (((h | h) | h) | h) | h; exact .inl h; exact .inr (.inl h); exact .inr (.inr (.inl h)); exact .inr (.inr (.inr (.inl h))); exact .inr (.inr (.inr (.inr h))))]
 simp only [qj, beq_iff_eq] at h4;rw [if_neg (by rintro (h | h | h | h | h); exact h4 (.inl (.inl (.inl (.inl h)))); exact h4 (.inl (.inl (.inl (.inr h)))); exact h4 (.inl (.inl (.inr h))); exact h4 (.inl (.inr h)); exact h4 (.inr h))];refine c1.mono ?_;rintro _ rfl;refine ⟨_, rfl, ?_⟩;generalize (decide (cG rows (L.getD (j + 1) 0) = 2) && decide ((bF rows L 0 (j + 1)).conj = 2)) = x1;cases x1 with
 | true => exact bR (by simp) rfl
 | false =>
   refine bW rfl ?_;refine c2.mono ?_;rintro _ rfl;refine ⟨_, rfl, ?_⟩;generalize (cE rows 5 (L.getD (j + 1) 0) && decide ((bF rows L 0 (j + 1)).pict = 2)) = x2;cases x2 with
   | true => exact bR (by simp) rfl
   | false =>
     refine bW rfl ?_;refine c3.mono ?_;rintro _ rfl;exact ⟨_, rfl, rfl⟩
theorem zz2 (k : Int) (k0 : 0 <= k) (k1 : k < L.length) : PCall qa 72 [.sl n f (bH rows), .sl n2 f2 (aA L), .int .i64 k] fun x => x = .int .i64 (cH rows L k.toNat : Nat) := by
 refine zzh _ _ _ _ _ _ _ (fun i => (k + 1 <= i /\ i <= L.length) /\ cH rows L k.toNat = gP rows L (L.length - i.toNat) i.toNat) (fun i => L.length - i.toNat) ?_;unfold znk;have hl8 : ((aA L).length : Int) = L.length := by rw [bX]
 have hw : i64.wrap (k + 1) = k + 1 := wz;rw [hl8, hw];refine ⟨⟨rfl, ⟨by omega, by omega⟩, by rw [show (k + 1).toNat = k.toNat + 1 by omega]; rfl⟩, ?_⟩;rintro i ⟨⟨i0, i1⟩, hn⟩;refine aC (fun hc => ?_) (fun hc => ?_)
 ·simp only [aB] at hc;have hi : i.toNat < L.length := by omega
  have hwi : i64.wrap (i + 1) = i + 1 := wz;rw [hwi];refine (zz1 ht n f n2 f2 hl L hr hL i (by omega) hc).mono ?_;rintro _ rfl;refine ⟨_, rfl, aC (fun hb => ?_) (fun hb => ?_)⟩
  ·rw [hn, znq hi hb, show ((i.toNat : Nat) : Int) = i by omega]
  ·refine ⟨rfl, ⟨⟨by omega, by omega⟩, ?_⟩, by first | omega | (dsimp only; omega)⟩
   rw [hn, znp hi (by simpa using hb), show (i + 1).toNat = i.toNat + 1 by omega]
 ·simp only [aB] at hc;rw [hn, show L.length - i.toNat = 0 by omega];show _ = PV.int .i64 ((i.toNat : Nat) : Int);rw [show ((i.toNat : Nat) : Int) = (L.length : Int) by omega]
theorem zz3 (hL2 : L.length < 100000000) : PCall qa 46 [.sl n f (bH rows), .sl n2 f2 (aA L)] fun x => ∃ (n f : Bool) (Q : List (Bool × Bool × List Int)), x = .sl n f (Q.map clT) /\ Q.map (fun q => q.2.2) = iR rows L 0 := by
 refine zzi _ _ _ _ _ _
  (fun i n s => (0 <= i /\ i <= L.length) /\ ∃ Q : List (Bool × Bool × List Int), s = Q.map clT /\ iR rows L 0 = Q.map (fun q => q.2.2) ++ iR rows L i.toNat /\ Q.length <= i.toNat) (fun i _ _ => L.length - i.toNat) ?_
 unfold znl;have hl8 : ((aA L).length : Int) = L.length := by rw [bX]
 rw [hl8];refine ⟨⟨rfl, ⟨qp _, by omega⟩, [], rfl, rfl, qg _⟩, ?_⟩;rintro i n3 _ ⟨⟨i0, i1⟩, Q, rfl, hcl, hql⟩;refine aC (fun hc => ?_) (fun hc => ?_)
 ·simp only [aB] at hc;have hi : i.toNat < L.length := by omega
  obtain ⟨x1, x2, x3⟩ := qD (rows := rows) hi;refine (zz2 ht n f n2 f2 hl L hr hL i i0 hc).mono ?_;rintro _ rfl;refine ⟨_, rfl, ⟨zm2 i0 (by omega) (by rw [bX]; omega), eV _⟩, ?_⟩;rw [show (((cH rows L i.toNat : Nat) : Int)).toNat = cH rows L i.toNat by omega, zm3];refine ⟨⟨kB (enc := clT) xS [(n2, _, fT L i.toNat (cH rows L i.toNat))], by rw [qf]; omega⟩, rfl, ⟨⟨by omega, by omega⟩, Q ++ [(n2, _, fT L i.toNat (cH rows L i.toNat))], by rw [qu]; rfl, ?_, ?_⟩, ?_⟩
  ·rw [show (((cH rows L i.toNat : Nat) : Int)).toNat = cH rows L i.toNat by omega, hcl, zit hi, qu, qab]; rfl
  ·rw [show (((cH rows L i.toNat : Nat) : Int)).toNat = cH rows L i.toNat by omega, qb, qm]; omega
  ·dsimp only; omega
 ·simp only [aB] at hc;rw [zis (i := i.toNat) (by omega), qq] at hcl;exact ⟨n3, false, Q, rfl, hcl.symm⟩
end
end Go.Eng
namespace Go.Eng
open Go Go.Proofs Go.Eng.Rows Go.Eng.Srt
def BdS (S : List DStep) (n t : Nat) : Prop := S.length <= n /\ ∀ s ∈ S, 0 <= s.n /\ s.n <= n /\ s.text.length <= t
theorem zeo : BdS [] 0 0 := ⟨qg _, fun s hs => by cases hs⟩
theorem znx {S : List DStep} {n t M : Nat} (h : BdS S n t) {k : Int} {c : List Int} (hc : c.length <= M) : BdS (eK S (k, c)) (n + 1) (t + M) := by
 obtain ⟨h1, h2⟩ := h;rcases mB S with rfl | ⟨S, s, rfl⟩
 ·rw [zte];refine ⟨by simp, fun s hs => ?_⟩;rw [List.mem_singleton.1 hs];exact ⟨by show (0 : Int) <= 1; omega, by dsimp only; omega, by dsimp only; omega⟩
 ·rw [zbd];rw [qb, qm] at h1;split
  ·refine ⟨by rw [qb, qm]; omega, fun x hx => ?_⟩;rcases List.mem_append.1 hx with hx | hx
   ·have := h2 x (List.mem_append_left _ hx); exact ⟨this.1, by omega, by omega⟩
   ·rw [List.mem_singleton.1 hx];have := h2 s (by simp);refine ⟨by dsimp only; omega, by dsimp only; omega, ?_⟩;show (s.text ++ c).length <= _;rw [qb]; omega
  ·refine ⟨by rw [qb, qb, qm, qm]; omega, fun x hx => ?_⟩;rcases List.mem_append.1 hx with hx | hx
   ·have := h2 x hx; exact ⟨this.1, by omega, by omega⟩
   ·rw [List.mem_singleton.1 hx];exact ⟨by show (0 : Int) <= 1; omega, by dsimp only; omega, by dsimp only; omega⟩
def ofA (f : Func) : Code := aL (aL (cM f))
def xU (f : Func) : Code := fA (fA (aT (aL (aL (aL (aL (ofA f)))))))
def ofY (f : Func) : Code := fA (fA (aL (xU f)))
def ofT (f : Func) : Code := m7 (aL (ofY f))
def ofE (f : Func) : Code := qH (aL (ofY f))
def cJ (v : Value) (i k : Int) : Env := [(8, .box 0 0), (9, .pv (.raw v)), (10, .pv (.int .i64 i)), (11, .pv (.int .i64 k))]
def eT1 (v : Value) (i k : Int) (na fa : Bool) (xa : LL) (n f : Bool) (es : LL) : Env := (108, .pv (.sl n f es)) :: (107, .pv (.ptr (xa.getD i.toNat []))) :: (106, .pv (.int .i64 i)) :: (105, .pv (.sl na fa xa)) :: (104, .box 0 0) :: (103, .box 0 0) :: (102, .box 0 0) :: (101, .pv (.raw v)) :: cJ v i k
def eU1 (v : Value) (i k : Int) (na fa : Bool) (xa : LL) (n f : Bool) (es : LL) : Env := (163, .pv (.sl n f es)) :: (162, .pv (.ptr (xa.getD i.toNat []))) :: (161, .pv (.int .i64 i)) :: (160, .pv (.sl na fa xa)) :: (159, .box 0 0) :: (158, .box 0 0) :: (157, .box 0 0) :: (156, .pv (.raw v)) :: cJ v i k
def eV1 (v : Value) (i k : Int) (nb fb : Bool) (xb : LL) (n f : Bool) (es : LL) : Env := (63, .pv (.sl n f es)) :: (62, .pv (.ptr (xb.getD k.toNat []))) :: (61, .pv (.int .i64 k)) :: (60, .pv (.sl nb fb xb)) :: (59, .box 0 1) :: (58, .box 0 0) :: (57, .box 0 0) :: (56, .pv (.raw v)) :: cJ v i k
def bT (na fa : Bool) (xa : LL) (nb fb : Bool) (xb : LL) (nl : Bool) (L : LL) : Hp := [.box [.pv (.sl na fa xa), .pv (.sl nb fb xb), .own 1], .sl (3, 1) true nl L]
def mI : List Nat := [0, 1, 2, 6, 7, 8, 9, 10, 11, 37, 55, 67, 114]
def zz4 : Nat -> Option HSpec := fun zz_ => match zz_ with | 35 => some ⟨Bool × List (List PV), fun _ hs t => (.tup [], match hs with | [.box (a :: b :: _)] => [.box [a, b, .own 1], .sl (3, 1) true t.1 t.2] | h => h), none⟩ | _ => none
section
variable {na fa nb fb nl : Bool} {xa xb L : LL} {v : Value} {i k : Int}
theorem pO0 (ts : List PV) (n f n2 f2 : Bool) (es ss : LL) (Q : Qt) : cC qa (fun _ => none) 0 168 mI (fun _ => none) (aT (cM Tryz.f9)) [(0, .pv (.ptr ts)), (1, .pv (.sl n f es)), (2, .pv (.sl n2 f2 ss))] [] Q =
 Q .normal [(0, .pv (.ptr ts)), (1, .pv (.sl n f es)), (2, .pv (.sl n2 f2 ss)), (6, .pv (.sl true true [])), (7, .pv (.int .i64 0))] [] := by kernel_rfl
theorem pO1 (ts : List PV) (n f n2 f2 : Bool) (es ss : LL) (Q : Qt) : cC qa (fun _ => none) 0 168 mI (fun _ => none) (aT (aL (cM Tryz.f9))) [(0, .pv (.ptr ts)), (1, .pv (.sl n f es)), (2, .pv (.sl n2 f2 ss)), (6, .pv (.sl true true [])), (7, .pv (.int .i64 0))] [] Q =
 PCall qa 34 [.ptr ts, .sl n f es] fun v => ∃ n1 f1 es1, v = .sl n1 f1 es1 /\ PCall qa 33 [.ptr ts, .sl n1 f1 es1] fun v1 => ∃ n3 f3 es2, v1 = .sl n3 f3 es2 /\ PCall qa 34 [.ptr ts, .sl n2 f2 ss] fun v2 => ∃ n4 f4 es3, v2 = .sl n4 f4 es3 /\
  PCall qa 33 [.ptr ts, .sl n4 f4 es3] fun v3 => ∃ n5 f5 es4, v3 = .sl n5 f5 es4 /\
   Q .normal [(0, .pv (.ptr ts)), (1, .pv (.sl n f es)), (2, .pv (.sl n2 f2 ss)), (6, .pv (.sl true true [])), (7, .pv (.int .i64 0)), (8, .box 0 0)] [.box [.pv (.sl n3 f3 es2), .pv (.sl n5 f5 es4), .pv (.sl true true [])]] := by kernel_rfl
theorem pO2 (Q : Qt) : cC qa (fun _ => none) 0 168 mI (fun _ => none) (aT (ofA Tryz.f9)) [(8, .box 0 0), (6, .pv (.sl true true [])), (7, .pv (.int .i64 0))] [.box [.pv (.sl na fa xa), .pv (.sl nb fb xb), .pv (.sl true true [])]] Q =
 (i64.wrap ((xb.length : Int) + 1) ≠ 0 /\ if decide (i64.wrap ((xa.length : Int) + 1) > i64.wrap (qaw 1048576 (i64.wrap ((xb.length : Int) + 1)))) = true then
  Q .ret [(6, .pv (.sl true true [])), (7, .pv (.int .i64 7)), (8, .box 0 0), (37, .pv (.bool (decide (i64.wrap ((xa.length : Int) + 1) > i64.wrap (qaw 1048576 (i64.wrap ((xb.length : Int) + 1)))))))] [.box [.pv (.sl na fa xa), .pv (.sl nb fb xb), .pv (.sl true true [])]]
 else Q .normal [(6, .pv (.sl true true [])), (7, .pv (.int .i64 0)), (8, .box 0 0), (37, .pv (.bool (decide (i64.wrap ((xa.length : Int) + 1) > i64.wrap (qaw 1048576 (i64.wrap ((xb.length : Int) + 1)))))))] [.box [.pv (.sl na fa xa), .pv (.sl nb fb xb), .pv (.sl true true [])]]) := by kernel_rfl
theorem pO4 (Q : Qt) : cC qa zz4 0 168 mI (fun _ => none) (aT (aL (ofA Tryz.f9))) [(8, .box 0 0)] [.box [.pv (.sl na fa xa), .pv (.sl nb fb xb), .pv (.sl true true [])]] Q =
 ACall qa 35 [.box 0 0] [.box [.pv (.sl na fa xa), .pv (.sl nb fb xb), .pv (.sl true true [])]] fun r h' => ∃ t : Bool × List (List PV), (r = .tup [] /\ h' = [.box [.pv (.sl na fa xa), .pv (.sl nb fb xb), .own 1], .sl (3, 1) true t.1 t.2]) /\ (True /\ True) /\
  Q .normal [(8, .box 0 0)] (bT na fa xa nb fb xb t.1 t.2) := by kernel_rfl
theorem pO5 (Q : Qt) : cC qa (fun _ => none) 0 168 mI (fun _ => none) (aT (aL (aL (ofA Tryz.f9)))) [(8, .box 0 0)] (bT na fa xa nb fb xb nl L) Q = Q .normal [(8, .box 0 0), (9, .pv (.sl true true []))] (bT na fa xa nb fb xb nl L) := by kernel_rfl
theorem pO6 (Q : Qt) : cC qa (fun _ => none) 0 168 mI (fun _ => none) (aT (aL (aL (aL (ofA Tryz.f9))))) [(8, .box 0 0), (9, .pv (.sl true true []))] (bT na fa xa nb fb xb nl L) Q =
 Q .normal [(8, .box 0 0), (9, .pv (.sl true true [])), (10, .pv (.int .i64 0)), (11, .pv (.int .i64 0))] (bT na fa xa nb fb xb nl L) := by kernel_rfl
theorem pO7 (Q : Qt) : cC qa (fun _ => none) 0 168 mI (fun _ => none) (aT (xU Tryz.f9)) (cJ v i k) (bT na fa xa nb fb xb nl L) Q =
 if decide (i < (xa.length : Int)) = true then Q .normal (cJ v i k ++ [(55, .pv (.bool true))]) (bT na fa xa nb fb xb nl L)
 else if decide (k < (xb.length : Int)) = true then Q .normal (cJ v i k ++ [(55, .pv (.bool (decide (k < (xb.length : Int)))))]) (bT na fa xa nb fb xb nl L)
 else Q (.exit 0) (cJ v i k ++ [(55, .pv (.bool (decide (k < (xb.length : Int)))))]) (bT na fa xa nb fb xb nl L) := by kernel_rfl
theorem zz5 (Q : Qt) : cC qa (fun _ => none) 0 168 mI (fun _ => none) (aT (ofY Tryz.f9)) (cJ v i k) (bT na fa xa nb fb xb nl L) Q =
 if decide (i < (xa.length : Int)) = true then
  if decide (k < (xb.length : Int)) = true then aD xa i 1 /\ ∃ n f es, (xa.getD i.toNat []).head? = some (.sl n f es) /\ aD xb k 1 /\ ∃ n1 f1 es1, (xb.getD k.toNat []).head? = some (.sl n1 f1 es1) /\ PCall qa 36 [.sl n f es, .sl n1 f1 es1] fun v1 => ∃ b, v1 = .bool b /\
   Q .normal (cJ v i k ++ [(67, .pv (.bool b))]) (bT na fa xa nb fb xb nl L)
  else Q .normal (cJ v i k ++ [(67, .pv (.bool false))]) (bT na fa xa nb fb xb nl L)
 else Q .normal (cJ v i k ++ [(67, .pv (.bool false))]) (bT na fa xa nb fb xb nl L) := by kernel_rfl
theorem zz6 (Q : Qt) : cC qa (fun _ => none) 0 168 mI (fun _ => none) (aT (ofE Tryz.f9)) (cJ v i k) (bT na fa xa nb fb xb nl L) Q =
 if (k == (xb.length : Int)) = true then Q .normal (cJ v i k ++ [(114, .pv (.bool true))]) (bT na fa xa nb fb xb nl L)
 else if decide (i < (xa.length : Int)) = true then PCall qa 38 [.ptr [.sl na fa xa, .sl nb fb xb, .sl nl false L], .int .i64 (i64.wrap (i + 1)), .int .i64 k] fun v1 => ∃ n, v1 = .int .i64 n /\ true = true /\ aD L n 1 /\ ∃ n1, (qc 0 (L.getD n.toNat [])).head? = some (.int .i64 n1) /\
  PCall qa 38 [.ptr [.sl na fa xa, .sl nb fb xb, .sl nl false L], .int .i64 i, .int .i64 (i64.wrap (k + 1))] fun v2 => ∃ n2, v2 = .int .i64 n2 /\ true = true /\ aD L n2 1 /\ ∃ n3, (qc 0 (L.getD n2.toNat [])).head? = some (.int .i64 n3) /\
   Q .normal (cJ v i k ++ [(114, .pv (.bool (decide (n1 >= n3))))]) (bT na fa xa nb fb xb nl L)
 else Q .normal (cJ v i k ++ [(114, .pv (.bool false))]) (bT na fa xa nb fb xb nl L) := by kernel_rfl
def iZ (f : Func) : Array Oper := bD (aT (ofT f))
def oT2 (f : Func) : Array Oper := bD (aL (ofT f))
def i6 (f : Func) : Array Oper := bD (aT (m7 (aL (ofE f))))
def oU2 (f : Func) : Array Oper := bD (aL (m7 (aL (ofE f))))
def i7 (f : Func) : Array Oper := bD (aT (qH (aL (ofE f))))
def oV2 (f : Func) : Array Oper := bD (aL (qH (aL (ofE f))))
def ofR (f : Func) : Array Oper := bD (aT (aL (aL (aL (aL (aL (ofA f)))))))
theorem zz7 (K : Env -> Hp -> Prop) : aM qa (fun _ => none) 168 (iZ Tryz.f9).toList (((iZ Tryz.f9).toList.drop 0).take 8) (cJ v i k) (bT na fa xa nb fb xb nl L) K =
 (aD xa i 1 /\ ∃ n f es, (xa.getD i.toNat []).head? = some (.sl n f es) /\ K (eT1 v i k na fa xa n f es) (bT na fa xa nb fb xb nl L)) := by kernel_rfl
theorem zz8 (n f : Bool) (es : LL) (v' : Value) (K : Env -> Hp -> Prop) : aM qa (fun _ => none) 168 (iZ Tryz.f9).toList (((iZ Tryz.f9).toList.drop 9).take 1) (set (eT1 v i k na fa xa n f es) 109 (.pv (.raw v'))) (bT na fa xa nb fb xb nl L) K =
 K ((9, .pv (.raw v')) :: set (eT1 v i k na fa xa n f es) 109 (.pv (.raw v'))) (bT na fa xa nb fb xb nl L) := by kernel_rfl
theorem pT2 (K : Env -> Hp -> Prop) : aM qa (fun _ => none) 168 (oT2 Tryz.f9).toList (oT2 Tryz.f9).toList (cJ v i k) (bT na fa xa nb fb xb nl L) K =
 K ((11, .pv (.int .i64 (i64.wrap (k + 1)))) :: (10, .pv (.int .i64 (i64.wrap (i + 1)))) :: (113, .pv (.int .i64 (i64.wrap (k + 1)))) :: (112, .pv (.int .i64 k)) :: (111, .pv (.int .i64 (i64.wrap (i + 1)))) :: (110, .pv (.int .i64 i)) :: cJ v i k) (bT na fa xa nb fb xb nl L) := by kernel_rfl
theorem zz9 (K : Env -> Hp -> Prop) : aM qa (fun _ => none) 168 (i6 Tryz.f9).toList (((i6 Tryz.f9).toList.drop 0).take 8) (cJ v i k) (bT na fa xa nb fb xb nl L) K =
 (aD xa i 1 /\ ∃ n f es, (xa.getD i.toNat []).head? = some (.sl n f es) /\ K (eU1 v i k na fa xa n f es) (bT na fa xa nb fb xb nl L)) := by kernel_rfl
theorem z0a (n f : Bool) (es : LL) (v' : Value) (K : Env -> Hp -> Prop) : aM qa (fun _ => none) 168 (i6 Tryz.f9).toList (((i6 Tryz.f9).toList.drop 9).take 1) (set (eU1 v i k na fa xa n f es) 164 (.pv (.raw v'))) (bT na fa xa nb fb xb nl L) K =
 K ((9, .pv (.raw v')) :: set (eU1 v i k na fa xa n f es) 164 (.pv (.raw v'))) (bT na fa xa nb fb xb nl L) := by kernel_rfl
theorem pU2 (K : Env -> Hp -> Prop) : aM qa (fun _ => none) 168 (oU2 Tryz.f9).toList (oU2 Tryz.f9).toList (cJ v i k) (bT na fa xa nb fb xb nl L) K =
 K ((10, .pv (.int .i64 (i64.wrap (i + 1)))) :: (166, .pv (.int .i64 (i64.wrap (i + 1)))) :: (165, .pv (.int .i64 i)) :: cJ v i k) (bT na fa xa nb fb xb nl L) := by kernel_rfl
theorem z0b (K : Env -> Hp -> Prop) : aM qa (fun _ => none) 168 (i7 Tryz.f9).toList (((i7 Tryz.f9).toList.drop 0).take 8) (cJ v i k) (bT na fa xa nb fb xb nl L) K =
 (aD xb k 1 /\ ∃ n f es, (xb.getD k.toNat []).head? = some (.sl n f es) /\ K (eV1 v i k nb fb xb n f es) (bT na fa xa nb fb xb nl L)) := by kernel_rfl
theorem z0c (n f : Bool) (es : LL) (v' : Value) (K : Env -> Hp -> Prop) : aM qa (fun _ => none) 168 (i7 Tryz.f9).toList (((i7 Tryz.f9).toList.drop 9).take 1) (set (eV1 v i k nb fb xb n f es) 64 (.pv (.raw v'))) (bT na fa xa nb fb xb nl L) K =
 K ((9, .pv (.raw v')) :: set (eV1 v i k nb fb xb n f es) 64 (.pv (.raw v'))) (bT na fa xa nb fb xb nl L) := by kernel_rfl
theorem pV2 (K : Env -> Hp -> Prop) : aM qa (fun _ => none) 168 (oV2 Tryz.f9).toList (oV2 Tryz.f9).toList (cJ v i k) (bT na fa xa nb fb xb nl L) K =
 K ((11, .pv (.int .i64 (i64.wrap (k + 1)))) :: (66, .pv (.int .i64 (i64.wrap (k + 1)))) :: (65, .pv (.int .i64 k)) :: cJ v i k) (bT na fa xa nb fb xb nl L) := by kernel_rfl
theorem z0d (K : Env -> Hp -> Prop) : aM qa (fun _ => none) 168 (ofR Tryz.f9).toList (ofR Tryz.f9).toList (cJ v i k) (bT na fa xa nb fb xb nl L) K =
 K ((7, .pv (.int .i64 0)) :: (6, .pv (.raw v)) :: (167, .pv (.raw v)) :: cJ v i k) (bT na fa xa nb fb xb nl L) := by kernel_rfl
end
abbrev zny (f : Func) : Code := .seq (.region 14 (i6 f) false) (.region 15 (oU2 f) false)
abbrev znz (f : Func) : Code := .seq (.region 8 (i7 f) false) (.region 9 (oV2 f) false)
abbrev zn0 (f : Func) : Code := .seq (aT (ofE f)) (.cond (.tmp 114) (zny f) (znz f))
abbrev zep (f : Func) : Code := .block 1 (.block 2 (.seq (aT (ofY f)) (.cond (.tmp 67) (.seq (.region 11 (iZ f) false) (.region 12 (oT2 f) false)) (zn0 f))))
theorem z0e : Tryz.f9.body = some (.seq (aT (cM Tryz.f9)) (.seq (aT (aL (cM Tryz.f9))) (.seq (aT (ofA Tryz.f9)) (.seq (aT (aL (ofA Tryz.f9))) (.seq (aT (aL (aL (ofA Tryz.f9)))) (.seq (aT (aL (aL (aL (ofA Tryz.f9))))) (.seq (.block 0 (.loop (.seq (aT (xU Tryz.f9)) (zep Tryz.f9)))) (.seq (.region 16 (ofR Tryz.f9) false) .ret)))))))) := by kernel_rfl
theorem zeq : bU (iZ Tryz.f9).toList = true /\ bU (oT2 Tryz.f9).toList = true /\ bU (i6 Tryz.f9).toList = true /\ bU (oU2 Tryz.f9).toList = true /\ bU (i7 Tryz.f9).toList = true /\ bU (oV2 Tryz.f9).toList = true /\ bU (ofR Tryz.f9).toList = true /\
 (iZ Tryz.f9).size = 10 /\ (i6 Tryz.f9).size = 10 /\ (i7 Tryz.f9).size = 10 /\ Tryz.f9.results.toList = [.tmp 6, .tmp 7] := by and_intros <;> kernel_rfl
theorem z0f : (iZ Tryz.f9)[8]? = some ((iZ Tryz.f9).toList.getD 8 default) /\ ((iZ Tryz.f9).toList.getD 8 default).guard = none /\ ((iZ Tryz.f9).toList.getD 8 default).dst = some 109 /\
 ((iZ Tryz.f9).toList.getD 8 default).op = .call { callee := .value (.func 37), args := #[.tmp 101, .const (.int .i64 0), .tmp 108], argTypes := #[26, 3, 22] } := by and_intros <;> kernel_rfl
theorem z0g : (i6 Tryz.f9)[8]? = some ((i6 Tryz.f9).toList.getD 8 default) /\ ((i6 Tryz.f9).toList.getD 8 default).guard = none /\ ((i6 Tryz.f9).toList.getD 8 default).dst = some 164 /\
 ((i6 Tryz.f9).toList.getD 8 default).op = .call { callee := .value (.func 37), args := #[.tmp 156, .const (.int .i64 1), .tmp 163], argTypes := #[26, 3, 22] } := by and_intros <;> kernel_rfl
theorem z0h : (i7 Tryz.f9)[8]? = some ((i7 Tryz.f9).toList.getD 8 default) /\ ((i7 Tryz.f9).toList.getD 8 default).guard = none /\ ((i7 Tryz.f9).toList.getD 8 default).dst = some 64 /\
 ((i7 Tryz.f9).toList.getD 8 default).op = .call { callee := .value (.func 37), args := #[.tmp 56, .const (.int .i64 2), .tmp 63], argTypes := #[26, 3, 22] } := by and_intros <;> kernel_rfl
theorem z0i {rows : List Row} {L : List Int} : ∀ k i, ∀ c ∈ iD rows L k i, c ≠ [] /\ c.length <= L.length := by
 intro k
 induction k with
 | zero => intro i c hc; cases hc
 | succ k ih =>
   intro i c hc;rw [iD] at hc;split at hc
   ·rename_i h;rcases List.mem_cons.1 hc with rfl | hc
    ·obtain ⟨x1, x2, _⟩ := qD (rows := rows) h;have : (fT L i (cH rows L i)).length = cH rows L i - i := by unfold fT; rw [qad, qk]; omega
     refine ⟨fun e => ?_, by omega⟩;rw [e, qt] at this; omega
    ·exact ih _ c hc
   ·cases hc
section
variable {QA QB : List (Bool × Bool × List Int)} {A B : List (List Int)}
structure JOf (A B : List (List Int)) (M : Nat) (u : Nat × Nat × (List DStep × Value)) : Prop where
 i1 : u.1 <= A.length
 k1 : u.2.1 <= B.length
 ops : ∃ l, cU A B = l ++ cU (A.drop u.1) (B.drop u.2.1) /\ u.2.2.1 = l.foldl eK []
 bd : BdS u.2.2.1 (u.1 + u.2.1) ((u.1 + u.2.1) * M)
theorem JOf.step {M : Nat} {i k : Nat} {S : List DStep} {v v' : Value} (h : JOf A B M (i, k, (S, v))) {i' k' : Nat} {o : Int} {c : List Int} (hi : i' <= A.length) (hk : k' <= B.length) (hs : cU (A.drop i) (B.drop k) = (o, c) :: cU (A.drop i') (B.drop k')) (hn : i + k + 1 = i' + k' ∨ (i + k + 2 = i' + k')) (hc : c.length <= M) :
 JOf A B M (i', k', (eK S (o, c), v')) := by
 obtain ⟨l, h1, h2⟩ := h.ops;refine ⟨hi, hk, ⟨l ++ [(o, c)], by rw [h1, hs, qab]; rfl, by rw [List.foldl_append, <- h2]; rfl⟩, ?_⟩;obtain ⟨b1, b2⟩ := znx (k := o) h.bd hc;dsimp only at b1 b2 ⊢
 have hm : (i + k) * M + M <= (i' + k') * M := by
  have : (i + k + 1) * M <= (i' + k') * M := qy _ (by omega);rw [qbj, Nat.one_mul] at this; exact this
 exact ⟨by omega, fun s hs => by have := b2 s hs; exact ⟨this.1, by omega, by omega⟩⟩
theorem JOf.ok {M : Nat} {u : Nat × Nat × (List DStep × Value)} (h : JOf A B M u) (hA : A.length < 1048576) (hB : B.length < 1048576) (hM : M <= 100000) : u.2.2.1.length < 1000000000 /\ ∀ s ∈ u.2.2.1, 0 <= s.n /\ s.n < 1000000000000 /\ s.text.length < 1000000000000 := by
 obtain ⟨b1, b2⟩ := h.bd;have hi := h.i1;have hk := h.k1;have hm : (u.1 + u.2.1) * M <= 2097152 * 100000 := Nat.mul_le_mul (by omega) hM;exact ⟨by omega, fun s hs => by have := b2 s hs; exact ⟨this.1, by omega, by omega⟩⟩
abbrev QOf (na fa nb fb : Bool) (QA QB : List (Bool × Bool × List Int)) (A B : List (List Int)) (M : Nat) (L : List Int) (n : Nat) : List DStep × Value -> Qt := fun s' x e h => x = .normal /\ ∃ u' : Nat × Nat × (List DStep × Value), LeE (cJ u'.2.2.2 u'.1 u'.2.1) e /\ h = bT na fa (QA.map clT) nb fb (QB.map clT) false (bM L) /\ s' = u'.2.2 /\ JOf A B M u' /\ A.length + B.length - (u'.1 + u'.2.1) < A.length + B.length - n
theorem CodeY.sq {α : Type} {Z : α -> World -> (Nat -> Prop) -> (Nat -> Pl) -> Hp -> Prop} (hZ : zaq Z 0) {H : Nat -> Option HSpec} {P : Program} {N : Nat} {l : List Nat} {L : Nat -> Option LSpec} {x y : Code} {s : α} {e : Env} {h : Hp} {Q : α -> Qt} (hK : cC P H 0 N l L x e h fun q e h => match q with | .normal => CodeY Z P N y s e h Q | q => Q s q e h) : CodeY Z P N (.seq x y) s e h Q := CodeY.seq (CodeY.of hZ (iL hK))
abbrev CY (w0 : World) (I0 : Nat -> Prop) := CodeY (OutZ 89 21 w0 I0) qa 168
theorem z0j {w0 : World} {I0 : Nat -> Prop} (na fa nb fb : Bool) (hA : QA.map (fun q => q.2.2) = A) (hB : QB.map (fun q => q.2.2) = B) (hsz : (A.length + 1) * (B.length + 1) <= 1048576) {M : Nat} (hM : M <= 100000) (hcA : ∀ c ∈ A, c ≠ [] /\ c.length <= M) (hcB : ∀ c ∈ B, c ≠ [] /\ c.length <= M)
 {L : List Int} (hL : TabD A B (fun _ _ => True) L) (u : Nat × Nat × (List DStep × Value)) (hJ : JOf A B M u) :
 CY w0 I0 (.seq (aT (xU Tryz.f9)) (zep Tryz.f9))
  u.2.2 (cJ u.2.2.2 u.1 u.2.1) (bT na fa (QA.map clT) nb fb (QB.map clT) false (bM L)) fun s' x e h => match x with
   | .normal => ∃ u' : Nat × Nat × (List DStep × Value), LeE (cJ u'.2.2.2 u'.1 u'.2.1) e /\ h = bT na fa (QA.map clT) nb fb (QB.map clT) false (bM L) /\ s' = u'.2.2 /\ JOf A B M u' /\ A.length + B.length - (u'.1 + u'.2.1) < A.length + B.length - (u.1 + u.2.1)
   | .exit n => n = 0 /\ LeE (cJ s'.2 A.length B.length) e /\ h = bT na fa (QA.map clT) nb fb (QB.map clT) false (bM L) /\ s'.1 = lC A B
   | .ret => False := by
 obtain ⟨i, k, S, v⟩ := u;have lA := oV hA;have lB := oV hB;obtain ⟨bA, bB⟩ := znv hsz;obtain ⟨k1, k2⟩ := hJ.ok bA bB hM;have i1 := hJ.i1;have j1 := hJ.k1;dsimp only at k1 k2 i1 j1 ⊢;obtain ⟨d1, d2, d3, d4, d5, d6, d7, z1, z2, z3, _⟩ := zeq;have wi : i64.wrap ((i : Int) + 1) = ((i + 1 : Nat) : Int) := jY;have wk : i64.wrap ((k : Int) + 1) = ((k + 1 : Nat) : Int) := jY
 have hat : ∀ (i k : Nat), i <= A.length -> k <= B.length -> PCall qa 38 [.ptr [.sl na fa (QA.map clT), .sl nb fb (QB.map clT), .sl false false (bM L)], .int .i64 i, .int .i64 k] fun v => v = .int .i64 (i * (B.length + 1) + k : Nat) := fun i k hi hk => by
  have h := lK hi hk;have := znu na fa (QA.map clT) nb fb (QB.map clT) false false (bM L) i k (by rw [lB]; omega) (by rw [lB]; omega);rwa [lB] at this
 -- what is kept and dropped of A
 have gA := qY hA i;have gB := qY hB k;have memA : i < A.length -> A.getD i [] ∈ A := qX;have memB' : k < B.length -> B.getD k [] ∈ B := qX
 have done : ∀ (i' k' : Nat) (s' : List DStep × Value) (e : Env), LeE (cJ s'.2 i' k') e -> JOf A B M (i', k', s') -> i + k < i' + k' -> QOf na fa nb fb QA QB A B M L (i + k) s' .normal e (bT na fa (QA.map clT) nb fb (QB.map clT) false (bM L)) := fun i' k' s' e h1 h2 h3 =>
  ⟨rfl, (i', k', s'), h1, rfl, rfl, h2, by have := h2.i1; have := h2.k1; dsimp only at *; omega⟩
 -- the second question, and what follows
 have rest : (i < A.length -> k < B.length -> A.getD i [] ≠ B.getD k []) -> (i < A.length ∨ k < B.length) -> CY w0 I0 (zn0 Tryz.f9)
  (S, v) (cJ v i k) (bT na fa (QA.map clT) nb fb (QB.map clT) false (bM L)) (QOf na fa nb fb QA QB A B M L (i + k)) := by
  intro hne hor
  -- an element of A is dropped
  have drop : i < A.length -> cU (A.drop i) (B.drop k) = (1, A.getD i []) :: cU (A.drop (i + 1)) (B.drop k) -> CY w0 I0 (zny Tryz.f9)
   (S, v) (cJ v i k) (bT na fa (QA.map clT) nb fb (QB.map clT) false (bM L)) (QOf na fa nb fb QA QB A B M L (i + k)) := by
   intro hi hs;obtain ⟨c1, c2, c3, c4⟩ := z0g;obtain ⟨q1, n1, f1, q2⟩ := gA hi;obtain ⟨e1, e2⟩ := hcA _ (memA hi);refine CodeY.seq (CodeY.regAdd (H := fun _ => none) zds d3 c1 c2 c3 (by omega) c4 rfl rfl ⟨by omega, by omega⟩ k1 k2 ?_);rw [zz9, qd, q2];refine ⟨q1, n1, f1, _, rfl, rfl, n1, f1, _, rfl, e1, by omega, fun v' => ?_⟩;rw [z2];show aM qa (fun _ => none) 168 _ (((i6 Tryz.f9).toList.drop 9).take 1) _ _ _;rw [z0a];refine CodeY.le (e' := cJ v' i k) ⟨rfl, rfl, rfl, rfl, trivial⟩ (CodeY.region (H := fun _ => none) ?_ d4);rw [pU2, wi];exact done (i + 1) k (eK S (1, A.getD i []), v') _ ⟨rfl, rfl, rfl, rfl, trivial⟩ (hJ.step hi j1 hs (.inl (by omega)) e2) (by omega)
  -- an element of B is added
  have add : k < B.length -> cU (A.drop i) (B.drop k) = (2, B.getD k []) :: cU (A.drop i) (B.drop (k + 1)) -> CY w0 I0 (znz Tryz.f9)
   (S, v) (cJ v i k) (bT na fa (QA.map clT) nb fb (QB.map clT) false (bM L)) (QOf na fa nb fb QA QB A B M L (i + k)) := by
   intro hk hs;obtain ⟨c1, c2, c3, c4⟩ := z0h;obtain ⟨q1, n1, f1, q2⟩ := gB hk;obtain ⟨e1, e2⟩ := hcB _ (memB' hk);refine CodeY.seq (CodeY.regAdd (H := fun _ => none) zds d5 c1 c2 c3 (by omega) c4 rfl rfl ⟨by omega, by omega⟩ k1 k2 ?_);rw [z0b, qd, q2];refine ⟨q1, n1, f1, _, rfl, rfl, n1, f1, _, rfl, e1, by omega, fun v' => ?_⟩;rw [z3];show aM qa (fun _ => none) 168 _ (((i7 Tryz.f9).toList.drop 9).take 1) _ _ _;rw [z0c];refine CodeY.le (e' := cJ v' i k) ⟨rfl, rfl, rfl, rfl, trivial⟩ (CodeY.region (H := fun _ => none) ?_ d6);rw [pV2, wk];exact done i (k + 1) (eK S (2, B.getD k []), v') _ ⟨rfl, rfl, rfl, rfl, trivial⟩ (hJ.step i1 hk hs (.inl (by omega)) e2) (by omega)
  refine CodeY.sq OutZ.stab (Eq.mpr (zz6 _) ?_);rw [lA, lB];refine aC (fun hk => ?_) (fun hk => ?_)
  ·have hk : k = B.length := by simp only [beq_iff_eq] at hk; omega
   have hi : i < A.length := hor.resolve_right (by omega);refine CodeY.cond (t := true) rfl (CodeY.leA (drop hi ?_));rw [hk, qaf, iF A i [] hi, wI]
  ·have hk : k < B.length := by simp only [beq_iff_eq] at hk; omega
   refine aC (fun hi => ?_) (fun hi => ?_)
   ·have hi : i < A.length := by simp only [aB] at hi; omega
    rw [wi, wk];refine (hat (i + 1) k hi j1).mono ?_;rintro _ rfl;have t21 := lK (i := i + 1) (k := k) hi j1;have t12 := lK (i := i) (k := k + 1) i1 hk;refine ⟨_, rfl, rfl, lJ L _ (by rw [hL.len]; exact t21), _, by rw [qd, iY L _ (by rw [hL.len]; exact t21)]; rfl, (hat i (k + 1) i1 hk).mono ?_⟩;rintro _ rfl;refine ⟨_, rfl, rfl, lJ L _ (by rw [hL.len]; exact t12), _, by rw [qd, iY L _ (by rw [hL.len]; exact t12)]; rfl, ?_⟩;rw [hL.at' (i + 1) k hi j1 trivial, hL.at' i (k + 1) i1 hk trivial];have hst := qG (A.getD i []) (B.getD k []) (A.drop (i + 1)) (B.drop (k + 1));rw [if_neg (hne hi hk), <- iF A i [] hi, <- iF B k [] hk] at hst;refine CodeY.cond (t := decide (((aZ (A.drop (i + 1)) (B.drop k) : Nat) : Int) >= ((aZ (A.drop i) (B.drop (k + 1)) : Nat) : Int))) rfl ?_;by_cases hle : aZ (A.drop i) (B.drop (k + 1)) <= aZ (A.drop (i + 1)) (B.drop k)
    ·rw [if_pos hle] at hst;rw [if_pos (by simp only [aB]; omega)];exact CodeY.leA (drop hi hst)
    ·rw [if_neg hle] at hst;rw [if_neg (by simp only [aB]; omega)];exact CodeY.leA (add hk hst)
   ·have hi : i = A.length := by simp only [aB] at hi; omega
    refine CodeY.cond (t := false) rfl (CodeY.leA (add hk ?_));rw [hi, qaf, iF B k [] hk, wJ]
 have go : (i < A.length ∨ k < B.length) -> CY w0 I0 (zep Tryz.f9)
  (S, v) (cJ v i k) (bT na fa (QA.map clT) nb fb (QB.map clT) false (bM L)) (QOf na fa nb fb QA QB A B M L (i + k)) := by
  intro hor
  have norm : ∀ {c : Code} {e : Env} {s : List DStep × Value} {h : Hp} {Ψ : List DStep × Value -> Env -> Hp -> Prop}, CY w0 I0 c s e h (fun s' x e h => x = .normal /\ Ψ s' e h) -> CY w0 I0 (.block 1 (.block 2 c)) s e h (fun s' x e h => x = .normal /\ Ψ s' e h) := fun hc =>
   CodeY.block (CodeY.block (hc.mono fun s x e h ⟨hx, hp⟩ => by subst hx; exact ⟨rfl, hp⟩))
  refine norm ?_;refine CodeY.sq OutZ.stab (Eq.mpr (zz5 _) ?_);rw [lA, lB];refine aC (fun hi => ?_) (fun hi => ?_)
  ·have hi : i < A.length := by simp only [aB] at hi; omega
   refine aC (fun hk => ?_) (fun hk => ?_)
   ·have hk : k < B.length := by simp only [aB] at hk; omega
    obtain ⟨q1, n1, f1, q2⟩ := gA hi;obtain ⟨q3, n3, f3, q4⟩ := gB hk;obtain ⟨e1, e2⟩ := hcA _ (memA hi);rw [qd, qd, q2, q4];refine ⟨q1, n1, f1, _, rfl, q3, n3, f3, _, rfl, (zmp n1 f1 n3 f3 (A.getD i []) (B.getD k []) (by omega)).mono ?_⟩;rintro _ rfl;refine ⟨_, rfl, CodeY.cond (t := decide (A.getD i [] = B.getD k [])) rfl ?_⟩;by_cases hab : A.getD i [] = B.getD k []
    ·rw [if_pos (by simpa using hab)]
     obtain ⟨c1, c2, c3, c4⟩ := z0f;refine CodeY.leA (CodeY.seq (CodeY.regAdd (H := fun _ => none) zds d1 c1 c2 c3 (by omega) c4 rfl rfl ⟨by omega, by omega⟩ k1 k2 ?_));rw [zz7, qd, q2];refine ⟨q1, n1, f1, _, rfl, rfl, n1, f1, _, rfl, e1, by omega, fun v' => ?_⟩;rw [z1];show aM qa (fun _ => none) 168 _ (((iZ Tryz.f9).toList.drop 9).take 1) _ _ _;rw [zz8];refine CodeY.le (e' := cJ v' i k) ⟨rfl, rfl, rfl, rfl, trivial⟩ (CodeY.region (H := fun _ => none) ?_ d2);rw [pT2, wi, wk];have hst := qG (A.getD i []) (B.getD k []) (A.drop (i + 1)) (B.drop (k + 1));rw [if_pos hab, <- iF A i [] hi, <- iF B k [] hk] at hst;exact done (i + 1) (k + 1) (eK S (0, A.getD i []), v') _ ⟨rfl, rfl, rfl, rfl, trivial⟩ (hJ.step hi hk hst (.inr (by omega)) e2) (by omega)
    ·rw [if_neg (by simpa using hab)]
     exact CodeY.leA (rest (fun _ _ => hab) hor)
   ·have hk : ¬ k < B.length := by simp only [aB] at hk; omega
    exact CodeY.cond (t := false) rfl (CodeY.leA (rest (fun _ h => absurd h hk) hor))
  ·have hi : ¬ i < A.length := by simp only [aB] at hi; omega
   exact CodeY.cond (t := false) rfl (CodeY.leA (rest (fun h => absurd h hi) hor))
 refine CodeY.sq OutZ.stab (Eq.mpr (pO7 _) ?_);rw [lA, lB];refine aC (fun hi => ?_) (fun hi => ?_)
 ·have hi : i < A.length := by simp only [aB] at hi; omega
  exact CodeY.leA ((go (.inl hi)).mono fun s x e h ⟨hx, hp⟩ => by subst hx; exact hp)
 ·have hi : i = A.length := by simp only [aB] at hi; omega
  refine aC (fun hk => ?_) (fun hk => ?_)
  ·have hk : k < B.length := by simp only [aB] at hk; omega
   exact CodeY.leA ((go (.inr hk)).mono fun s x e h ⟨hx, hp⟩ => by subst hx; exact hp)
  ·have hk : k = B.length := by simp only [aB] at hk; omega
   obtain ⟨l, h1, h2⟩ := hJ.ops;dsimp only at h1 h2;rw [hi, hk, qaf, qaf, tH, qq] at h1;refine ⟨rfl, ?_, rfl, by show S = _; rw [h2, <- h1]; rfl⟩;rw [<- hi, <- hk];exact ⟨rfl, rfl, rfl, rfl, trivial⟩
end
end Go.Eng
namespace Go.Eng
open Go Go.Proofs Go.Eng.Rows Go.Eng.Trie Go.Eng.Srt
def z0k : Bool := tab73.all fun x => decide ((aX tab73 8 x.fr).length <= 8)
theorem z0l : z0k = true := by kernel_rfl
theorem z0m (r : Int) : (aX tab 8 r).length <= 8 := by
 cases hs : bZ r with
 | true => rw [kY hs]; have := sY r; omega
 | false =>
   by_cases hp : aI tab r = (0, 0)
   ·rw [pY hs hp]; simp
   ·obtain ⟨x, hx, hk, hf, _⟩ := za3 tR hp;have := List.all_eq_true.1 z0l x (zyg hx hk);rw [zyf, <- hf];exact of_decide_eq_true this
theorem z0n (l : List Int) : (jS tab l).length <= 8 * l.length := by
 unfold jS;rw [<- (s9 xP _).len]
 induction l with
 | nil => simp
 | cons x l ih =>
   have := z0m x;rw [qbg, qb, qz]; omega
theorem nK (l : List Int) : (gO tab l).length <= 8 * l.length := qbb (za6 tab _) (z0n l)
end Go.Eng
namespace Go.Eng
open Go Go.Proofs Go.Eng.Rows Go.Eng.Srt
def bJ (l : List Int) : List (List Int) := iR tab (gO tab l) 0
theorem q9 (l : List Int) (h : l.length < 10000) : ∀ c ∈ bJ l, c ≠ [] /\ c.length <= 100000 := fun c hc => by
 obtain ⟨h1, h2⟩ := z0i _ _ c hc;exact ⟨h1, by have := nK l; omega⟩
theorem xV (x : List Int) : (bJ x).length <= (gO tab x).length := by
 have : ∀ k i, (iD tab (gO tab x) k i).length <= (gO tab x).length - i := by
  intro k
  induction k with
  | zero => intro i; exact qai _
  | succ k ih =>
    intro i;rw [iD];split
    ·rename_i hi;obtain ⟨x1, x2, _⟩ := qD (rows := tab) hi;have := ih (cH tab (gO tab x) i);rw [qz]; omega
    ·exact qai _
 exact qbb (this _ 0) (qg _)
theorem zn1 {a b : Nat} (hb : 0 < b) (hb2 : b < 1000000) : (((a : Nat) : Int) > i64.wrap (qaw 1048576 ((b : Nat) : Int))) ↔ ¬ a * b <= 1048576 := by
 have h1 : qaw 1048576 ((b : Nat) : Int) = ((1048576 / b : Nat) : Int) := rfl;have h2 : 1048576 / b <= 1048576 := Nat.div_le_self _ _;rw [h1, <- Nat.le_div_iff_mul_le hb];generalize 1048576 / b = q at h2 ⊢;rw [wz];omega
theorem zn2 {T : PV} (hv : fY tab T) (n f n2 f2 : Bool) (l m : List Int) (rl : R32 l) (rm : R32 m) (hl : l.length < 10000) (hm : m.length < 10000) :
 PCall qa 9 [T, .sl n f (aA l), .sl n2 f2 (aA m)] fun x =>
  (((bJ l).length + 1) * ((bJ m).length + 1) <= 1048576 /\ ∃ nl, (nl = true -> lC (bJ l) (bJ m) = []) /\ x = .tup [.sl nl false ((lC (bJ l) (bJ m)).map aQ), .int .i64 0]) ∨
  (¬ ((bJ l).length + 1) * ((bJ m).length + 1) <= 1048576 /\ x = .tup [.sl true true [], .int .i64 7]) := by
 have h1 := fun n f => zns zee hv n f (gO tab l) (zed rl) (by have := nK l; omega);have h2 := fun n f => zns zee hv n f (gO tab m) (zed rm) (by have := nK m; omega);have h3 := zm0 hv n f l rl (by omega);have h4 := zm0 hv n2 f2 m rm (by omega);obtain ⟨tc, tg, tj, tf, tp, made, sec, rfl, _, _⟩ := hv;have hres := zeq.2.2.2.2.2.2.2.2.2.2;have hR := zeq.2.2.2.2.2.2.1;have lA := q9 l hl;have lB := q9 m hm;have := xV l;have := xV m;have := nK l;have := nK m;refine PCall.ofY (tS := 89) (tr := 21) Tryz.func9 z0e (by kernel_rfl) (qac (by kernel_rfl)) fun w0 I0 => ?_;rw [hres];show CodeY _ _ 168 _ _ _ _ _;refine CodeY.sq OutZ.stab (Eq.mpr (pO0 _ _ _ _ _ _ _ _) ?_);refine CodeY.sq OutZ.stab (Eq.mpr (pO1 _ _ _ _ _ _ _ _) ?_);refine h3.mono ?_;rintro _ ⟨n1, f1, rfl⟩;refine ⟨n1, f1, _, rfl, (h1 n1 f1).mono ?_⟩;rintro _ ⟨n3, QA, rfl, hQA⟩;refine ⟨n3, false, _, rfl, h4.mono ?_⟩;rintro _ ⟨n4, f4, rfl⟩;refine ⟨n4, f4, _, rfl, (h2 n4 f4).mono ?_⟩;rintro _ ⟨n5, QB, rfl, hQB⟩;refine ⟨n5, false, _, rfl, ?_⟩;have hQA : QA.map (fun q => q.2.2) = bJ l := hQA;have hQB : QB.map (fun q => q.2.2) = bJ m := hQB;have eA := oV hQA;have eB := oV hQB;clear h1 h2 h3 h4;refine CodeY.le (e' := [(8, .box 0 0), (6, .pv (.sl true true [])), (7, .pv (.int .i64 0))]) ⟨rfl, rfl, rfl, trivial⟩ ?_;refine CodeY.sq OutZ.stab (Eq.mpr (pO2 _) ?_);have w1 : i64.wrap (((bJ l).length : Int) + 1) = (((bJ l).length + 1 : Nat) : Int) := by rw [wz]; omega
 have w2 : i64.wrap (((bJ m).length : Int) + 1) = (((bJ m).length + 1 : Nat) : Int) := by rw [wz]; omega
 rw [eA, eB, w1, w2];refine ⟨by omega, aC (fun hc => ?_) (fun hc => ?_)⟩
 ·rw [aB, zn1 (by omega) (by omega)] at hc;exact .inl ⟨_, .inr ⟨[.sl true true [], .int .i64 7], rfl, rfl⟩, .inr ⟨hc, rfl⟩⟩
 ·rw [aB, zn1 (by omega) (by omega), qh] at hc;refine CodeY.le (e' := [(8, .box 0 0)]) ⟨rfl, trivial⟩ ?_;refine CodeY.sq OutZ.stab (Eq.mpr (pO4 _) ?_);refine (zzs n3 false n5 false hQA hQB hc (fun c hc => by have := lA c hc; omega)).mono ?_;rintro r h' ⟨L, rfl, rfl, hL⟩;refine ⟨(false, bM L), ⟨rfl, rfl⟩, ⟨trivial, trivial⟩, ?_⟩;refine CodeY.sq OutZ.stab (Eq.mpr (pO5 _) ?_);refine CodeY.sq OutZ.stab (Eq.mpr (pO6 _) ?_);refine CodeY.nilRaw (d := 9) rfl (CodeY.le (e' := cJ (.slice none 0 0) ((0 : Nat) : Int) ((0 : Nat) : Int)) ⟨rfl, rfl, rfl, rfl, trivial⟩ ?_)
  refine CodeY.seq (CodeY.block (CodeY.loop (S := fun u : Nat × Nat × (List DStep × Value) => (cJ u.2.2.2 u.1 u.2.1, bT n3 false (QA.map clT) n5 false (QB.map clT) false (bM L))) (A := fun u => u.2.2) (J := JOf (bJ l) (bJ m) 100000) (μ := fun u => (bJ l).length + (bJ m).length - (u.1 + u.2.1)) (s0 := (0, 0, ([], .slice none 0 0)))
   ⟨rfl, rfl, rfl, rfl, trivial⟩ rfl rfl ⟨qai _, qai _, ⟨[], rfl, rfl⟩, zeo⟩ fun u hJ => ?_))
  refine (z0j n3 false n5 false hQA hQB hc (qg _) lA lB hL u hJ).mono fun s x e h hx => ?_;cases x with
  | normal => exact hx
  | ret => exact hx.elim
  | exit k =>
    obtain ⟨rfl, hle, rfl, hs⟩ := hx;show CodeY _ _ _ _ _ _ _ _;refine CodeY.le hle (CodeY.seq (CodeY.region (H := fun _ => none) ?_ hR));rw [z0d];refine CodeY.ret (.inr ⟨rfl, fun nl hnl => ?_⟩);rw [hs] at hnl ⊢;exact ⟨_, .inr ⟨[.sl nl false _, .int .i64 0], rfl, rfl⟩, .inl ⟨hc, nl, hnl, rfl⟩⟩
theorem zn3 (s : DStep) : (aQ s).length = 3 := rfl
theorem z0o (s : DStep) (l : List DStep) : kD (s :: l) = (if s.kind = 0 then 0 else s.n) + kD l := by simp [kD]
theorem z0p (l : List DStep) (s : DStep) : kD (l ++ [s]) = kD l + (if s.kind = 0 then 0 else s.n) := by simp [kD, List.sum_append]
theorem zer (M : Nat) : ∀ (l : List DStep), (∀ s ∈ l, 0 <= s.n /\ s.n <= M) -> 0 <= kD l /\ kD l <= (l.length * M : Nat)
 | [], _ => by simp [kD]
 | s :: l, h => by
   have h1 := zer M l fun x hx => h x (qal _ hx);have h2 := h s qap;rw [z0o, qz, qbj, Nat.one_mul];split <;> omega
theorem z0q (n f : Bool) (S : List DStep) (hS : S.length < 100000) (hn : ∀ s ∈ S, 0 <= s.n /\ s.n <= (1000000 : Nat)) : PCall qa 15 [.sl n f (S.map aQ)] fun v => v = .int .i64 (kD S) := by
 refine zx0 n f (S.map aQ) (fun c x => ∃ i : Nat, x = i /\ i <= S.length /\ c = kD (S.take i)) (fun _ x => S.length - x.toNat) ?_;unfold zma;refine ⟨⟨rfl, 0, rfl, qai _, rfl⟩, ?_⟩;rintro _ _ ⟨i, rfl, hi, rfl⟩;rw [qf];refine aC (fun hc => ?_) (fun hc => ?_)
 ·have hi' : i < S.length := by simp only [aB] at hc; omega
  have hb := zer 1000000 (S.take (i + 1)) fun s hs => hn s (qx hs);have hb0 := zer 1000000 (S.take i) fun s hs => hn s (qx hs);have hs := hn S[i] (qv hi');have hl : (S.take (i + 1)).length <= 100000 := by rw [qk]; omega
  have hl0 : (S.take i).length <= 100000 := by rw [qk]; omega
  have hm : (S.take (i + 1)).length * 1000000 <= 100000 * 1000000 := qy _ hl;have hm0 : (S.take i).length * 1000000 <= 100000 * 1000000 := qy _ hl0;have hsn := z0p (S.take i) S[i];rw [<- dI hi'] at hsn;have wi : i64.wrap ((i : Int) + 1) = ((i + 1 : Nat) : Int) := jY;rw [qd, c7 hi', wi];refine ⟨cS zn3 (by omega) (by omega), S[i].kind, rfl, S[i].n, rfl, false, false, aA S[i].text, rfl, ?_⟩;refine aC (fun hk => ?_) (fun hk => ?_)
  ·have hk : ¬ S[i].kind = 0 := by simpa using hk
   rw [if_neg hk] at hsn;rw [wz, <- hsn];exact ⟨rfl, ⟨i + 1, rfl, hi', rfl⟩, by dsimp only; omega⟩
  ·have hk : S[i].kind = 0 := by simpa using hk
   rw [if_pos hk, Int.add_zero] at hsn;rw [<- hsn];exact ⟨rfl, ⟨i + 1, rfl, hi', rfl⟩, by dsimp only; omega⟩
 ·have : i = S.length := by simp only [aB] at hc; omega
  subst this;rw [List.take_length]
theorem z0r {len k : Nat} (h : k <= len) : dS len (some (k : Int)) none none := ⟨by show (0 : Int) <= k; omega, by show (k : Int) <= len; omega, qp _, trivial⟩
theorem z0s : bJ [97, 98, 99] = [[97], [98], [99]] := by kernel_rfl
theorem z0t : bJ [97, 120, 99] = [[97], [120], [99]] := by kernel_rfl
theorem z0u : lC [[97], [98], [99]] [[97], [120], [99]] = [⟨0, 1, [97]⟩, ⟨1, 1, [98]⟩, ⟨2, 1, [120]⟩, ⟨0, 1, [99]⟩] := by
 have h : cU [[97], [98], [99]] [[97], [120], [99]] = [(0, [97]), (1, [98]), (2, [120]), (0, [99])] := by
  simp [qG, qE, wJ, wI, tH, wG, tF]
 unfold lC;rw [h]; rfl
theorem awake50 : PCall qa 13 [] fun v => v = .bool true := by
 refine zx3 ?_;unfold zmd;refine p42.mono ?_;rintro _ ⟨n, f, rfl⟩;refine ⟨n, f, _, rfl, (zmq n f).mono fun T hT => ?_⟩;have r1 : R32 [97, 98, 99] := fun x hx => by simp at hx; omega
 have r2 : R32 [97, 120, 99] := fun x hx => by simp at hx; omega
 have := zn2 hT false true false true [97, 98, 99] [97, 120, 99] r1 r2 (by decide) (by decide);rw [z0s, z0t, z0u] at this;refine this.mono ?_;rintro _ (⟨_, nl, _, rfl⟩ | ⟨h, _⟩)
 ·refine ⟨_, rfl, rfl, _, rfl, nl, false, _, rfl, _, rfl, 0, rfl, bW rfl ⟨⟨by decide, by decide, rfl⟩, 0, rfl, bW rfl ⟨⟨by decide, by decide, rfl⟩, 1, rfl, bW rfl ⟨⟨by decide, by decide, rfl⟩, 2, rfl, bW rfl ?_⟩⟩⟩⟩
  refine (z0q nl false [⟨0, 1, [97]⟩, ⟨1, 1, [98]⟩, ⟨2, 1, [120]⟩, ⟨0, 1, [99]⟩] (by decide) (fun s hs => by
   simp only [List.mem_cons, List.mem_nil_iff, or_false] at hs
   rcases hs with rfl | rfl | rfl | rfl <;> exact ⟨by decide, by decide⟩)).mono ?_
  rintro _ rfl;exact ⟨_, rfl, rfl⟩
 ·exact absurd (by decide) h
end Go.Eng
namespace Go.Eng.Rows
open Go Go.Eng Go.Eng.Trie Go.Eng.Srt
section
variable {rows : List Row}
theorem z0v {r : Int} (h : eC rows r = false) (hn : aI rows r ≠ (0, 0)) : (aI rows r).2 ≠ 0 /\ aF rows 1 r = 0 /\ aF rows 1 (aI rows r).1 = 0 := by
 unfold eC at h;simp [hn] at h;exact ⟨h.1, h.2.2.1, h.2.2.2⟩
theorem z0w (h1 : eS rows) (hks : ∀ r, bZ r = true -> aF rows 1 r = 0) {a b c : Int} (h : fK rows a b = some c) : aF rows 1 c = 0 := by
 unfold fK at h;split at h
 ·rename_i s hj; cases h; exact hks _ (za5 hj)
 ·obtain ⟨q1, q2, q3, _⟩ := za4 h1 h;exact (z0v q3 (by rw [q1]; intro e; exact q2 (Prod.mk.inj e).2)).2.1
theorem z0x (h1 : eS rows) (hks : ∀ r, bZ r = true -> aF rows 1 r = 0) (d : List Int) : ∀ a, (bS rows d).s = some a -> aF rows 1 a = 0 := by
 induction d using jR with
 | h0 => intro a h; cases h
 | h1 d r ih =>
   rw [iC];rcases qB rows (bS rows d) r with e | ⟨b, c, hs, hp, _, e⟩
   ·rw [e];unfold cW;split
    ·rename_i h0; intro a h; cases h; exact h0
    ·exact ih
   ·rw [e];intro a h; cases h; exact z0w h1 hks hp
end
def z0y (rows : List Row) (a b : Int) : Bool := rows.all fun x => !decide (x.kind = 1) || (decide (x.to < a) || decide (b < x.fr))
theorem z0z {rows : List Row} {a b r : Int} (h : z0y rows a b = true) (h1 : a <= r) (h2 : r <= b) : aF rows 1 r = 0 := by
 unfold aF;cases hf : cD rows 1 r with
 | none => rfl
 | some p =>
   obtain ⟨x, hx, hk, _, _, f1, f2, _⟩ := kX hf;have := List.all_eq_true.1 h x hx;simp only [hk, decide_true, qbp, qbq, qj, aB] at this;omega
end Go.Eng.Rows
namespace Go.Eng
open Go Go.Proofs Go.Eng.Rows Go.Eng.Trie
theorem z00 : ∀ r, bZ r = true -> aF tab 1 r = 0 := fun r hs => by
 simp only [bZ, qe, aB] at hs;exact z0z (a := 44032) (b := 55203) (by kernel_rfl) hs.1 hs.2
theorem z01 : ∀ (d : List Int) a, (bS tab d).s = some a -> aF tab 1 a = 0 := z0x tR z00
end Go.Eng
namespace Go.Eng
open Go Go.Proofs
section
variable (n f : Bool) (es : LL) (r : Int)
def zn4 (R : PV -> Prop) : Prop :=
 PCall qa 101 [PV.sl n f es, Z3 r] fun v => ∃ vs, v = PV.tup vs /\ vs.length = 3 /\ ∃ x, vs.head? = some x /\ ∃ n1, x = Z3 n1 /\ ∃ x1, vs.tail.head? = some x1 /\ ∃ n2, x1 = Z3 n2 /\ ∃ x2, vs.tail.tail.head? = some x2 /\ ∃ b, x2 = Zb b /\ if (!b) = true then R (Zb false) else if (n2 == 0) = true then R (Zb true) else PCall qa 128 [PV.sl n f es, Z6 3, Z3 r] fun v1 => ∃ n3, v1 = Z6 n3 /\ if (n3 == 1) = true then R (Zb true) else PCall qa 128 [PV.sl n f es, Z6 1, Z3 r] fun v2 => ∃ n4, v2 = Z6 n4 /\ if (n4 != 0) = true then R (Zb true) else PCall qa 128 [PV.sl n f es, Z6 1, Z3 n1] fun v3 => ∃ n5, v3 = Z6 n5 /\ R (Zb (n5 != 0))
theorem z02 {R : PV -> Prop} (h : zn4 n f es r R) : PCall qa 129 [.sl n f es, .int .i32 r] R :=
 PCall.wz Tryz.func129 aR [0, 1, 4, 5, 6, 7, 16] bE h
end
end Go.Eng
namespace Go.Eng
open Go Go.Proofs
open Go Go.Proofs Go.Eng.Rows Go.Eng.Trie
end Go.Eng
namespace Go.Eng
open Go Go.Proofs Go.Eng.Rows Go.Eng.Trie
section
variable {rows : List Row}
theorem zn5 (i : Int) : cE rows 3 i = decide (aF rows 3 i = 1) := by
 unfold cE aF;cases cD rows 3 i with
 | none => rfl
 | some p => rfl
theorem z03 (hp : dN rows) (n f : Bool) (r : Int) (hl : rows.length < 1000000) (hr : -2147483648 <= r /\ r <= 2147483647) : PCall qa 129 [.sl n f (bH rows), .int .i32 r] fun v => v = .bool (eC rows r) := by
 refine z02 _ _ _ _ ?_; unfold zn4;refine (xB hp n f r hl hr).mono ?_;rintro _ rfl;have hrng := pX hp r;refine ⟨_, rfl, rfl, _, rfl, _, rfl, _, rfl, _, rfl, _, rfl, _, rfl, ?_⟩;refine aC (fun h1 => ?_) (fun h1 => aC (fun h2 => ?_) (fun h2 => ?_))
 ·simp only [qbe, aB] at h1;unfold eC; simp [h1]
 ·simp only [qbe, aB] at h1;simp only [beq_iff_eq] at h2;unfold eC; simp [h1, h2]
 ·simp only [qbe, aB] at h1;simp only [beq_iff_eq] at h2;refine (nH n f 3 r hl hr).mono ?_;rintro _ rfl;refine ⟨_, rfl, ?_⟩;refine aC (fun h4 => ?_) (fun h4 => ?_)
  ·simp only [beq_iff_eq] at h4;unfold eC; rw [zn5]; simp [h1, h2, h4]
  ·simp only [beq_iff_eq] at h4;refine (nH n f 1 r hl hr).mono ?_;rintro _ rfl;refine ⟨_, rfl, ?_⟩;refine aC (fun h5 => ?_) (fun h5 => ?_)
   ·simp only [bne_iff_ne, ne_eq] at h5;unfold eC; simp [h1, h2, h5]
   ·simp only [bne_iff_ne, ne_eq, qh] at h5;refine (nH n f 1 _ hl (by omega)).mono ?_;rintro _ rfl;refine ⟨_, rfl, ?_⟩;unfold eC; rw [zn5];simp only [h1, h2, h4, h5, decide_false, Bool.not_false, qah, qbq, decide_true, qbp];rfl
end
end Go.Eng
namespace Go.Eng
open Go Go.Proofs
section
variable (a b : Int)
def zn6 (R : PV -> Prop) : Prop :=
 if (decide (a >= 4352) && decide (a <= 4370) && decide (b >= 4449) && decide (b <= 4469)) = true then R (PV.tup [Z3 (i32.wrap (i64.wrap (i64.wrap ((44032 : Int) + i64.wrap (i64.wrap (i64.wrap a - 4352) * 588)) + i64.wrap (i64.wrap (i64.wrap b - 4449) * 28)))), Zb true]) else ACall qa 100 [LV.pv (Z3 a)] [] fun (r : LV) (h' : Hp) => (∃ (t : Bool × LL), (r = LV.own 0 /\ h' = [Ob.sl (21, 1) true t.fst t.snd]) /\ True /\ if ((↑t.snd.length : Int) == 2 && decide (b >= 4520) && decide (b <= 4546)) = true then R (PV.tup [Z3 (i32.wrap (a + i32.wrap (b - 4519))), Zb true]) else R (PV.tup [Z3 0, Zb false])) ∨ ∃ (t : Bool × LL), (r = LV.pv (PV.sl t.fst true t.snd) /\ h' = []) /\ True /\ if ((↑t.snd.length : Int) == 2 && decide (b >= 4520) && decide (b <= 4546)) = true then R (PV.tup [Z3 (i32.wrap (a + i32.wrap (b - 4519))), Zb true]) else R (PV.tup [Z3 0, Zb false])
theorem z04 {R : PV -> Prop} (h : zn6 a b R) : PCall qa 97 [.int .i32 a, .int .i32 b] R :=
 PCall.wz Tryz.func97 (fun zz_ => match zz_ with | 100 => some ⟨Bool × LL, fun _ hs t => (.own hs.length, hs ++ [.sl (21, 1) true t.1 t.2]), some ⟨Bool × LL, fun _ hs t => (.pv (.sl t.1 true t.2), hs)⟩⟩ | _ => none) [0, 1, 4, 5, 6, 20, 44] bE h
end
def zes (n f : Bool) (es : LL) (a b : Int) (x8 : Int) (x9 : Bool) (x10 : Int) : Env × Hp := ([(0, LV.pv (PV.sl n f es)), (1, LV.pv (PV.int i32 a)), (2, LV.pv (PV.int i32 b)), (8, .pv (.int i32 x8)), (9, .pv (.bool x9)), (10, Y6 x10)], [])
section
variable (n f : Bool) (es : LL) (a b : Int) (J : Int -> Bool -> Int -> Prop) (μ : Int -> Bool -> Int -> Nat)
def zn7 (R : PV -> Prop) : Prop :=
 (aG (zes n f es a b (0 : Int) false (0 : Int)) /\ J (0 : Int) false (0 : Int)) /\ ∀ (x8 : Int) (x9 : Bool) (x10 : Int), J x8 x9 x10 ->
 let K4 := fun (y0_ : Int) (y1_ : Bool) (y2_ : Int) => aG (zes n f es a b y0_ y1_ y2_) /\ J y0_ y1_ y2_ /\ μ y0_ y1_ y2_ < μ x8 x9 x10; if decide (x10 < (↑es.length : Int)) = true then aD es x10 5 /\ ∃ n1, (qc 0 (es.getD x10.toNat [])).head? = some (Z6 n1) /\
 let V1 := K4 x8 x9 (i64.wrap (x10 + 1)); if (n1 != 2) = true then V1 else aD es x10 5 /\ ∃ n2, (qc 3 (es.getD x10.toNat [])).head? = some (Z6 n2) /\ if (n2 != i64.wrap a) = true then V1 else aD es x10 5 /\ ∃ n3, (qc 4 (es.getD x10.toNat [])).head? = some (Z6 n3) /\ if (n3 != i64.wrap b || b == 0) = true then V1 else aD es x10 5 /\ ∃ n4, (qc 1 (es.getD x10.toNat [])).head? = some (Z6 n4) /\ PCall qa 101 [PV.sl n f es, Z3 (i32.wrap n4)] fun v => ∃ vs, v = PV.tup vs /\ vs.length = 3 /\ ∃ x, vs.head? = some x /\ ∃ n5, x = Z3 n5 /\ ∃ x1, vs.tail.head? = some x1 /\ ∃ n6, x1 = Z3 n6 /\ ∃ x2, vs.tail.tail.head? = some x2 /\ ∃ b1, x2 = Zb b1 /\ if (b1 && n5 == a && n6 == b) = true then PCall qa 129 [PV.sl n f es, Z3 (i32.wrap n4)] fun v1 => ∃ b2, v1 = Zb b2 /\ if (!b2 && (!x9 || decide (i32.wrap n4 < x8))) = true then K4 (i32.wrap n4) true (i64.wrap (x10 + 1)) else V1 else V1 else R (PV.tup [Z3 x8, Zb x9])
theorem z05 {R : PV -> Prop} (h : zn7 n f es a b J μ R) : PCall qa 98 [.sl n f es, .int .i32 a, .int .i32 b] R :=
 PCall.wz Tryz.func98 aR [0, 1, 2, 6, 7, 8, 9, 10, 11, 12, 13, 14, 18, 50, 89] (dA 4 (bN eG (zes n f es a b) J μ (fun e h => (gI e 8, gB e 9, gI e 10)) [] [0, 1, 2, 8, 9, 10] [])) h
end
section
variable (n f : Bool) (es : LL) (a b : Int)
def zn8 (R : PV -> Prop) : Prop :=
 PCall qa 97 [Z3 a, Z3 b] fun v => ∃ vs, v = PV.tup vs /\ vs.length = 2 /\ ∃ x, vs.head? = some x /\ ∃ n1, x = Z3 n1 /\ ∃ x1, vs.tail.head? = some x1 /\ ∃ b1, x1 = Zb b1 /\ if b1 = true then R (PV.tup [Z3 n1, Zb true]) else PCall qa 98 [PV.sl n f es, Z3 a, Z3 b] fun v1 => ∃ vs1, v1 = PV.tup vs1 /\ vs1.length = 2 /\ ∃ x2, vs1.head? = some x2 /\ ∃ n2, x2 = Z3 n2 /\ ∃ x3, vs1.tail.head? = some x3 /\ ∃ b2, x3 = Zb b2 /\ R (PV.tup [Z3 n2, Zb b2])
theorem z06 {R : PV -> Prop} (h : zn8 n f es a b R) : PCall qa 76 [.sl n f es, .int .i32 a, .int .i32 b] R :=
 PCall.wz Tryz.func76 aR [0, 1, 2, 6, 7, 8, 9, 16] bE h
end
def zet (n f : Bool) (es : LL) (n2 f2 : Bool) (ss : LL) (x5 : Int) : Env × Hp := ([(0, LV.pv (PV.sl n f es)), (1, LV.pv (PV.sl n2 f2 ss)), (5, Y6 x5)], [])
section
variable (n f : Bool) (es : LL) (n2 f2 : Bool) (ss : LL) (J : Int -> Prop) (μ : Int -> Nat)
def zn9 (R : PV -> Prop) : Prop :=
 (aG (zet n f es n2 f2 ss (i64.wrap ((↑ss.length : Int) - 1))) /\ J (i64.wrap ((↑ss.length : Int) - 1))) /\ ∀ (x5 : Int), J x5 -> if decide (x5 >= 0) = true then aD ss x5 1 /\ ∃ n1, (ss.getD x5.toNat []).head? = some (Z3 n1) /\ PCall qa 96 [PV.sl n f es, Z3 n1] fun v => ∃ n3, v = Z6 n3 /\ if (n3 == 0) = true then R (Z6 x5) else aG (zet n f es n2 f2 ss (i64.wrap (x5 - 1))) /\ J (i64.wrap (x5 - 1)) /\ μ (i64.wrap (x5 - 1)) < μ x5 else R (Z6 (-1 : Int))
theorem z07 {R : PV -> Prop} (h : zn9 n f es n2 f2 ss J μ R) : PCall qa 74 [.sl n f es, .sl n2 f2 ss] R :=
 PCall.wz Tryz.func74 aR [0, 1, 4, 5, 10, 19] (dA 2 (bN cz1 (zet n f es n2 f2 ss) J μ (fun e h => (((gI e 5), ()))) [] [0, 1, 5] [])) h
end
section
variable (n f : Bool) (es : LL) (n2 f2 : Bool) (ss : LL) (k r : Int)
def zoa (R : PV -> Prop) : Prop :=
 if (k == i64.wrap ((↑ss.length : Int) - 1)) = true then R (Zb true) else aD ss (i64.wrap ((↑ss.length : Int) - 1)) 1 /\ ∃ n1, (ss.getD (i64.wrap ((↑ss.length : Int) - 1)).toNat []).head? = some (Z3 n1) /\ PCall qa 96 [PV.sl n f es, Z3 n1] fun v => ∃ n3, v = Z6 n3 /\ PCall qa 96 [PV.sl n f es, Z3 r] fun v1 => ∃ n4, v1 = Z6 n4 /\ R (Zb (decide (n3 < n4)))
theorem z08 {R : PV -> Prop} (h : zoa n f es ss k r R) : PCall qa 75 [.sl n f es, .sl n2 f2 ss, .int .i64 k, .int .i32 r] R :=
 PCall.wz Tryz.func75 aR [0, 1, 2, 3, 8, 13] bE h
end
def zeu (n f : Bool) (es : LL) (n2 f2 : Bool) (ss : LL) (x6 : Int) (n_0 : Bool) (s_0 : LL) : Env × Hp := ([(0, LV.pv (PV.sl n f es)), (1, LV.pv (PV.sl n2 f2 ss)), (5, LV.own 0), (6, Y6 x6)], [.sl (21, 1) true n_0 s_0])
section
variable (n f : Bool) (es : LL) (n2 f2 : Bool) (ss : LL) (J : Int -> Bool -> LL -> Prop) (μ : Int -> Bool -> LL -> Nat)
def zob (R : PV -> Prop) : Prop :=
 (aG (zeu n f es n2 f2 ss (0 : Int) true []) /\ J (0 : Int) true []) /\ ∀ (x6 : Int) (n_0 : Bool) (s_0 : LL), J x6 n_0 s_0 ->
 let K3 := fun (y0_ : Int) (y1_ : Bool) (y2_ : LL) => aG (zeu n f es n2 f2 ss y0_ y1_ y2_) /\ J y0_ y1_ y2_ /\ μ y0_ y1_ y2_ < μ x6 n_0 s_0; if decide (x6 < (↑ss.length : Int)) = true then PCall qa 74 [PV.sl n f es, PV.sl n_0 false s_0] fun v => ∃ n1, v = Z6 n1 /\ true = true /\
 let V1 := aD ss x6 1 /\ ∃ n7, (ss.getD x6.toNat []).head? = some (Z3 n7) /\ (aU [[Z3 n7]] 1 /\ (s_0.length + 1) * 4 <= 140737488355328) /\ K3 (i64.wrap (x6 + 1)) (n_0 && false) (s_0 ++ [[Z3 n7]]); if decide (n1 >= 0) = true then aD ss x6 1 /\ ∃ n3, (ss.getD x6.toNat []).head? = some (Z3 n3) /\ PCall qa 75 [PV.sl n f es, PV.sl n_0 false s_0, Z6 n1, Z3 n3] fun v1 => ∃ b, v1 = Zb b /\ true = true /\ if b = true then aD s_0 n1 1 /\ ∃ n4, (qc 0 (s_0.getD n1.toNat [])).head? = some (Z3 n4) /\ aD ss x6 1 /\ ∃ n5, (ss.getD x6.toNat []).head? = some (Z3 n5) /\ PCall qa 76 [PV.sl n f es, Z3 n4, Z3 n5] fun v2 => ∃ vs, v2 = PV.tup vs /\ vs.length = 2 /\ ∃ x, vs.head? = some x /\ ∃ n6, x = Z3 n6 /\ ∃ x1, vs.tail.head? = some x1 /\ ∃ b1, x1 = Zb b1 /\ if b1 = true then aD s_0 n1 1 /\ (1 = 1 /\ 1 <= (s_0.getD n1.toNat []).length) /\ K3 (i64.wrap (x6 + 1)) n_0 (s_0.set n1.toNat (Z3 n6 :: zq (qc 1 (s_0.getD n1.toNat [])))) else V1 else V1 else V1 else R (PV.sl n_0 false s_0)
theorem z09 {R : PV -> Prop} (h : zob n f es n2 f2 ss J μ R) : PCall qa 51 [.sl n f es, .sl n2 f2 ss] R :=
 PCall.wz Tryz.func51 aR [0, 1, 4, 5, 6, 7, 8, 9, 13, 30, 44] (dA 3 (bN eG (zeu n f es n2 f2 ss) J μ (fun e h => (gI e 6, oN h 0, oS h 0)) [(5, 21, 1)] [0, 1, 5, 6] [])) h
end
section
variable (n f : Bool) (es : LL) (n2 f2 : Bool) (ss : LL)
def zoc (R : PV -> Prop) : Prop :=
 PCall qa 52 [PV.sl n f es, PV.sl n2 f2 ss] fun v => ∃ n1 f1 es1, v = PV.sl n1 f1 es1 /\ PCall qa 51 [PV.sl n f es, PV.sl n1 f1 es1] fun v1 => ∃ n3 f3 es2, v1 = PV.sl n3 f3 es2 /\ R (PV.sl n3 f3 es2)
theorem z1a {R : PV -> Prop} (h : zoc n f es n2 f2 ss R) : PCall qa 24 [.sl n f es, .sl n2 f2 ss] R :=
 PCall.wz Tryz.func24 aR [0, 1, 4] bE h
end
end Go.Eng
