/- States run over the code: what each function gives, and what follows. -/
import Derived.Test.YtpadbcaocbghoaaDmTb
open Go.IntKind (i64 i32)
open Go.Proofs.Try renaming prog → qa
open Int renaming toNat_natCast → qb, le_refl → qag, eq_ofNat_of_zero_le → qaj, tdiv → qao, natCast_mul → qbd
open List renaming length_map → qc, length_append → qe, drop → qf, take_of_length_le → qj, replicate → qk, getD → qm, length_take → qn, getElem_mem → qo, length_singleton → qq, mem_of_mem_take → qt, length_drop → qv, length_cons → qw, drop_length → qy, getElem?_eq_getElem → qaa, length_replicate → qac, length_nil → qae, map_append → qaf, append_assoc → qah, find?_cons → qak, mem_cons_of_mem → qan, mem_cons_self → qar, contains_cons → qas, getElem?_map → qau, flatMap_cons → qav, contains_nil → qaw, range' → qax, cons_append → qaz, append_nil → qbc
open Bool renaming and_eq_true → qd, or_eq_true → qp, not_eq_true' → qu, or_eq_false_iff → qx, and_eq_false_iff → qam, not_true → qbf, false_or → qbg, true_and → qbh, or_false → qbi
open Nat renaming le_of_lt → qg, le_refl → qi, mul_le_mul_right → ql, zero_le → qz, le_trans → qai, le_of_ble_eq_true → qal, mul_le_mul_left → qap, lt_of_lt_of_le → qaq, lt_of_le_of_lt → qat, add_mul → qay, div_eq_of_lt → qba, and_le_right → qbb, mul_add_div → qbe
open Array renaming getD_eq_getD_getElem? → qh, getElem?_append_left → qr, replicate → qad
open Decidable renaming not_not → qab
set_option linter.unusedVariables false
set_option linter.unusedSimpArgs false
set_option maxRecDepth 100000
namespace Go.Eng
open Go Go.Proofs Go.Eng.Rows Go.Eng.Srt
section
variable {Z : World -> (Nat -> Prop) -> (Nat -> Pl) -> Hp -> Prop} {key : Int -> Int} {nl : Bool} {T : PV} {l : Nat}
def YQ (key : Int -> Int) (L : List Int) (f i : Nat) (L' : List Int) : Prop := ∃ S', L' = L.take f ++ (S' ++ L.drop i) /\ Srtd key S' /\ Stab key ((L.take i).drop f) S'
def zbv (Z : World -> (Nat -> Prop) -> (Nat -> Pl) -> Hp -> Prop) (key : Int -> Int) (nl : Bool) (T : PV) (l N0 : Nat) : Prop :=
 ∀ (w : World) (I : Nat -> Prop) (G : Nat -> Pl) (L : List Int) (f i : Nat), HRel w I G (aM nl T (aA L)) -> Z w I G (aM nl T (aA L)) -> f + 1 < i -> i <= L.length -> R32 L -> L.length < 1000000000000 -> L.length = N0 ->
  ∃ fn tmps assign body, (Instr.yield l #[.int .i64 f, .int .i64 i]).run qa w = .ok (.round l fn tmps assign body) w /\ RoundIn Fence.wide 0 qa l fn tmps assign body w fun e w' =>
   e = .returned (.bool true) /\ ∃ L' I' G', YQ key L f i L' /\ HRel w' I' G' (aM nl T (aA L')) /\ Keeps w I w' I' /\ Like G G' (aM nl T (aA L)) (aM nl T (aA L')) /\ Z w' I' G' (aM nl T (aA L'))
def o8 (ops : Array Oper) : Oper := ops.toList.getD 8 default
theorem e6a (y : Value) (es : List (List PV)) (i f : Int) (K : Env -> Hp -> Prop) : aR qa (fun _ => none) 39 (bL (dP Try.f94)).toList ((bL (dP Try.f94)).toList.take 8) (eM y i f) (aM nl T es) K =
 K ((35, LV.spec 32 true (.pv (.int .i64 i))) :: (34, LV.spec 32 true (.pv (.int .i64 f))) :: (33, LV.spec 32 true (.pv (.raw y))) :: (32, .pv (.bool (decide (i64.wrap (i - f) > (1 : Int))))) :: (31, .pv (.bool (decide (i64.wrap (i - f) > (1 : Int))))) ::
  (30, .pv (.int .i64 (i64.wrap (i - f)))) :: (29, .pv (.int .i64 f)) :: (28, .pv (.int .i64 i)) :: eM y i f) (aM nl T es) := by kernel_rfl
theorem e6b (y : Value) (es : List (List PV)) (i f : Int) (K : Env -> Hp -> Prop) : aR qa (fun _ => none) 39 (bL (dP Try.f94)).toList ((bL (dP Try.f94)).toList.drop 9) ((36, .pv (.bool true)) :: (32, .pv (.bool true)) :: eM y i f) (aM nl T es) K =
 K ((38, .pv (.bool false)) :: (37, .spec 32 true (.pv (.bool false))) :: (36, .pv (.bool true)) :: (32, .pv (.bool true)) :: eM y i f) (aM nl T es) := by kernel_rfl
theorem e6c (y : Value) (es : List (List PV)) (i f : Int) (K : Env -> Hp -> Prop) : aR qa (fun _ => none) 39 (bL (dP Try.f94)).toList ((bL (dP Try.f94)).toList.drop 9) ((32, .pv (.bool false)) :: eM y i f) (aM nl T es) K =
 K ((38, .pv (.bool false)) :: (37, .pv .unit) :: (32, .pv (.bool false)) :: (32, .pv (.bool false)) :: eM y i f) (aM nl T es) := by kernel_rfl
theorem ztb : dP Try.f94 = .region 6 (bL (dP Try.f94)) false := by kernel_rfl
theorem ztc : (bL (dP Try.f94)).size = 11 /\ c5 (bL (dP Try.f94)).toList = true /\ (bL (dP Try.f94)).toList.length = 11 /\ (bL (dP Try.f94))[8]? = some (o8 (bL (dP Try.f94))) /\
 (o8 (bL (dP Try.f94))).dst = some 36 /\ (o8 (bL (dP Try.f94))).guard = some (4, true) /\ (o8 (bL (dP Try.f94))).op = .call { callee := .value (.tmp 33), args := #[.tmp 34, .tmp 35], argTypes := #[3, 3] } /\
 ((bL (dP Try.f94))[4]?).bind (·.dst) = some 32 :=
 ⟨by kernel_rfl, by kernel_rfl, by kernel_rfl, by kernel_rfl, by kernel_rfl, by kernel_rfl, by kernel_rfl, by kernel_rfl⟩
theorem ztd {F : Fence} {n : Nat} {P : Program} {ops : Array Oper} {Q : Exit -> Act -> World -> Prop} {i : Nat} {rest : List Nat} {a : Act} {w : World} {o : Oper} (ho : ops[i]? = some o)
 (h : if Region.wanted o (yielded ops a.tmps) then o.wpIn F n P a w (wpOpsIn F n P ops Q rest) Q else (∀ f, o.about P w a.eval = some f -> F.fn f) /\ wpOpsIn F n P ops Q rest (a.put o.dst undef) w) : wpOpsIn F n P ops Q (i :: rest) a w := by
 simp only [wpOpsIn, ho]; exact h
theorem zte {w : World} {I : Nat -> Prop} {G : Nat -> Pl} {h : Hp} {tm : Array Value} {s : Nat} {b : Bool} (hr : LRel w I G h (.pv (.bool b)) (tm.getD s undef)) : tm[s]? = some (.bool b) := by
 have := hr.bool_eq;rw [qh] at this;cases hx : tm[s]? with
 | none => rw [hx] at this; simp [undef] at this
 | some v => rw [hx] at this; simpa using this
theorem LRel.raw_eq {w : World} {I : Nat -> Prop} {G : Nat -> Pl} {h : Hp} {v cv : Value} (hr : LRel w I G h (.pv (.raw v)) cv) : cv = v := by cases hr with | pv _ _ h1 => cases h1; rfl
theorem ztf {N0 : Nat} (hY : zbv Z key nl T l N0) (hZ : ∀ w I G h w' I' G' h', Z w I G h -> HRel w I G h -> HRel w' I' G' h' -> TrN 5 w I G h w' I' G' h' -> Z w' I' G' h') (L : List Int) (f i : Nat) (hf : f <= i) (hi : i <= L.length) (hr : R32 L) (hL : L.length < 1000000000000) (hN : L.length = N0) :
 CodeZ Z qa 39 (dP Try.f94) (eM (.func (.yield l) #[] #[]) i f) (aM nl T (aA L)) fun x e h => ∃ L', x = .normal /\ (if f + 1 < i then YQ key L f i L' else L' = L) /\ e = (38, .pv (.bool false)) :: eM (.func (.yield l) #[] #[]) i f /\ h = aM nl T (aA L') := by
 intro w I G a Qx hs hz hq;obtain ⟨q1, q2, q3, q4, q5, q6, q7, q8⟩ := ztc;rw [ztb];have ea := e6a (nl := nl) (T := T) (.func (.yield l) #[] #[]) (aA L) i f;have eb := fun es => e6b (nl := nl) (T := T) (.func (.yield l) #[] #[]) es i f;have ec := e6c (nl := nl) (T := T) (.func (.yield l) #[] #[]) (aA L) i f;generalize bL (dP Try.f94) = O at *;generalize o8 O = o at *;have ww : i64.wrap ((i : Int) - f) = (i : Int) - f := aD (by omega) (by omega);rw [ww] at ea;refine wp_mono (Q := fun x a' w' => x = .normal /\ ∃ L' I' G', (if f + 1 < i then YQ key L f i L' else L' = L) /\ SRel w' I' G' ((38, .pv (.bool false)) :: eM (.func (.yield l) #[] #[]) i f) (aM nl T (aA L')) 39 a' /\ a'.defers = a.defers /\ Z w' I' G' (aM nl T (aA L'))) ((wpIn_wide (n := 0)).1 (wpIn_region (F := wd none) ?_)) ?_
 rotate_left
 ·rintro x a' w' ⟨rfl, L', I', G', h1, h2, h3, h4⟩;exact hq .normal _ _ w' I' G' a' ⟨L', rfl, h1, rfl, rfl⟩ h2 h3 h4
 rw [q1, show List.range 11 = qax 0 8 ++ (8 :: qax 9 2) from rfl];refine rE ?_;rw [show (8 : Nat) = (O.toList.take 8).length by simp [q3]];have hsuf : ∀ j, j < (O.toList.drop 9).length -> (O.toList.drop 9)[j]? = O[9 + j]? := fun j _ => by rw [List.getElem?_drop]; simp
 have hl2 : (O.toList.drop 9).length = 2 := by simp [q3]
 refine tX (ro := none) q2 (fun j hj => ?_) (by rw [ea]; exact ⟨rfl, rfl⟩ : aR qa (fun _ => none) 39 O.toList (O.toList.take 8) _ _ (fun e' h' => e' = _ /\ h' = aM nl T (aA L))) hs (fun a w h => nomatch h.1) ?_
 ·rw [List.getElem?_take, if_pos (by simp only [qn] at hj; omega)]; simp
 rintro _ _ w1 I1 G1 a1 ⟨rfl, rfl⟩ hs1 hd1 ht1;rw [show (O.toList.take 8).length = 8 by simp [q3]];have hz1 := hZ _ _ _ _ _ _ _ _ hz hs.hh hs1.hh ht1.toN;have h32 := zte (hs1.he 32 _ rfl)
 have hyl : yielded O a1.tmps 4 = some (decide ((i : Int) - f > 1)) := by
  unfold yielded;rw [q8]; simp [h32]
 have hwd : Region.wanted o (yielded O a1.tmps) = decide ((i : Int) - f > 1) := by unfold Region.wanted; rw [q6]; simp [hyl]
 show wpOpsIn (wd none) 0 qa O _ (8 :: qax 9 2) a1 w1;refine ztd q4 ?_;rw [hwd];have hdst : iB 39 o = true := by unfold iB; rw [q5]; rfl
 by_cases hc : f + 1 < i
 ·have hd' : decide ((i : Int) - f > 1) = true := by simp; omega
  rw [hd'] at hs1 h32 ⊢;rw [if_pos rfl];refine ⟨fun _ _ => trivial, ?_⟩;have h32' : a1.tmps.getD 32 undef = .bool true := (hs1.he 32 _ rfl).bool_eq;have v33 := ((hs1.he 33 _ rfl).1 h32').raw_eq;have v34 := ((hs1.he 34 _ rfl).1 h32').int_eq;have v35 := ((hs1.he 35 _ rfl).1 h32').int_eq;obtain ⟨fn, tmps, assign, body, hy, hR⟩ := hY w1 I1 G1 L f i hs1.hh hz1 hc hi hr hL hN
  have hrun : (o.semAt none a1.eval).run qa w1 = .ok (.round l fn tmps assign body) w1 := by
   rw [Oper.semAt_none];unfold execOp;rw [q7];have e33 : a1.eval (.tmp 33) = .func (.yield l) #[] #[] := v33;have e34 : a1.eval (.tmp 34) = .int .i64 f := v34;have e35 : a1.eval (.tmp 35) = .int .i64 i := v35
   have hres : resolve a1.eval { callee := .value (.tmp 33), args := #[.tmp 34, .tmp 35], argTypes := #[3, 3] } o.type = pure { target := .fn (.yield l) #[], args := #[.int .i64 f, .int .i64 i] } := by
    simp [resolve, e33, e34, e35, Deferred.ofValue]
   simp only [hres, pure_bind];exact hy
  rw [hrun];refine ⟨(fun x => by cases x), hR.mono ?_⟩;rintro e w2 ⟨rfl, L', I2, G2, y1, y2, y3, y4, y5⟩
  have hs2 : SRel w2 I2 G2 ((36, .pv (.bool true)) :: (32, .pv (.bool true)) :: eM (.func (.yield l) #[] #[]) i f) (aM nl T (aA L')) 39 (a1.put o.dst (.bool true)) := by
   have s1 : SRel w1 I1 G1 ((32, .pv (.bool true)) :: eM (.func (.yield l) #[] #[]) i f) (aM nl T (aA L)) 39 a1 := hs1.le (LeE.le ⟨rfl, rfl, rfl, rfl, rfl, rfl, trivial⟩);obtain ⟨p1, p2⟩ := j9 (v := .pv (.bool true)) hdst s1.hn y2 (s1.he.mono y3 y4) (.pv _ _ (.bool true));have : put o (.pv (.bool true)) ((32, .pv (.bool true)) :: eM (.func (.yield l) #[] #[]) i f) = (36, .pv (.bool true)) :: (32, .pv (.bool true)) :: eM (.func (.yield l) #[] #[]) i f := by unfold put; rw [q5]; rfl
   rwa [this] at p1
  have := tX (ro := none) (n := 0) (k := 9) q2 hsuf (by rw [eb]; exact ⟨rfl, rfl⟩ : aR qa (fun _ => none) 39 O.toList (O.toList.drop 9) _ _ (fun e' h' => e' = _ /\ h' = aM nl T (aA L'))) hs2 (Q := fun x a' w' => x = .normal /\ ∃ L' I' G', (if f + 1 < i then YQ key L f i L' else L' = L) /\ SRel w' I' G' ((38, .pv (.bool false)) :: eM (.func (.yield l) #[] #[]) i f) (aM nl T (aA L')) 39 a' /\ a'.defers = a.defers /\ Z w' I' G' (aM nl T (aA L'))) (fun a w h => nomatch h.1) (by
   rintro _ _ w3 I3 G3 a3 ⟨rfl, rfl⟩ hs3 hd3 ht3
   refine ⟨rfl, L', I3, G3, by rw [if_pos hc]; exact y1, hs3.le (LeE.le ⟨rfl, rfl, rfl, rfl, rfl, rfl, trivial⟩), hd3.trans ((by unfold Act.put; cases o.dst <;> rfl : (a1.put o.dst (.bool true)).defers = a1.defers).trans hd1), hZ _ _ _ _ _ _ _ _ y5 hs2.hh hs3.hh ht3.toN⟩)
  rw [hl2] at this;exact this
 ·have hd' : decide ((i : Int) - f > 1) = false := by simp; omega
  rw [hd'] at hs1 h32 ⊢;rw [if_neg (by simp)];refine ⟨fun _ _ => trivial, ?_⟩;have hlt : 36 < a1.tmps.size := by rw [hs1.hn]; omega
  have hs2 : SRel w1 I1 G1 ((32, .pv (.bool false)) :: eM (.func (.yield l) #[] #[]) i f) (aM nl T (aA L)) 39 (a1.put o.dst undef) := by
   have s1 : SRel w1 I1 G1 ((32, .pv (.bool false)) :: eM (.func (.yield l) #[] #[]) i f) (aM nl T (aA L)) 39 a1 := hs1.le (LeE.le ⟨rfl, rfl, rfl, rfl, rfl, rfl, trivial⟩);obtain ⟨p1, p2⟩ := j9 (v := .bot) (cv := undef) hdst s1.hn s1.hh s1.he (.bot _);have : put o .bot ((32, .pv (.bool false)) :: eM (.func (.yield l) #[] #[]) i f) = (36, .bot) :: (32, .pv (.bool false)) :: eM (.func (.yield l) #[] #[]) i f := by unfold put; rw [q5]; rfl
   rw [this] at p1;exact p1.le (LeE.le ⟨rfl, rfl, rfl, rfl, rfl, rfl, trivial⟩)
  have := tX (ro := none) (n := 0) (k := 9) q2 hsuf (by rw [ec]; exact ⟨rfl, rfl⟩ : aR qa (fun _ => none) 39 O.toList (O.toList.drop 9) _ _ (fun e' h' => e' = _ /\ h' = aM nl T (aA L))) hs2 (Q := fun x a' w' => x = .normal /\ ∃ L' I' G', (if f + 1 < i then YQ key L f i L' else L' = L) /\ SRel w' I' G' ((38, .pv (.bool false)) :: eM (.func (.yield l) #[] #[]) i f) (aM nl T (aA L')) 39 a' /\ a'.defers = a.defers /\ Z w' I' G' (aM nl T (aA L'))) (fun a w h => nomatch h.1) (by
   rintro _ _ w3 I3 G3 a3 ⟨rfl, rfl⟩ hs3 hd3 ht3
   exact ⟨rfl, L, I3, G3, by rw [if_neg hc], hs3.le (LeE.le ⟨rfl, rfl, rfl, rfl, rfl, rfl, trivial⟩), hd3.trans ((by unfold Act.put; cases o.dst <;> rfl : (a1.put o.dst undef).defers = a1.defers).trans hd1), hZ _ _ _ _ _ _ _ _ hz1 hs2.hh hs3.hh ht3.toN⟩)
  rw [hl2] at this;exact this
end
section
variable {Z : World -> (Nat -> Prop) -> (Nat -> Pl) -> Hp -> Prop} {key : Int -> Int} {nl : Bool} {T : PV} {l : Nat} {y : Value} {es : List (List PV)}
theorem eI0 (Q : Qt) : cH qa (fun _ => none) 5 39 lM (fun _ => none) (bD (cM Try.f94)) (eT [.pv (.raw y), .box 4 0, .box 3 0] 0) (aM nl T es) Q = Q .normal (eN y 0) (aM nl T es) := by kernel_rfl
theorem eI1 (i : Int) (Q : Qt) : cH qa (fun _ => none) 5 39 lM (fun _ => none) (bD (cL Try.f94)) (eN y i) (aM nl T es) Q =
 if decide (i < (es.length : Int)) = true then Q .normal [(0, .pv (.raw y)), (1, .box 4 0), (2, .box 3 0), (4, .pv (.int .i64 i)), (9, .pv (.bool (decide (i < (es.length : Int)))))] (aM nl T es)
 else Q (.exit 0) [(0, .pv (.raw y)), (1, .box 4 0), (2, .box 3 0), (4, .pv (.int .i64 i)), (9, .pv (.bool (decide (i < (es.length : Int)))))] (aM nl T es) := by kernel_rfl
theorem eI3 (i : Int) (Q : Qt) : cH qa (fun _ => none) 5 39 lM (fun _ => none) (bD (cB Try.f94)) (eN y i) (aM nl T es) Q = Q .normal (eM y i i) (aM nl T es) := by kernel_rfl
theorem eI2 (i : Int) (Q : Qt) : cH qa (fun _ => none) 5 39 lM (fun _ => none) (aT (aT (cL Try.f94))) (eN y i) (aM nl T es) Q = Q .normal (eN y (i64.wrap (i + 1))) (aM nl T es) := by kernel_rfl
def zbw (y : Value) (i f : Int) (b : Bool) : Env := [(0, .pv (.raw y)), (1, .box 4 0), (2, .box 3 0), (4, .pv (.int .i64 i)), (5, .pv (.int .i64 f)), (25, .pv (.bool b))]
theorem eI4 (i f : Int) (J : Int -> Prop) (μ : Int -> Nat) (Q : Qt) : cH qa (fun _ => none) 5 39 lM (fun zz_ => match zz_ with | 4 => some ⟨Int × Unit, fun s => (eM y s.1 f, aM nl T es), fun _ s => J s.1, fun s => μ s.1, fun e h => (gI e 4, ()), [], [0, 1, 2, 4, 5], [], fun p => ∀ (x4 : Int), p (x4, ()), fun p h s => h s.1⟩ | _ => none) (bD (aT (cB Try.f94))) (eM y i f) (aM nl T es) Q =
 ((SameSt (eM y i f, aM nl T es) (eM y i f, aM nl T es) /\ J i) /\ ∀ (x4 : Int), J x4 -> if decide (x4 < (es.length : Int)) = true then aP es x4 1 /\ ∃ (n : Int), (qf 0 (es.getD x4.toNat [])).head? = some (.int .i32 n) /\ PCall qa 56 [T, .int .i32 n] fun (v : PV) => ∃ (n1 : Int), v = .int .i64 n1 /\
  if (n1 != (0 : Int)) = true then SameSt (eM y (i64.wrap (x4 + 1)) f, aM nl T es) (eM y (i64.wrap (x4 + 1)) f, aM nl T es) /\ J (i64.wrap (x4 + 1)) /\ μ (i64.wrap (x4 + 1)) < μ x4
  else Q .normal (zbw y x4 f (n1 != (0 : Int))) (aM nl T es)
   else Q .normal (zbw y x4 f false) (aM nl T es)) := by kernel_rfl
theorem zbx : cM Try.f94 = .seq (bD (cM Try.f94)) (.block 0 (.loop (cL Try.f94))) /\
 cL Try.f94 = .seq (bD (cL Try.f94)) (.seq (.block 1 (cB Try.f94)) (aT (aT (cL Try.f94)))) /\
 cB Try.f94 = .seq (bD (cB Try.f94)) (.seq (bD (aT (cB Try.f94))) (.seq (dP Try.f94) (.cond (.tmp 38) .ret .skip))) := ⟨by kernel_rfl, by kernel_rfl, by kernel_rfl⟩
theorem CodeZ.le {P : Program} {N : Nat} {c : Code} {e e' : Env} {h : Hp} {Q : Qt} (hl : LeE e' e) (hK : CodeZ Z P N c e' h Q) : CodeZ Z P N c e h Q :=
 fun w I G a Qx hs hz hq => hK w I G a Qx (hs.le hl.le) hz hq
theorem ztg (hk : ∀ x, 0 <= key x) (hT : ∀ r : Int, (-2147483648 <= r /\ r <= 2147483647) -> PCall qa 56 [T, .int .i32 r] fun v => v = .int .i64 (key r)) 
 (hZ : ∀ w I G h w' I' G' h', Z w I G h -> HRel w I G h -> HRel w' I' G' h' -> TrN 5 w I G h w' I' G' h' -> Z w' I' G' h') (L0 : List Int) (hY : zbv Z key nl T l L0.length) (hr : R32 L0) (hL : L0.length < 1000000000000) :
 CodeZ Z qa 39 (cM Try.f94) (eT [.pv (.raw (.func (.yield l) #[] #[])), .box 4 0, .box 3 0] 0) (aM nl T (aA L0)) fun x e h => x = .normal /\ h = aM nl T (aA (cQ key L0)) := by
 obtain ⟨y, hy⟩ : ∃ y : Value, y = .func (.yield l) #[] #[] := ⟨_, rfl⟩;rw [zbx.1, <- hy];refine CodeZ.seq (CodeZ.of (n0 := 5) hZ (dQ (Eq.mpr (eI0 _) ?_)));show CodeZ Z qa 39 (.block 0 (.loop (cL Try.f94))) (eN y 0) (aM nl T (aA L0)) _;refine CodeZ.block (CodeZ.loop (σ := Nat × List Int) (fun s => (eN y s.1, aM nl T (aA s.2))) (fun s => s.1 <= L0.length + 1 /\ Eqv key L0 s.2 /\ cV key (s.2.take s.1) /\ (s.1 = 0 ∨ L0.length < s.1 ∨ key (s.2.getD (s.1 - 1) 0) = 0)) (fun s => L0.length + 1 - s.1) (0, L0) (LeE.le ⟨rfl, rfl, rfl, rfl, trivial⟩) rfl ⟨by omega, .refl _, by simp [cV], .inl rfl⟩ ?_);rintro ⟨i, L⟩ ⟨hi, hq, hc, hb⟩;have hlen := hq.len;have hr' : R32 L := fun x hx => hr x (hq.mem.2 hx);dsimp only at hi hq hc hb hlen ⊢;rw [zbx.2.1];refine CodeZ.seq (CodeZ.of (n0 := 5) hZ (dQ (Eq.mpr (eI1 _ _) ?_)));by_cases hlt : i < L.length
 ·rw [if_pos (by simpa using hlt)]
  show CodeZ Z qa 39 (.seq (.block 1 (cB Try.f94)) (aT (aT (cL Try.f94)))) _ _ _;refine CodeZ.le (e' := eN y i) ⟨rfl, rfl, rfl, rfl, trivial⟩ (CodeZ.seq (CodeZ.block ?_));rw [zbx.2.2];refine CodeZ.seq (CodeZ.of (n0 := 5) hZ (dQ (Eq.mpr (eI3 _ _) ?_)));show CodeZ Z qa 39 (.seq (bD (aT (cB Try.f94))) (.seq (dP Try.f94) (.cond (.tmp 38) .ret .skip))) (eM y i i) _ _;refine CodeZ.seq (CodeZ.of (n0 := 5) hZ (dQ (Eq.mpr (eI4 _ _ (fun x => ∃ j : Nat, x = j /\ i <= j /\ j <= L.length /\ ∀ k, i <= k -> k < j -> key (L.getD k 0) ≠ 0) (fun x => ((L.length : Int) - x).toNat) _) ?_)));refine ⟨⟨rfl, i, rfl, qi _, by omega, fun k h1 h2 => by omega⟩, ?_⟩;rintro _ ⟨j, rfl, hij, hj, hnz⟩
  -- what follows the row of marks
  have rest : ∀ b, (j = L.length ∨ key (L.getD j 0) = 0) -> CodeZ Z qa 39 (.seq (dP Try.f94) (.cond (.tmp 38) .ret .skip)) (zbw y j i b) (aM nl T (aA L)) fun x e h => match x with
   | .normal => CodeZ Z qa 39 (aT (aT (cL Try.f94))) e h fun x e h => match x with
     | .normal => ∃ s' : Nat × List Int, (∀ i v, get (eN y s'.1) i = some v -> get e i = some v) /\ h = aM nl T (aA s'.2) /\ (s'.1 <= L0.length + 1 /\ Eqv key L0 s'.2 /\ cV key (s'.2.take s'.1) /\ (s'.1 = 0 ∨ L0.length < s'.1 ∨ key (s'.2.getD (s'.1 - 1) 0) = 0)) /\ L0.length + 1 - s'.1 < L0.length + 1 - i
     | _ => False
   | _ => False := fun b hend => by
   refine CodeZ.le (e' := eM y j i) ⟨rfl, rfl, rfl, rfl, rfl, trivial⟩ (CodeZ.seq ?_);rw [hy];refine (ztf hY hZ L i j hij hj hr' (by omega) hlen.symm).mono ?_;rintro _ _ _ ⟨L', rfl, hL', rfl, rfl⟩;refine CodeZ.cond (t := false) rfl ?_;simp only [Bool.false_eq_true, if_false];refine CodeZ.skip ?_;rw [<- hy];refine CodeZ.le (e' := eN y j) ⟨rfl, rfl, rfl, rfl, trivial⟩ (CodeZ.of (n0 := 5) hZ (dQ (Eq.mpr (eI2 _ _) ?_)));have wj : i64.wrap ((j : Int) + 1) = ((j + 1 : Nat) : Int) := by rw [aD (by omega) (by omega)]; omega
   rw [wj]
   have hb' : i = 0 ∨ key (L.getD (i - 1) 0) = 0 := by
    rcases hb with h | h | h
    ·exact .inl h
    ·omega
    ·exact .inr h
   obtain ⟨S', hs, hst, rfl⟩ : ∃ S', Srtd key S' /\ Stab key ((L.take j).drop i) S' /\ L' = L.take i ++ (S' ++ L.drop j) := by
    by_cases h1 : i + 1 < j
    ·rw [if_pos h1] at hL';obtain ⟨S', e, h2, h3⟩ := hL';exact ⟨S', h2, h3, e⟩
    ·rw [if_neg h1] at hL';obtain ⟨c1, c2, c3⟩ := uJ L hij hj;exact ⟨_, zo5 (by omega), Stab.refl _, hL'.trans c1⟩
   obtain ⟨g1, g2, g3⟩ := zo4 hk hij hj hb' hnz hend hc hs hst;refine ⟨(j + 1, _), LeE.le ⟨rfl, rfl, rfl, rfl, trivial⟩, rfl, ⟨by dsimp only; omega, hq.trans g1, g2, ?_⟩, by dsimp only; omega⟩;rcases Nat.lt_or_ge j L.length with h | h
   ·exact .inr (.inr (g3 h))
   ·exact .inr (.inl (by dsimp only; omega))
  by_cases hjl : j < L.length
  ·rw [if_pos (by simpa using hjl)]
   refine ⟨c8 (enc := fun n => [PV.int .i32 n]) (l := L) (fun _ => rfl) (by omega) (by omega), L.getD j 0, by rw [qb, znv hjl]; rfl, (hT _ (hr' _ (List.mem_of_getElem? (rO hjl)))).mono ?_⟩;rintro _ rfl;refine ⟨_, rfl, ?_⟩;by_cases hz : key (L.getD j 0) = 0
   ·rw [if_neg (by simpa using hz)]
    exact (rest _ (.inr hz)).mono fun x e h hx => by cases x <;> first | exact hx.elim | exact CodeZ.mono hx fun x e h hx => (by cases x <;> first | exact hx | exact hx.elim)
   ·rw [if_pos (by simpa using hz)]
    have wj : i64.wrap ((j : Int) + 1) = ((j + 1 : Nat) : Int) := by rw [aD (by omega) (by omega)]; omega
    rw [wj];refine ⟨rfl, ⟨j + 1, rfl, by omega, hjl, fun k h1 h2 => ?_⟩, by omega⟩;rcases Nat.lt_or_ge k j with h | h
    ·exact hnz k h1 h
    ·have : k = j := by omega
     subst this; exact hz
  ·rw [if_neg (by simpa using hjl)]
   exact (rest _ (.inl (by omega))).mono fun x e h hx => by cases x <;> first | exact hx.elim | exact CodeZ.mono hx fun x e h hx => (by cases x <;> first | exact hx | exact hx.elim)
 ·rw [if_neg (by simpa using hlt)]
  refine ⟨rfl, ?_⟩;rw [qj (by omega)] at hc;rw [zo1 hq, zo3 hc]
end
section
variable {w w' : World} {I I' : Nat -> Prop} {G G' : Nat -> Pl} {h h' : Hp}
theorem HRel.off (hh : HRel w I G h) {l : Nat} (o : Obj) (hI : ¬ I l) (ho : ¬ aO h G l) : HRel (w.putObj l o) I G h := by
 have hw : ∀ b, b ≠ l -> (w.putObj l o).heap[b]? = w.heap[b]? := fun b hb => World.putObj_heap_other hb;have hk : Keeps w I (w.putObj l o) I := ⟨fun b hb _ => hw b fun e => hI (e ▸ hb), fun b hb _ => hb⟩;have blk : ∀ (i : Nat) x, h[i]? = some x -> x.alive (G i) -> (G i).blk ≠ l := fun i x hx ha e => ho ⟨i, x, hx, ha, e⟩;refine ⟨fun i x hx => ?_, hh.sep, hh.nI, fun b hb => by rw [World.putObj_size]; exact hh.cl b hb⟩;have := hh.obs i x hx;cases x with
 | dead => trivial
 | box cs => obtain ⟨vs, ty, e1, e2, e3⟩ := this; exact ⟨vs, ty, by rw [hw _ (blk i _ hx trivial)]; exact e1, e2, fun k v hv => ⟨(e3 k v hv).1.mono hk (.refl _ _), (e3 k v hv).2⟩⟩
 | arr cs => obtain ⟨vs, ty, e1, e2, e3⟩ := this; exact ⟨vs, ty, by rw [hw _ (blk i _ hx trivial)]; exact e1, e2, fun k v hv => ⟨(e3 k v hv).1.mono hk.1 hk.2, (e3 k v hv).2⟩⟩
 | sl ty m n es =>
   cases n with
   | true => exact this
   | false =>
     obtain ⟨e1, e2, e3, e3', e4, e5⟩ := this;refine ⟨e1, e2, e3, e3', e4, fun hc => ?_⟩;obtain ⟨vs, f1, f2, f3⟩ := e5 hc;exact ⟨vs, by rw [hw _ (blk i _ hx ⟨rfl, hc⟩)]; exact f1, f2, fun i' e he k v hv => ⟨(f3 i' e he k v hv).1.mono hk.1 hk.2, (f3 i' e he k v hv).2⟩⟩
 | mp kvs => obtain ⟨es, ck, e1, e2, e3⟩ := this; exact ⟨es, ck, by rw [hw _ (blk i _ hx trivial)]; exact e1, e2, fun k kv hv => ⟨(e3 k kv hv).1.mono hk.1 hk.2, (e3 k kv hv).2.mono hk.1 hk.2⟩⟩
 | iter ty rem cur => exact IterRel.mono this (hw _ (blk i _ hx trivial)) hk
theorem lR (hh : HRel w I G h) {b : Nat} {o : Obj} (ho : w.heap[b]? = some o) (hn : (match o with | .cells .. => true | .map .. => true | .mapIter .. => true | _ => false) = false) : ¬ aO h G b := by
 rintro ⟨i, ob, hi, ha, rfl⟩;have := hh.obs i ob hi;cases ob with
 | dead => exact ha
 | box cs => obtain ⟨vs, ty, e1, _⟩ := this; rw [ho] at e1; cases e1; cases hn
 | arr cs => obtain ⟨vs, ty, e1, _⟩ := this; rw [ho] at e1; cases e1; cases hn
 | sl ty m n es =>
   cases n with
   | true => exact absurd ha.1 (by simp)
   | false => obtain ⟨vs, e1, _⟩ := this.2.2.2.2.2 ha.2; rw [ho] at e1; cases e1; cases hn
 | mp kvs => obtain ⟨es, ck, e1, _⟩ := this; rw [ho] at e1; cases e1; cases hn
 | iter ty rem cur => obtain ⟨_, _, _, _, _, _, e1, _⟩ := this; rw [ho] at e1; cases e1; cases hn
theorem Tr.off {own own' : Nat -> Prop} (t : Tr w I own w' I' own') {l : Nat} (hl : w.heap.size <= l) (o : Obj) : Tr w I own (w'.putObj l o) I' own' :=
 ⟨t.os, t.tape, t.output, by rw [World.putObj_size]; exact t.size, fun b hb hn => (World.putObj_heap_other (by omega)).trans (t.keep b hb hn), t.i1, t.i2, t.own2,
  fun a ha => (World.frozen?_of_block (World.putObj_heap_other (by omega))).trans (t.frz a ha), t.drawn⟩
theorem TrN.off {n0 : Nat} (t : TrN n0 w I G h w' I' G' h') {l : Nat} (hl : w.heap.size <= l) (o : Obj) : TrN n0 w I G h (w'.putObj l o) I' G' h' := ⟨t.t.off hl o, t.len, t.stay⟩
theorem r8 (hh : HRel w I G h) (t : Tr w I (aO h G) w' I' (aO h' G')) : Keeps w I w' I' :=
 ⟨fun b hb hlt => t.keep b hlt fun ⟨o, ob, h1, h2, e⟩ => hh.nI o ob h1 h2 (e ▸ hb), fun b hb _ => t.i1 b hb⟩
theorem Keeps.trans {w1 w2 : World} {I1 I2 : Nat -> Prop} (h : Keeps w I w1 I1) (hs : w.heap.size <= w1.heap.size) (k : Keeps w1 I1 w2 I2) : Keeps w I w2 I2 :=
 ⟨fun b hb hlt => (k.1 b (h.2 b hb hlt) (qaq hlt hs)).trans (h.1 b hb hlt), fun b hb hlt => k.2 b (h.2 b hb hlt) (qaq hlt hs)⟩
theorem Keeps.off {l : Nat} (hI : ¬ I l) (o : Obj) : Keeps w I (w.putObj l o) I := ⟨fun b hb _ => World.putObj_heap_other fun e => hI (e ▸ hb), fun b hb _ => hb⟩
structure ZR (W0 : World) (I0 : Nat -> Prop) (G0 : Nat -> Pl) (h0 : Hp) (l D : Nat) (rec : Loop) (W : World) (I : Nat -> Prop) (G : Nat -> Pl) (h : Hp) : Prop where
 t : TrN 5 W0 I0 G0 h0 W I G h
 hl : W.heap[l]? = some (.loop rec)
 hD : W.heap[D]? = some (.deferred (some []))
 nl : ¬ I l
 nD : ¬ I D
theorem ZR.step {W0 : World} {I0 : Nat -> Prop} {G0 : Nat -> Pl} {h0 : Hp} {l D : Nat} {rec : Loop} (z : ZR W0 I0 G0 h0 l D rec w I G h) (hh : HRel w I G h) (t : TrN 5 w I G h w' I' G' h') : ZR W0 I0 G0 h0 l D rec w' I' G' h' := by
 have l1 := (Array.getElem?_eq_some_iff.1 z.hl).1;have l2 := (Array.getElem?_eq_some_iff.1 z.hD).1;have n1 := lR hh z.hl rfl;have n2 := lR hh z.hD rfl;exact ⟨z.t.trans t, (t.t.keep l l1 n1).trans z.hl, (t.t.keep D l2 n2).trans z.hD, fun x => (t.t.i2 l x).elim z.nl (fun x => x.elim n1 fun x => by omega), fun x => (t.t.i2 D x).elim z.nD (fun x => x.elim n2 fun x => by omega)⟩
end
section
variable {key : Int -> Int} {nl : Bool} {T : PV}
theorem zby {G G' : Nat -> Pl} {es es' : List (List PV)} (hl : es.length = es'.length) (hG : ∀ o, o < 5 -> G' o = G o) : Like G G' (aM nl T es) (aM nl T es') := by
 intro o ob ho;have hlt : o < 5 := (List.getElem?_eq_some_iff.1 ho).1;refine ⟨?_, fun _ => hG o hlt⟩
 match o, ho with
 | 0, ho => cases ho; exact ⟨_, rfl, trivial⟩
 | 1, ho => cases ho; exact ⟨_, rfl, rfl, rfl, hl⟩
 | 2, ho => cases ho; exact ⟨_, rfl, trivial⟩
 | 3, ho => cases ho; exact ⟨_, rfl, trivial⟩
 | 4, ho => cases ho; exact ⟨_, rfl, trivial⟩
theorem vH {w w' : World} {I I' : Nat -> Prop} {G G' : Nat -> Pl} {es es' : List (List PV)} (t : TrN 5 w I G (aM nl T es) w' I' G' (aM nl T es')) : ∀ o, o < 5 -> G' o = G o := by
 intro o ho;have hs := t.stay (qi _)
 match o, ho with
 | 0, _ => exact (hs 0 _ (by omega) rfl rfl).1
 | 1, _ => exact (hs 1 _ (by omega) rfl rfl).1
 | 2, _ => exact (hs 2 _ (by omega) rfl rfl).1
 | 3, _ => exact (hs 3 _ (by omega) rfl rfl).1
 | 4, _ => exact (hs 4 _ (by omega) rfl rfl).1
theorem eA3 (es : List (List PV)) (i f : Int) (K : Env -> Hp -> Prop) : aR qa (fun _ => none) 22 (bL (bD (iJ (c6 Try.f60)))).toList (bL (bD (iJ (c6 Try.f60)))).toList (eO f i) (aM nl T es) K = K ((6, .pv (.int .i64 f)) :: eO f i) (aM nl T es) := by kernel_rfl
theorem eA4 (es : List (List PV)) (i f : Int) (K : Env -> Hp -> Prop) : aR qa (fun _ => none) 22 (bL (aT (iJ (c6 Try.f60)))).toList (bL (aT (iJ (c6 Try.f60)))).toList ((6, .pv (.int .i64 f)) :: eO f i) (aM nl T es) K = K ((7, .pv (.int .i64 i)) :: (6, .pv (.int .i64 f)) :: eO f i) (aM nl T es) := by kernel_rfl
theorem eA5 (es : List (List PV)) (i f : Int) (K : Env -> Hp -> Prop) : aR qa zH 22 (bL (gD (iK (c6 Try.f60)))).toList (bL (gD (iK (c6 Try.f60)))).toList ((7, .pv (.int .i64 i)) :: (6, .pv (.int .i64 f)) :: eO f i) (aM nl T es) K =
 (iA es.length (some f) (some i) none /\ ACall qa 81 [.sub 0 f.toNat i.toNat, .fn 82 [.box 1 0]] [.sl (21, 1) false nl es, .box [.pv T]] fun (r : LV) (h' : Hp) => ∃ (t : List (List PV)), (r = .tup [] /\ h' = [.sl (21, 1) false nl t, .box [.pv T]]) /\
  (True /\ (((21, 1) : Nat × Nat) = (21, 1) /\ nl = nl /\ es.length = t.length) /\ True) /\ K ((20, .tup []) :: (19, .fn 82 [.box 0 0]) :: (18, .sub 1 f.toNat i.toNat) :: (17, .pv (.int .i64 i)) :: (16, .pv (.int .i64 f)) :: (15, .own 1) :: (7, .pv (.int .i64 i)) :: (6, .pv (.int .i64 f)) :: eO f i) (aM nl T t)) := by kernel_rfl
theorem zjj : iJ (c6 Try.f60) = .seq (.region 3 (bL (bD (iJ (c6 Try.f60)))) false) (.region 4 (bL (aT (iJ (c6 Try.f60)))) false) /\ iK (c6 Try.f60) = .block 1 (.region 5 (bL (gD (iK (c6 Try.f60)))) false) /\
 c6 Try.f60 = .rangeFunc (.tmp 12) #[13, 14] (iJ (c6 Try.f60)) (iK (c6 Try.f60)) /\ c5 (bL (bD (iJ (c6 Try.f60)))).toList = true /\ c5 (bL (aT (iJ (c6 Try.f60)))).toList = true /\ c5 (bL (gD (iK (c6 Try.f60)))).toList = true :=
 ⟨by kernel_rfl, by kernel_rfl, by kernel_rfl, by kernel_rfl, by kernel_rfl, by kernel_rfl⟩
theorem zth (hc : kI T key) {W0 : World} {I0 : Nat -> Prop} {G0 : Nat -> Pl} {L0 : List Int} {a : Act} {v12 : LV} (hs0 : SRel W0 I0 G0 [(2, .box 0 0), (5, .box 2 0), (12, v12)] (aM nl T (aA L0)) 22 a) (rec : Loop)
 (r1 : rec.state = .ready) (r2 : rec.pending = none) (r3 : rec.tmps = a.tmps) (r4 : rec.params = #[13, 14]) (r5 : rec.assign = iJ (c6 Try.f60)) (r6 : rec.body = iK (c6 Try.f60)) :
 zbv (ZR W0 I0 G0 (aM nl T (aA L0)) (W0.heap.size + 1) W0.heap.size rec) key nl T (W0.heap.size + 1) L0.length := by
 intro w I G L f i hh hz hfi hil hr hLn hN;obtain ⟨l, hl⟩ : ∃ l, l = W0.heap.size + 1 := ⟨_, rfl⟩;have hWl : W0.heap.size <= l := by omega
 rw [<- hl] at hz ⊢;refine ⟨_, _, _, _, run_yield (P := qa) hz.hl (by rw [r4]; rfl), roundIn_of_wpIn trivial ?_⟩;have hlt := (Array.getElem?_eq_some_iff.1 hz.hl).1;have hel : ∀ L' : List Int, L'.length = L.length -> (aA L0).length = (aA L').length := fun L' h => by simp [hN, h]
 have hs : SRel w I G (eO f i) (aM nl T (aA L)) 22 { tmps := (a.tmps.setIfInBounds 13 (.int .i64 f)).setIfInBounds 14 (.int .i64 i), defers := [] } := by
  have h1 := hs0.he.mono (r8 hs0.hh hz.t.t) (zby (hel L rfl) (vH hz.t));have h2 := h1.set (d := 13) (v := .pv (.int .i64 f)) (by rw [hs0.hn]; omega) (.pv _ _ (.int .i64 f)) (fun _ _ _ e => by cases e);have h3 := h2.set (d := 14) (v := .pv (.int .i64 i)) (by simp [hs0.hn]) (.pv _ _ (.int .i64 i)) (fun _ _ _ e => by cases e);exact ⟨hh, fun k v hk => h3 k v ((LeE.le (e' := eO f i) ⟨rfl, rfl, rfl, rfl, trivial⟩) k v hk), by simp [hs0.hn]⟩
 obtain ⟨q1, q2, q3, q4, q5, q6⟩ := zjj;rw [r5, q1, r4, r3];have hfold : ∀ x y : Value, (((#[13, 14] : Array Tmp).zip #[x, y]).foldl (fun tmps (t, a) => tmps.setIfInBounds t a) a.tmps) = (a.tmps.setIfInBounds 13 x).setIfInBounds 14 y := fun x y => by simp
 rw [hfold];refine wpIn_seq ?_;show Code.wpIn (wd (some l)) 0 qa _ (Exit.then (Code.wpIn (wd (some l)) 0 qa _ _) _) { tmps := (a.tmps.setIfInBounds 13 (.int .i64 f)).setIfInBounds 14 (.int .i64 i), defers := [] } w;refine yM q4 (by rw [eA3]; exact ⟨rfl, rfl⟩ : aR qa (fun _ => none) 22 _ _ _ _ (fun e' h' => e' = _ /\ h' = _)) hs ?_ ?_
 ·exact fun a w h => h
 rintro _ _ w1 I1 G1 a1 ⟨rfl, rfl⟩ hs1 hd1 ht1;refine yM q5 (by rw [eA4]; exact ⟨rfl, rfl⟩ : aR qa (fun _ => none) 22 _ _ _ _ (fun e' h' => e' = _ /\ h' = _)) hs1 ?_ ?_
 ·exact fun a w h => h
 rintro _ _ w2 I2 G2 a2 ⟨rfl, rfl⟩ hs2 hd2 ht2;have z1 := hz.step hh ht1.toN;have z2 := z1.step hs1.hh ht2.toN;refine ⟨_, run_beginRound z2.hl r1, ?_⟩;have n2 := lR hs2.hh z2.hl rfl;have l2 := (Array.getElem?_eq_some_iff.1 z2.hl).1;have hs3 : SRel (w2.putObj l (.loop { rec with state := .busy })) I2 G2 _ _ 22 a2 := ⟨hs2.hh.off _ z2.nl n2, hs2.he.mono (Keeps.off z2.nl _) (.refl _ _), hs2.hn⟩;have hp3 : (w2.putObj l (.loop { rec with state := .busy })).heap[l]? = some (.loop { rec with state := .busy }) := World.putObj_heap_same l2;have hb : ∀ {c : Code} {Q a w}, c = iK (c6 Try.f60) -> Code.wpIn (wd (some l)) 0 qa (.block 1 (.region 5 (bL (gD (iK (c6 Try.f60)))) false)) Q a w -> Code.wpIn (wd (some l)) 0 qa c Q a w := fun e h => by rw [e, q2]; exact h
 refine hb r6 ?_
 have h5 : aR qa zH 22 (bL (gD (iK (c6 Try.f60)))).toList (bL (gD (iK (c6 Try.f60)))).toList ((7, .pv (.int .i64 i)) :: (6, .pv (.int .i64 f)) :: eO f i) (aM nl T (aA L)) (fun _ h' => ∃ L', YQ key L f i L' /\ h' = aM nl T (aA L')) := by
  rw [eA5, qb, qb];obtain ⟨c1, c2, c3⟩ := uJ L (show f <= i by omega) hil;have e : aA L = aA (L.take f ++ ((L.take i).drop f ++ L.drop i)) := congrArg aA c1;refine ⟨⟨by simp, by simp; omega, by simp; omega, trivial⟩, ?_⟩;rw [e];refine (zta hc f i nl (L.take f) ((L.take i).drop f) (L.drop i) c2 (by omega) (by rw [<- c1]; exact hr) (by omega)).mono ?_;rintro r h' ⟨S', rfl, rfl, s1, k1⟩;refine ⟨_, ⟨rfl, rfl⟩, ⟨trivial, ⟨rfl, rfl, ?_⟩, trivial⟩, _, ⟨S', rfl, s1, k1⟩, rfl⟩;have := k1.len;simp only [dS, qe]; omega
 refine wpIn_block ?_;show Code.wpIn (wd (some l)) 0 qa _ _ _ _;refine yM (H := zH) (ro := some l) (n := 0) (id := 5) q6 h5 hs3 ?_ ?_
 ·exact fun a w h => h
 rintro e4 _ w4 I4 G4 a4 ⟨L', hYQ, rfl⟩ hs4 hd4 ht4;have n3 := lR hs3.hh hp3 rfl;have hl4 : w4.heap[l]? = some (.loop { rec with state := .busy }) := (ht4.t.keep l (by rw [World.putObj_size]; exact l2) n3).trans hp3;have l4 := (Array.getElem?_eq_some_iff.1 hl4).1;have nI4 : ∀ b, ¬ I2 b -> ¬ aO (aM nl T (aA L)) G2 b -> b < w2.heap.size -> ¬ I4 b := fun b x y z h => (ht4.t.i2 b h).elim x fun h => h.elim y fun h => by rw [World.putObj_size] at h; omega
 have nl4 := nI4 l z2.nl n2 l2;have hDne : W0.heap.size ≠ l := by omega
 have nD2 := lR hs2.hh z2.hD rfl;have lD := (Array.getElem?_eq_some_iff.1 z2.hD).1
 have hrec : ({ { rec with state := .busy } with state := if (none : Option Code).isNone then .ready else .done, pending := none } : Loop) = rec := by
  cases rec; simp only at r1 r2; subst r1; subst r2; rfl
 have hrun := run_endRound (P := qa) none hl4;rw [hrec] at hrun
 have hLL : L'.length = L.length := by
  obtain ⟨S', rfl, s1, k1⟩ := hYQ;obtain ⟨c1, c2, c3⟩ := uJ L (show f <= i by omega) hil;have := k1.len;rw [qe, qe, c2, <- this, c3, qv]; omega
 have tB : TrN 5 W0 I0 G0 (aM nl T (aA L0)) (w4.putObj l (.loop rec)) I4 G4 (aM nl T (aA L')) := ((z2.t.off hWl _).trans ht4.toN).off hWl _;refine ⟨_, _, hrun, rfl, L', I4, G4, hYQ, hs4.hh.off _ nl4 (lR hs4.hh hl4 rfl), ?_, zby (by simp [hLL]) (fun o ho => (vH tB o ho).trans (vH hz.t o ho).symm), ⟨tB, World.putObj_heap_same l4, ?_, nl4, nI4 _ z2.nD nD2 lD⟩⟩
 ·have k1 := (r8 hh ht1.t).trans ht1.t.size (r8 hs1.hh ht2.t);have s2 := qai ht1.t.size ht2.t.size;have k2 := (k1.trans s2 (Keeps.off z2.nl (.loop { rec with state := .busy }))).trans (by rw [World.putObj_size]; exact s2) (r8 hs3.hh ht4.t);exact k2.trans (by have := ht4.t.size; rw [World.putObj_size] at this; omega) (Keeps.off nl4 _)
 ·rw [World.putObj_heap_other hDne];exact (ht4.t.keep _ (by rw [World.putObj_size]; exact lD) (lR hs3.hh ((World.putObj_heap_other hDne).trans z2.hD) rfl)).trans ((World.putObj_heap_other hDne).trans z2.hD)
end
end Go.Eng
set_option linter.constructorNameAsVariable false
namespace Go.Eng
open Go Go.Proofs
section
variable (nl fl : Bool) (es : LL)
def zjk (R : LV -> Hp -> Prop) : Prop :=
 if (bif true then nl else !nl) = true then R (LV.pv (PV.sl true true [])) [] else qG true [] es 1 4 /\ R (LV.own 0) [Ob.sl (21, 1) false false ([] ++ es)]
theorem zti {R : LV -> Hp -> Prop} (h : zjk nl es R) : ACall qa 37 [.pv (.sl nl fl es)] [] R :=
 ACall.wA Try.func37 aZ [0, 2, 4] bS h
end
section
variable (nl : Bool) (ts : List PV) (es : LL)
def ztj (R : LV -> Hp -> Prop) : Prop :=
 R (LV.fn 94 [LV.box 2 0, LV.box 1 0]) [Ob.sl (21, 1) false nl es, Ob.box [LV.pv (PV.ptr ts)], Ob.box [LV.own 0]]
theorem ztk {R : LV -> Hp -> Prop} (h : ztj nl ts es R) : ACall qa 80 [.pv (.ptr ts), .own 0] [.sl (21, 1) false nl es] R :=
 ACall.wz Try.func80 aZ [0, 1, 2, 3, 4] bS [0, 1, 2] h
end
end Go.Eng
namespace Go.Eng
open Go Go.Proofs Go.Eng.Rows Go.Eng.Srt
theorem ACall.nilOwn {P : Program} {f : Nat} {args : List LV} {Q Q' : LV -> Hp -> Prop} {ty : Nat × Nat} (hc : ACall P f args [] Q) (hq : ∀ r h', Q r h' -> Q' r h' ∨ ∃ fl, r = .pv (.sl true fl []) /\ h' = [] /\ Q' (.own 0) [.sl ty false true []]) : ACall P f args [] Q' :=
 ⟨hc.1, fun w I G cargs h1 h2 h3 => (hc.2 w I G cargs h1 h2 h3).mono fun e w' ⟨cv, r, h', I', G', e1, e2, e3, e4, e5⟩ => (hq r h' e2).elim (fun q => ⟨cv, r, h', I', G', e1, q, e3, e4, e5⟩) fun ⟨fl, hr, hh, q⟩ => by
  subst hr; subst hh;have hcv : cv = .slice none 0 0 := by cases e4 with | pv _ _ h => cases h; rfl
  subst hcv
  have one : ∀ {o : Nat} {ob : Ob}, [Ob.sl ty false true []][o]? = some ob -> ob = .sl ty false true [] := fun {o ob} h => by
   cases o with
   | zero => cases h; rfl
   | succ o => simp at h
  have dead : ∀ {p : Pl}, ¬ (Ob.sl ty false true []).alive p := fun h => by cases h.1
  have noB : ∀ b, ¬ aO [Ob.sl ty false true []] G' b := fun b ⟨o, ob, ho, ha, _⟩ => by rw [one ho] at ha; exact dead ha
  refine ⟨_, .own 0, [.sl ty false true []], I', G', e1, q, ⟨fun o ob ho => by rw [one ho]; rfl, fun o o' ob ob' ho ha => by rw [one ho] at ha; exact (dead ha).elim, fun o ob ho ha => by rw [one ho] at ha; exact (dead ha).elim, e3.cl⟩, .ownNil 0 ty false [] rfl, ?_, by simp, fun o ob' ho => by simp at ho⟩;have t := e5.t
  exact ⟨t.os, t.tape, t.output, t.size, t.keep, t.i1, t.i2, fun b hb => (noB b hb).elim, t.frz, t.drawn⟩⟩
theorem zbz (nl fl : Bool) (es : List (List PV)) (hn : nl = true -> es = []) (ha : qG true [] es 1 4) : ACall qa 37 [.pv (.sl nl fl es)] [] fun r h' => r = .own 0 /\ h' = [.sl (21, 1) false nl es] := by
 refine ACall.nilOwn (ty := (21, 1)) (Q := fun r h' => (nl = true /\ r = .pv (.sl true true []) /\ h' = []) ∨ (nl = false /\ r = .own 0 /\ h' = [.sl (21, 1) false nl es])) (zti nl fl es ?_) ?_
 ·unfold zjk;cases nl with
  | true => exact .inl ⟨rfl, rfl, rfl⟩
  | false => exact ⟨ha, .inr ⟨rfl, rfl, by simp⟩⟩
 ·rintro r h' (⟨rfl, rfl, rfl⟩ | ⟨rfl, rfl, rfl⟩)
  ·rw [hn rfl]; exact .inr ⟨true, rfl, rfl, rfl, rfl⟩
  ·exact .inl ⟨rfl, rfl⟩
theorem vI {P : Program} {n0 N : Nat} {c : Code} {e E : Env} {h Hh : Hp} (hS : CodeS P n0 N c e h fun x e' h' => x = .normal /\ e' = E /\ h' = Hh) {w : World} {I : Nat -> Prop} {G : Nat -> Pl} {a : Act} (hs : SRel w I G e h N a) {Q : Exit -> Act -> World -> Prop}
 (hq : ∀ w' I' G' a', SRel w' I' G' E Hh N a' -> a'.defers = a.defers -> TrN n0 w I G h w' I' G' Hh -> Q .normal a' w') : c.wp P Q a w :=
 hS w I G a Q hs fun x e' h' w' I' G' a' hk hs' hd ht => by obtain ⟨rfl, rfl, rfl⟩ := hk; exact hq w' I' G' a' hs' hd ht
section
variable {nl fl : Bool} {ts : List PV} {es : List (List PV)}
theorem eB0 (Q : Qt) : cH qa (fun _ => none) 0 22 [1, 2, 4] (fun _ => none) (cO0 Try.f60) (eT [.pv (.ptr ts), .pv (.sl nl fl es)] 0) [] Q = Q .normal [(1, .pv (.sl nl fl es)), (2, .box 0 0), (4, .pv (.sl true true []))] [.box [.pv (.ptr ts)]] := by kernel_rfl
theorem eB1 (Q : Qt) : cH qa zI 0 22 [2, 5] (fun _ => none) (cO1 Try.f60) [(1, .pv (.sl nl fl es)), (2, .box 0 0)] [.box [.pv (.ptr ts)]] Q =
 ACall qa 37 [.pv (.sl nl fl es)] [] fun (r : LV) (h' : Hp) => ∃ (_ : Unit), (r = .own 0 /\ h' = [.sl (21, 1) false nl es]) /\ True /\ Q .normal [(2, .box 0 0), (5, .box 2 0)] [.box [.pv (.ptr ts)], .sl (21, 1) false nl es, .box [.own 1]] := by kernel_rfl
theorem eB2 (Q : Qt) : cH qa zI 0 22 [2, 5, 12] (fun _ => none) (cO2 Try.f60) [(2, .box 0 0), (5, .box 2 0)] [.box [.pv (.ptr ts)], .sl (21, 1) false nl es, .box [.own 1]] Q =
 ACall qa 80 [.pv (.ptr ts), .own 0] [.sl (21, 1) false nl es] fun (r : LV) (h' : Hp) => ∃ (_ : Unit), (r = .fn 94 [.box 2 0, .box 1 0] /\ h' = [.sl (21, 1) false nl es, .box [.pv (.ptr ts)], .box [.own 0]]) /\
  ((((21, 1) : Nat × Nat) = (21, 1) /\ nl = nl /\ es.length = es.length) /\ True) /\ Q .normal [(2, .box 0 0), (5, .box 2 0), (12, .fn 94 [.box 4 0, .box 3 0])] (aM nl (.ptr ts) es) := by kernel_rfl
theorem eB6 (Q : Qt) : cH qa (fun _ => none) 5 22 [4] (fun _ => none) (cO6 Try.f60) [(2, .box 0 0), (5, .box 2 0)] (aM nl (.ptr ts) es) Q = Q .normal [(4, .own 1)] (aM nl (.ptr ts) es) := by kernel_rfl
theorem zb0 : cM Try.f60 = .seq (cO0 Try.f60) (.seq (cO1 Try.f60) (.seq (.seq (cO2 Try.f60) (.block 0 (c6 Try.f60))) (.seq (cO6 Try.f60) .ret))) /\ Try.f60.body = some (cM Try.f60) /\ Try.f60.ntmps = 22 /\
 Try.f94.body = some (cM Try.f94) /\ Try.f94.ntmps = 39 /\ Try.f60.results = #[.tmp 4] /\ Try.f94.results = #[] /\ Try.f60.body.isNone = false /\ (Try.f60.name == "runtime.NumGoroutine") = false /\ Try.f94.body.isNone = false /\ (Try.f94.name == "runtime.NumGoroutine") = false :=
 ⟨by kernel_rfl, by kernel_rfl, by kernel_rfl, by kernel_rfl, by kernel_rfl, by kernel_rfl, by kernel_rfl, by kernel_rfl, by kernel_rfl, by kernel_rfl, by kernel_rfl⟩
variable {key : Int -> Int}
theorem Tr.alloc0 {w : World} {I own : Nat -> Prop} (o : Obj) : Tr w I own (w.alloc o) I own :=
 ⟨rfl, rfl, rfl, by simp, fun b hb _ => dA w o hb, fun _ h => h, fun _ h => .inl h, fun _ h => .inl h, fun a ha => World.frozen?_of_block (dA w o ha), qi _⟩
theorem KA.alloc0 (w : World) (o : Obj) : KA w (w.alloc o) := ⟨by simp, fun b hb => dA w o hb⟩
theorem ztl (hk : ∀ x, 0 <= key x) (hT : ∀ r : Int, (-2147483648 <= r /\ r <= 2147483647) -> PCall qa 56 [.ptr ts, .int .i32 r] fun v => v = .int .i64 (key r)) (hc : kI (.ptr ts) key) (L : List Int) (hr : R32 L) (hL : L.length < 1000000000000)
 {w3 : World} {I3 : Nat -> Prop} {G3 : Nat -> Pl} {a3 : Act} {v12 : LV} (hs3 : SRel w3 I3 G3 [(2, .box 0 0), (5, .box 2 0), (12, v12)] (aM nl (.ptr ts) (aA L)) 22 a3) (rec : Loop) (r1 : rec.state = .ready) (r2 : rec.pending = none) (r3 : rec.tmps = a3.tmps) (r4 : rec.params = #[13, 14])
 (r5 : rec.assign = iJ (c6 Try.f60)) (r6 : rec.body = iK (c6 Try.f60)) (vs : Array Value) (hvsz : vs.size = 2) (hvs : ∀ (k : Nat) v, [LV.box 4 0, LV.box 3 0][k]? = some v -> LRel w3 I3 G3 (aM nl (.ptr ts) (aA L)) v (vs.getD k undef)) :
 Calls qa 94 (#[Value.func (.yield (w3.heap.size + 1)) #[] #[]] ++ vs) ((w3.alloc (.deferred (some []))).alloc (.loop rec)) fun e w4 => (∃ v, e = .returned v) /\ ∃ I4 G4, HRel w4 I4 G4 (aM nl (.ptr ts) (aA (cQ key L))) /\
  ZR w3 I3 G3 (aM nl (.ptr ts) (aA L)) (w3.heap.size + 1) w3.heap.size rec w4 I4 G4 (aM nl (.ptr ts) (aA (cQ key L))) := by
 obtain ⟨k1, k2, k3, k4, k5, k6, k7, k8, k9, k10, k11⟩ := zb0;obtain ⟨W1, hW1⟩ : ∃ W1, W1 = (w3.alloc (.deferred (some []))).alloc (.loop rec) := ⟨_, rfl⟩;rw [<- hW1];have tA : Tr w3 I3 (aO (aM nl (.ptr ts) (aA L)) G3) W1 I3 (aO (aM nl (.ptr ts) (aA L)) G3) := by rw [hW1]; exact (Tr.alloc0 _).trans (Tr.alloc0 _)
 have ka : KA w3 W1 := by rw [hW1]; exact (KA.alloc0 _ _).trans (KA.alloc0 _ _)
 have hl1 : W1.heap[w3.heap.size + 1]? = some (.loop rec) := by rw [hW1]; have := World.alloc_heap_new (w3.alloc (.deferred (some []))) (.loop rec); rwa [World.size_alloc] at this
 have hD1 : W1.heap[w3.heap.size]? = some (.deferred (some [])) := by rw [hW1]; exact (dA _ _ (by simp)).trans (World.alloc_heap_new w3 _)
 have z1 : ZR w3 I3 G3 (aM nl (.ptr ts) (aA L)) (w3.heap.size + 1) w3.heap.size rec W1 I3 G3 (aM nl (.ptr ts) (aA L)) := ⟨(TrH.same tA).toN, hl1, hD1, fun h => by have := hs3.hh.cl _ h; omega, fun h => by have := hs3.hh.cl _ h; omega⟩;have hRd := zth hc hs3 rec r1 r2 r3 r4 r5 r6;have hwalk := ztg hk hT (fun w I G h w' I' G' h' z hh _ t => z.step hh t) L hRd hr hL
 have hsW : SRel W1 I3 G3 (eT [.pv (.raw (Value.func (.yield (w3.heap.size + 1)) #[] #[])), .box 4 0, .box 3 0] 0) (aM nl (.ptr ts) (aA L)) 39 { tmps := (#[Value.func (.yield (w3.heap.size + 1)) #[] #[]] ++ vs) ++ qad (39 - (#[Value.func (.yield (w3.heap.size + 1)) #[] #[]] ++ vs).size) undef, defers := [] } := by
  obtain ⟨y, hy⟩ : ∃ y, y = Value.func (.yield (w3.heap.size + 1)) #[] #[] := ⟨_, rfl⟩;rw [<- hy]
  obtain ⟨x0, x1, rfl⟩ : ∃ x0 x1, vs = #[x0, x1] := by
   obtain ⟨l⟩ := vs
   match l, hvsz with
   | [a, b], _ => exact ⟨a, b, rfl⟩
  have hk : Keeps w3 I3 W1 I3 := ⟨fun b _ hb => ka.2 b hb, fun b hb _ => hb⟩;have h1 := (hvs 0 _ rfl).mono hk (.refl _ _);have h2 := (hvs 1 _ rfl).mono hk (.refl _ _);have e0 : ∀ r : Array Value, (#[y] ++ #[x0, x1] ++ r).getD 0 undef = y := fun r => by rw [qh, qr (by simp)]; rfl
  have e1 : ∀ r : Array Value, (#[y] ++ #[x0, x1] ++ r).getD 1 undef = x0 := fun r => by rw [qh, qr (by simp)]; rfl
  have e2 : ∀ r : Array Value, (#[y] ++ #[x0, x1] ++ r).getD 2 undef = x1 := fun r => by rw [qh, qr (by simp)]; rfl
  refine ⟨hs3.hh.ka ka, ?_, by simp⟩
  have he : ERel W1 I3 G3 (aM nl (.ptr ts) (aA L)) [(0, .pv (.raw y)), (1, .box 4 0), (2, .box 3 0)] (#[y] ++ #[x0, x1] ++ qad (39 - (#[y] ++ #[x0, x1]).size) undef) :=
   ((ERel.nil _ _ _ _ _).cons (s := 2) (v := .box 3 0) (by rw [e2]; exact h2)).cons (s := 1) (v := .box 4 0) (by rw [e1]; exact h1) |>.cons (s := 0) (v := .pv (.raw y)) (by rw [e0]; exact .pv _ _ (.raw _))
  exact he
 refine calls_of_wp Try.func94 k4 ?_;rw [k5];refine hwalk W1 I3 G3 _ _ hsW z1 ?_;rintro x e' _ w4 I4 G4 a4 ⟨rfl, rfl⟩ hs4 hd4 z4;exact ⟨hd4, _, results_none k7 _ _ _, ⟨_, rfl⟩, I4, G4, hs4.hh, z4⟩
theorem ztm (hk : ∀ x, 0 <= key x) (L : List Int) {w w3 w4 : World} {I I3 I4 : Nat -> Prop} {G G3 G4 : Nat -> Pl} {a3 : Act} {v12 : LV} (hs3 : SRel w3 I3 G3 [(2, .box 0 0), (5, .box 2 0), (12, v12)] (aM nl (.ptr ts) (aA L)) 22 a3) (hd30 : a3.defers = []) {rec : Loop}
 (ht3 : Tr w I (aO [] G) w3 I3 (aO (aM nl (.ptr ts) (aA L)) G3)) (hh4 : HRel w4 I4 G4 (aM nl (.ptr ts) (aA (cQ key L)))) (z4 : ZR w3 I3 G3 (aM nl (.ptr ts) (aA L)) (w3.heap.size + 1) w3.heap.size rec w4 I4 G4 (aM nl (.ptr ts) (aA (cQ key L)))) :
 (Code.seq (cO6 Try.f60) .ret).wp qa (bodyPostM Fence.wide 0 qa Try.f60 fun e w' => ∃ cv r h' I' G', e = .returned cv /\ (r = .own 0 /\ h' = [.sl (21, 1) false nl (aA (cQ key L))]) /\ HRel w' I' G' h' /\ LRel w' I' G' h' r cv /\ TrH w I G [] w' I' G' h')
  { tmps := a3.tmps, defers := [{ target := .collected w3.heap.size, args := #[] }] ++ a3.defers } (w4.putObj (w3.heap.size + 1) (.loop { rec with state := .exhausted })) := by
 obtain ⟨k1, k2, k3, k4, k5, k6, k7, k8, k9, k10, k11⟩ := zb0;have hll := (uI (key := key) hk L).len;have n4 := lR hh4 z4.hl rfl;have l4 := (Array.getElem?_eq_some_iff.1 z4.hl).1
 have z5 : ZR w3 I3 G3 (aM nl (.ptr ts) (aA L)) (w3.heap.size + 1) w3.heap.size { rec with state := .exhausted } (w4.putObj (w3.heap.size + 1) (.loop { rec with state := .exhausted })) I4 G4 (aM nl (.ptr ts) (aA (cQ key L))) :=
  ⟨z4.t.off (by omega) _, World.putObj_heap_same l4, (World.putObj_heap_other (by omega)).trans z4.hD, z4.nl, z4.nD⟩
 have hs5 : SRel (w4.putObj (w3.heap.size + 1) (.loop { rec with state := .exhausted })) I4 G4 [(2, .box 0 0), (5, .box 2 0)] (aM nl (.ptr ts) (aA (cQ key L))) 22 { tmps := a3.tmps, defers := [{ target := .collected w3.heap.size, args := #[] }] ++ a3.defers } :=
  ⟨hh4.off _ z4.nl n4, fun i v hi => ((hs3.he.mono (r8 hs3.hh z4.t.t) (zby (by simp [hll]) (vH z4.t))).mono (Keeps.off z4.nl _) (.refl _ _)) i v ((LeE.le (e' := [(2, .box 0 0), (5, .box 2 0)]) ⟨rfl, rfl, trivial⟩) i v hi), hs3.hn⟩
 refine wp_seq (vI (E := [(4, .own 1)]) (Hh := aM nl (.ptr ts) (aA (cQ key L))) (dQ (Eq.mpr (eB6 _) ⟨rfl, rfl, rfl⟩)) hs5 fun w6 I6 G6 a6 hs6 hd6 ht6 => ?_);have z6 := z5.step hs5.hh ht6;refine wp_ret ?_;show LeavesInM Fence.wide 0 qa _ a6.tmps _ a6.defers .returning w6;rw [hd6, hd30];refine ⟨by simp, .inl ⟨_, _, rfl, run_takeDeferred z6.hD, ?_⟩⟩;refine ⟨_, results_tmp k6 _ _ _, ?_⟩;have hh7 := hs6.hh.off (.deferred none) z6.nD (lR hs6.hh z6.hD rfl);have hv7 : LRel (w6.putObj w3.heap.size (.deferred none)) I6 G6 (aM nl (.ptr ts) (aA (cQ key L))) (.own 1) (a6.tmps.getD 4 undef) := LRel.mono (hs6.he 4 _ rfl) (Keeps.off z6.nD (.deferred none)) (.refl _ _);have hs7 : SRel (w6.putObj w3.heap.size (.deferred none)) I6 G6 [(4, .own 1)] (aM nl (.ptr ts) (aA (cQ key L))) 22 a6 := ⟨hh7, (ERel.nil _ _ _ _ _).cons (s := 4) (v := .own 1) hv7, hs6.hn⟩;obtain ⟨s1, s2⟩ := hs7.sub [1] [] rfl;have g2 := LRel.mapV (qR (os := [1])) (Keeps.refl _ _) hv7;have ht := (ht3.trans z6.t.t).off (l := w3.heap.size) ht3.size (.deferred none);exact ⟨_, .own 0, _, I6, _, rfl, ⟨rfl, rfl⟩, s1.hh, g2, ⟨ht.trans (Tr.less s2), qz _, fun o ob ho => by simp at ho⟩⟩
theorem ztn (hk : ∀ x, 0 <= key x) (hT : ∀ r : Int, (-2147483648 <= r /\ r <= 2147483647) -> PCall qa 56 [.ptr ts, .int .i32 r] fun v => v = .int .i64 (key r)) (hc : kI (.ptr ts) key) (L : List Int) (hr : R32 L) (hL : L.length < 1000000000000) :
 ACall qa 60 [.pv (.ptr ts), .pv (.sl nl fl (aA L))] [] fun r h' => r = .own 0 /\ h' = [.sl (21, 1) false nl (aA (cQ key L))] := by
 obtain ⟨k1, k2, k3, k4, k5, k6, k7, k8, k9, k10, k11⟩ := zb0;refine ⟨⟨_, Try.func60, k8, k9⟩, fun w I G cargs hh hsz hrel => ?_⟩;simp only [qc, qw, qae] at hsz
 have hn : nl = true -> L = [] := fun hn => by
  subst hn;have h1 := hrel 1 _ rfl;generalize cargs.getD 1 undef = c1 at h1;cases h1 with
  | pv _ _ h1 =>
    generalize hes : aA L = es at h1;cases h1 with
    | slnil => exact List.map_eq_nil_iff.1 hes
 refine (callsIn_wide (n := 0)).1 (callsIn_of_wp_marks Try.func60 k2 trivial (wpIn_wide.2 ?_));rw [k3]
 have hs : SRel w I G (eT [.pv (.ptr ts), .pv (.sl nl fl (aA L))] 0) [] 22 { tmps := cargs ++ qad (22 - cargs.size) undef, defers := [] } := by
  refine ⟨hh, fun i v hi => ?_, by simp; omega⟩;obtain ⟨_, h2⟩ := oX hi;rw [Nat.sub_zero] at h2;have hlt : i < cargs.size := by have := (List.getElem?_eq_some_iff.1 h2).1; simp at this; omega
  have := hrel i v h2
  have e1 : (cargs ++ qad (22 - cargs.size) undef).getD i undef = cargs.getD i undef := by
   rw [qh, qh, qr hlt]
  simp only [e1];exact VRel.of_plain this
 rw [k1]
 -- what begins it
 refine wp_seq (vI (E := [(1, .pv (.sl nl fl (aA L))), (2, .box 0 0), (4, .pv (.sl true true []))]) (Hh := [.box [.pv (.ptr ts)]]) (dQ (Eq.mpr (eB0 _) ⟨rfl, rfl, rfl⟩)) hs fun w1 I1 G1 a1 hs1 hd1 ht1 => ?_);have hs1' := hs1.le (LeE.le (e' := [(1, .pv (.sl nl fl (aA L))), (2, .box 0 0)]) ⟨rfl, rfl, trivial⟩);refine wp_seq (vI (E := [(2, .box 0 0), (5, .box 2 0)]) (Hh := [.box [.pv (.ptr ts)], .sl (21, 1) false nl (aA L), .box [.own 1]]) (dQ (Eq.mpr (eB1 _) ((zbz nl fl (aA L) (fun h => by rw [hn h]; rfl) ?_).mono fun r h' hq => ⟨(), hq, trivial, rfl, rfl, rfl⟩))) hs1' fun w2 I2 G2 a2 hs2 hd2 ht2 => ?_)
 ·exact ⟨rfl, .inl rfl, fun e he => (by cases he), fun e he => by obtain ⟨x, _, rfl⟩ := List.mem_map.1 (List.mem_of_mem_head? he); rfl, by simp; omega⟩
 refine wp_seq (wp_seq (vI (E := [(2, .box 0 0), (5, .box 2 0), (12, .fn 94 [.box 4 0, .box 3 0])]) (Hh := aM nl (.ptr ts) (aA L)) (dQ (Eq.mpr (eB2 _) (ztk nl ts (aA L) ?_))) hs2 fun w3 I3 G3 a3 hs3 hd3 ht3 => ?_))
 ·exact ⟨(), ⟨rfl, rfl⟩, ⟨⟨rfl, rfl, rfl⟩, trivial⟩, rfl, rfl, rfl⟩
 -- the loop
 have hd30 : a3.defers = [] := hd3.trans (hd2.trans hd1);obtain ⟨q1, q2, q3, _, _, _⟩ := zjj;refine wp_block ?_;rw [q3]
 obtain ⟨vs, hv12, hvsz, hvs⟩ : ∃ vs : Array Value, a3.tmps.getD 12 undef = .func (.func 94) #[] vs /\ vs.size = 2 /\ ∀ (k : Nat) v, [LV.box 4 0, LV.box 3 0][k]? = some v -> LRel w3 I3 G3 (aM nl (.ptr ts) (aA L)) v (vs.getD k undef) := by
  have := hs3.he 12 _ rfl;generalize a3.tmps.getD 12 undef = cv at this;cases this with
  | fn f cs vs h1 h6 => exact ⟨vs, rfl, h1, h6⟩
 refine (wpIn_wide (n := 0)).1 (wpIn_rangeFunc (F := Fence.wide) fun fn _ => ?_);obtain ⟨rec, hrec⟩ : ∃ rec : Loop, rec = { state := .ready, pending := none, fn := fn, tmps := a3.tmps, params := #[13, 14], assign := iJ (c6 Try.f60), body := iK (c6 Try.f60), defers := w3.heap.size } := ⟨_, rfl⟩
 refine ⟨w3.heap.size + 1, [{ target := .collected w3.heap.size, args := #[] }], (w3.alloc (.deferred (some []))).alloc (.loop rec), { target := .fn (.func 94) vs, args := #[.func (.yield (w3.heap.size + 1)) #[] #[]] }, (w3.alloc (.deferred (some []))).alloc (.loop rec), 94,
  #[.func (.yield (w3.heap.size + 1)) #[] #[]] ++ vs, (w3.alloc (.deferred (some []))).alloc (.loop rec), ?_, ?_, fun _ _ => trivial, ?_, fun x => (by cases x), ?_⟩
 ·rw [hrec]; exact run_enterLoop_outer _ _ _ _ _
 ·have he : a3.eval (.tmp 12) = .func (.func 94) #[] vs := hv12;simp only [resolve, he];simp [go_sem]
 ·simp only [invoke];exact wN ⟨_, Try.func94, k10, k11⟩
 refine (callsIn_wide).2 (Calls.mono (ztl hk hT hc L hr hL hs3 rec (by rw [hrec]) (by rw [hrec]) (by rw [hrec]) (by rw [hrec]) (by rw [hrec]) (by rw [hrec]) vs hvsz hvs) ?_);rintro e w4 ⟨⟨v, rfl⟩, I4, G4, hh4, z4⟩;have hp : rec.pending = none := by rw [hrec]
 refine ⟨none, _, (run_endLoop z4.hl (by rw [hrec]; simp)).trans (congrArg (fun j => Result.ok j _) hp), ?_⟩;exact ztm hk L hs3 hd30 ((ht1.t.trans ht2.t).trans ht3.t) hh4 z4
end
end Go.Eng
namespace Go.Eng
open Go Go.Proofs Go.Eng.Rows
def iO (nl : Bool) (E : LL) : Hp := [.sl (33, 3) true nl E, .dead]
section
variable {E C : LL} {nn fl nl : Bool} {k n : Int}
theorem zto (K : Env -> Hp -> Prop) : aR qa (fun _ => none) 49 (pE Try.f19).toList (pE Try.f19).toList (gE nn fl C k) (iO nl E) K = K ((6, .pv (.sl true true [])) :: gE nn fl C k) (iO nl E) := by kernel_rfl
theorem ztp (K : Env -> Hp -> Prop) : aR qa (fun _ => none) 49 (pF Try.f19).toList (pF Try.f19).toList (gE nn fl C k) (iO nl E) K =
 K ((7, .pv (.int .i64 (i64.wrap ((E.length : Int) - 1)))) :: (10, .pv (.int .i64 (i64.wrap ((E.length : Int) - 1)))) :: (9, .pv (.int .i64 (E.length : Int))) :: (8, .own 0) :: gE nn fl C k) (iO nl E) := by kernel_rfl
theorem ztq (K : Env -> Hp -> Prop) : aR qa (fun _ => none) 49 (pG Try.f19).toList (pG Try.f19).toList (gG nn fl C k n) (iO nl E) K =
 if decide (n >= 0) = true then aP E n 3 /\ ∃ n1 : Int, (qf 0 (E.getD n.toNat [])).head? = some (.int .i64 n1) /\
  K ((21, .pv (.bool (n1 == k))) :: (20, .spec 13 true (.pv (.bool (n1 == k)))) :: (19, .spec 13 true (.pv (.int .i64 k))) :: (18, .pv (.int .i64 n1)) :: (13, .pv (.bool true)) :: (17, .elt 0 n.toNat 0) :: (13, .pv (.bool true)) :: (16, .elt 0 n.toNat 0) :: (13, .pv (.bool true)) ::
   (15, .spec 13 true (.pv (.int .i64 n))) :: (14, .spec 13 true (.own 0)) :: (13, .pv (.bool (decide (n >= 0)))) :: (12, .pv (.bool (decide (n >= 0)))) :: (11, .pv (.int .i64 n)) :: gG nn fl C k n) (iO nl E)
 else K ((21, .pv (.bool false)) :: (20, .pv .unit) :: (13, .pv (.bool false)) :: (19, .spec 13 true (.pv (.int .i64 k))) :: (18, .pv .unit) :: (13, .pv (.bool false)) :: (17, .pv .unit) :: (13, .pv (.bool false)) :: (16, .pv .unit) :: (13, .pv (.bool false)) ::
  (15, .spec 13 true (.pv (.int .i64 n))) :: (14, .spec 13 true (.own 0)) :: (13, .pv (.bool (decide (n >= 0)))) :: (12, .pv (.bool (decide (n >= 0)))) :: (11, .pv (.int .i64 n)) :: gG nn fl C k n) (iO nl E) := by kernel_rfl
theorem ztr (K : Env -> Hp -> Prop) : aR qa zI 49 (nJ Try.f19).toList (((nJ Try.f19).toList.drop 0).take 4) (gE nn fl C k) (iO nl E) K =
 ACall qa 37 [.pv (.sl nn fl C)] [] fun r h' => ∃ _ : Unit, (r = .own 0 /\ h' = [.sl (21, 1) false nn C]) /\ True /\
  K ((45, .own 2) :: (44, .pv (.sl nn fl C)) :: (43, .pv (.int .i64 k)) :: (42, .own 0) :: gE nn fl C k) [.sl (33, 3) true nl E, .dead, .sl (21, 1) false nn C] := by kernel_rfl
def jF (m nl : Bool) (E C : LL) : Hp := [.sl (33, 3) m nl E, .dead, .sl (21, 1) false false C]
theorem zts (ad : Addr) (l c : Nat) (K : Env -> Hp -> Prop) : aR qa (fun _ => none) 49 (nJ Try.f19).toList (((nJ Try.f19).toList.drop 4).take 4) [(45, .pv (.raw (.slice (some ad) l c))), (42, .own 0), (43, .pv (.int .i64 k))] (jF true nl E C) K =
 ((bC [[.int .i64 k, .int .i64 1, .raw (.slice (some ad) l c)]] 3 /\ (E.length + 1) * 40 <= 140737488355328) /\
   K [(6, .own 0), (48, .own 0), (47, .pv (.sl false true [[.int .i64 k, .int .i64 1, .raw (.slice (some ad) l c)]])), (46, .pv (.agg [.int .i64 k, .int .i64 1, .raw (.slice (some ad) l c)])), (45, .pv (.raw (.slice (some ad) l c))), (42, .bot), (43, .pv (.int .i64 k))]
    (jF true (nl && false) (E ++ [[.int .i64 k, .int .i64 1, .raw (.slice (some ad) l c)]]) C)) := by kernel_rfl
theorem zjl : (nJ Try.f19).size = 8 /\ Try.f19.results.toList = [.tmp 6] /\ mR qa 19 :=
 ⟨by kernel_rfl, by kernel_rfl, ⟨Try.f19, Try.func19, by kernel_rfl, by kernel_rfl⟩⟩
end
theorem ztt {w : World} {I : Nat -> Prop} {nn fl : Bool} {es : LL} {cv : Value} (h : Rep w I (.sl nn fl es) cv) (hne : es ≠ []) : nn = false := by
 cases h <;> first | rfl | exact absurd rfl hne
theorem ztu {w : World} {I : Nat -> Prop} {G : Nat -> Pl} {S : List DStep} {x v : Value} (r : lK 33 21 S x v w I G) : ∃ I2 nl, (nl = true -> S = []) /\ HRel w I2 G (iO nl (S.map aN)) /\ LRel w I2 G (iO nl (S.map aN)) (.own 0) v /\ TrH w I G (eI 33 21 S x) w I2 G (iO nl (S.map aN)) := by
 rcases pD S with rfl | ⟨S, s, rfl⟩
 ·exact ⟨I, true, fun _ => rfl, r.hh, r.hv, .refl _ _ _ _⟩
 ·obtain ⟨I2, g1, g2, g3⟩ := zgr r;refine ⟨I2, false, (fun h => by cases h), ?_⟩;rw [qaf];exact ⟨g1, g2, g3⟩
theorem ztv {w : World} {I : Nat -> Prop} {G : Nat -> Pl} {nl : Bool} {E C : LL} (hh : HRel w I G (jF true nl E C)) : ∃ G', HRel w I G' [.sl (33, 3) true nl E, .sl (21, 1) true false C] /\ (∀ v, LRel w I G (jF true nl E C) (.own 0) v -> LRel w I G' [.sl (33, 3) true nl E, .sl (21, 1) true false C] (.own 0) v) /\
 (∀ v, LRel w I G (jF true nl E C) (.own 2) v -> LRel w I G' [.sl (33, 3) true nl E, .sl (21, 1) true false C] (.own 1) v) /\ ∀ b, aO [.sl (33, 3) true nl E, .sl (21, 1) true false C] G' b -> aO (jF true nl E C) G b := by
 refine ⟨fun k => match k with | 0 => G 0 | _ => G 2, ⟨fun i x hx => ?_, fun i j x y hx ax hy ay hb => ?_, fun i x hx ax => ?_, hh.cl⟩, fun v hv => ?_, fun v hv => ?_, ?_⟩
 ·match i, hx with
  | 0, hx => cases hx; have := hh.obs 0 _ rfl; cases nl <;> exact this
  | 1, hx => cases hx; exact hh.obs 2 _ rfl
 ·match i, hx, j, hy with
  | 0, hx, 0, hy => rfl
  | 1, hx, 1, hy => rfl
  | 0, hx, 1, hy => cases hx; cases hy; exact absurd (hh.sep 0 2 _ _ rfl ax rfl ay hb) (by decide)
  | 1, hx, 0, hy => cases hx; cases hy; exact absurd (hh.sep 2 0 _ _ rfl ax rfl ay hb) (by decide)
 ·match i, hx with
  | 0, hx => cases hx; exact hh.nI 0 _ rfl ax
  | 1, hx => cases hx; exact hh.nI 2 _ rfl ax
 ·cases hv with
  | ownNil _ _ _ _ g1 => cases g1; exact .ownNil 0 _ _ _ rfl
  | own _ _ _ es ad g0 g1 => cases g1; exact .own 0 _ _ _ ad g0 rfl
 ·cases hv with
  | ownNil _ _ _ _ g1 => cases g1
  | own _ _ _ es ad g0 g1 => cases g1; exact .own 1 _ _ _ ad g0 rfl
 ·rintro b ⟨o, ob, h1, h2, h3⟩
  match o, h1 with
  | 0, h1 => cases h1; exact ⟨0, _, rfl, h2, h3⟩
  | 1, h1 => cases h1; exact ⟨2, _, rfl, h2, h3⟩
theorem zjm (S : List DStep) (x v cv : Value) (k : Int) (c : List Int) (nn fl : Bool) {w : World} {I : Nat -> Prop} {G : Nat -> Pl} (r : lK 33 21 S x v w I G) (hc : Rep w I (.sl nn fl (aA c)) cv) (hne : c ≠ []) (hcl : c.length < 1000000000) (hS : S.length < 1000000000)
 (hk : ∀ S' s, S = S' ++ [s] -> s.kind ≠ k) :
 Calls qa 19 #[v, .int .i64 k, cv] w fun e w' => ∃ v' x' I' G', e = .returned v' /\ lK 33 21 (S ++ [⟨k, 1, c⟩]) x' v' w' I' G' /\ TrH w I G (eI 33 21 S x) w' I' G' (eI 33 21 (S ++ [⟨k, 1, c⟩]) x') := by
 obtain ⟨I0, nl, hnl, hh, hv, t0⟩ := ztu r;have hnn : nn = false := ztt hc (by cases c with | nil => exact absurd rfl hne | cons => simp [aA])
 subst hnn;have hc : Rep w I0 (.sl false fl (aA c)) cv := hc.mono (fun _ _ _ => rfl) (fun b hb _ => t0.t.i1 b hb);obtain ⟨q0, q1, q2, q3, q4, q5, q6⟩ := zgu;obtain ⟨z1, z2, z3⟩ := zjl;refine yN (args := [.own 0, .pv (.int .i64 k), .pv (.sl false fl (aA c))]) Try.func19 zgt (qal (by kernel_rfl)) hh rfl (fun i u hi => ?_) fun a Qx hs hd hq => ?_
 ·match i, hi with
  | 0, hi => cases hi; exact hv
  | 1, hi => cases hi; exact .pv _ _ (.int _ _)
  | 2, hi => cases hi; exact .pv _ _ hc
 have hs : SRel w I0 G (gE false fl (aA c) k) (iO nl (S.map aN)) 49 a := hs;refine wp_seq (mC q0 (by rw [zto]; exact ⟨rfl, rfl⟩ : aR qa (fun _ => none) 49 _ _ _ _ (fun e' h' => e' = _ /\ h' = _)) hs ?_);rintro _ _ w1 I1 G1 a1 ⟨rfl, rfl⟩ hs1 hd1 ht1;refine wp_seq (wp_seq (mC q1 (by rw [ztp, qc]; exact ⟨rfl, rfl⟩ : aR qa (fun _ => none) 49 _ _ _ _ (fun e' h' => e' = _ /\ h' = _)) (hs1.le (e' := gE false fl (aA c) k) (LeE.le ⟨rfl, rfl, rfl, trivial⟩)) ?_));rintro _ _ w2 I2 G2 a2 ⟨rfl, rfl⟩ hs2 hd2 ht2;have hw : i64.wrap ((S.length : Int) - 1) = (S.length : Int) - 1 := aD (by omega) (by omega);rw [hw] at hs2;have hs2 := hs2.le (e' := gG false fl (aA c) k ((S.length : Int) - 1)) (LeE.le ⟨rfl, rfl, rfl, rfl, trivial⟩)
 refine wp_seq (mC q2 (K := fun e' h' => ∃ e0, e' = (21, .pv (.bool false)) :: e0 /\ LeE (gG false fl (aA c) k ((S.length : Int) - 1)) e' /\ h' = iO nl (S.map aN)) (by
  rw [ztq];rcases pD S with rfl | ⟨S', s, rfl⟩
  ·rw [if_neg (by simp)];exact ⟨_, rfl, ⟨rfl, rfl, rfl, rfl, trivial⟩, rfl⟩
  ·have hl : ((S' ++ [s]).length : Int) - 1 = (S'.length : Nat) := by simp
   rw [hl, if_pos (by simp), qb, qaf];have hg := uX (S'.map aN) (aN s) [];rw [qc] at hg;refine ⟨zK _ _ _ (by simp) rfl, s.kind, by show (qf 0 ((S'.map aN ++ [aN s]).getD S'.length [])).head? = _; rw [hg]; rfl, ?_⟩;have hb : (s.kind == k) = false := by simpa using hk S' s rfl
   rw [hb]
   exact ⟨_, rfl, ⟨rfl, rfl, rfl, rfl, trivial⟩, rfl⟩) hs2 ?_)
 rintro _ _ w3 I3 G3 a3 ⟨e0, rfl, le0, rfl⟩ hs3 hd3 ht3;refine wp_cond (show a3.eval (.tmp 21) = .bool false from (hs3.he 21 _ rfl).bool_eq) ?_;have hs3 := (hs3.le le0.le).le (e' := gE false fl (aA c) k) (LeE.le ⟨rfl, rfl, rfl, trivial⟩);refine wp_skip ?_;have t3 := ((t0.trans ht1).trans ht2).trans ht3
 refine wp_seq (rG (Φ := fun a' w' => ∃ x' I' G', SRel w' I' G' [(6, .own 0)] (jF true false (S.map aN ++ [bF ⟨k, 1, c⟩ x']) (aA c)) 49 a' /\ LRel w' I' G' (jF true false (S.map aN ++ [bF ⟨k, 1, c⟩ x']) (aA c)) (.own 2) x' /\ a'.defers = [] /\
  Tr w I (aO (eI 33 21 S x) G) w' I' (aO (jF true false (S.map aN ++ [bF ⟨k, 1, c⟩ x']) (aA c)) G')) ?_ ?_)
 ·refine OpsN.step q6 4 (by rw [z1]; omega) (K := fun e' h' => LeE [(45, .own 2), (42, .own 0), (43, .pv (.int .i64 k))] e' /\ h' = jF true nl (S.map aN) (aA c)) (by
   rw [ztr];refine (zbz false fl (aA c) (fun h => by cases h) ?_).mono ?_
   ·show qG true [] (aA c) 1 4;exact ⟨rfl, .inl rfl, fun e he => (by cases he), o0 (enc := fun n => [.int .i32 n]) (fun _ => rfl) c, by rw [zL, qae]; omega⟩
   ·rintro r h' ⟨rfl, rfl⟩
    exact ⟨(), ⟨rfl, rfl⟩, trivial, ⟨rfl, rfl, rfl, trivial⟩, rfl⟩) hs3 ?_
  rintro e4 _ w4 I4 G4 a4 ⟨le4, rfl⟩ hs4 hd4 ht4;have hs4 := hs4.le le4.le;have hx4 : LRel w4 I4 G4 (jF true nl (S.map aN) (aA c)) (.own 2) (a4.tmps.getD 45 undef) := hs4.he 45 _ rfl;obtain ⟨ad, l, c0, ex⟩ := zgs hx4 rfl;rw [ex] at hx4;have hs5 := (hs4.view (d := 45) (v := .pv (.raw (.slice (some ad) l c0))) (by rw [ex]; exact .pv _ _ (.raw _))).le (e' := [(45, .pv (.raw (.slice (some ad) l c0))), (42, .own 0), (43, .pv (.int .i64 k))]) (LeE.le ⟨rfl, rfl, rfl, trivial⟩)
  refine OpsN.step (k := 0 + 4) q6 4 (by rw [z1]; omega) (K := fun e' h' => LeE [(6, .own 0)] e' /\ h' = jF true false (S.map aN ++ [bF ⟨k, 1, c⟩ (.slice (some ad) l c0)]) (aA c)) (by
   rw [zts];refine ⟨⟨fun e he => by cases he; rfl, by rw [qc]; omega⟩, ⟨rfl, trivial⟩, ?_⟩
   rw [Bool.and_false]; rfl) hs5 ?_
  rintro e6 _ w6 I6 G6 a6 ⟨le6, rfl⟩ hs6 hd6 ht6;refine OpsN.last (by rw [z1]; omega) ⟨_, I6, G6, hs6.le le6.le, mD hx4 rfl rfl rfl ht6, ?_, ((t3.trans ht4).trans ht6).t⟩;rw [hd6, hd4, hd3, hd2, hd1, hd]
 rintro a8 w8 ⟨x', I8, G8, hs8, hx8, hd8, t8⟩;obtain ⟨u, hu, cv', g1, g2⟩ := oW (P := qa) (fn := Try.f19) (K := fun u => u = .own 0) hs8.hh hs8.he (by rw [z2]; exact rfl);subst hu;obtain ⟨G9, p1, p2, p3, p4⟩ := ztv hs8.hh;refine wp_ret ((hq a8 w8 hd8 ⟨cv', g1, cv', x', I8, G9, rfl, ⟨?_, ?_, fun _ => ?_⟩, ⟨?_, ?_, fun o ob' ho h1 h2 => ?_⟩⟩).2)
 ·rw [jB]; exact p1
 ·rw [jB]; exact p2 _ g2
 ·rw [jB]; exact p3 _ hx8
 ·rw [jB]; exact t8.trans (Tr.less p4)
 ·rw [jB];rcases pD S with rfl | ⟨S', s, rfl⟩
  ·exact qi _
  ·rw [jB]; exact qi _
 ·rw [jB] at h1
  match o, h1 with
  | 0, h1 => cases h1; cases h2
  | 1, h1 => cases h1; cases h2
theorem zb1 : zG qa 19 33 21 := by
 refine ⟨zjl.2.2, fun w I G S x v cv k c nn fl r hc hne hcl hk hS hb => ?_⟩;rcases pD S with rfl | ⟨S', s, rfl⟩
 ·exact zjm [] x v cv k c nn fl r hc hne hcl hS (fun S' s h => by simp at h)
 ·rw [uS];by_cases e : s.kind = k
  ·subst e;rw [if_pos rfl];exact zp9 S' s x v cv c nn fl r hc hcl (by simp at hS; omega) (hb s (by simp))
  ·rw [if_neg e]
   exact zjm (S' ++ [s]) x v cv k c nn fl r hc hne hcl hS (fun S'' s' h => by
    have := List.append_inj' h rfl;have h2 : s = s' := by simpa using this.2
    rw [<- h2]; exact e)
end Go.Eng
namespace Go.Eng
open Go Go.Eng.Rows
section
variable {H : Nat -> Option HSpec} {tS tr : Nat} {w0 : World} {I0 : Nat -> Prop} {P : Program} {N : Nat}
theorem CodeY.regAdd {f : Nat} (ha : zG P f tS tr) {ops : Array Oper} {id : Nat} (hd : c5 ops.toList = true) {kc : Nat} {o : Oper} (ho : ops[kc]? = some o) (hg : o.guard = none) {d : Nat} (hdst : o.dst = some d) (hdN : d < N) {c : Call} (hop : o.op = .call c) (hcal : c.callee = .value (.func f))
 {x0 x2 : Operand} {kk : Int} (hargs : c.args = #[x0, .const (.int .i64 kk), x2]) (hk : 0 <= kk /\ kk < 3) {s : List DStep × Value} (hS : s.1.length < 1000000000) (hb : ∀ d ∈ s.1, 0 <= d.n /\ d.n < 1000000000000 /\ d.text.length < 1000000000000) {e : Env} {h : Hp} {Q : List DStep × Value -> Qt}
 (hpre : aR P H N ops.toList ((ops.toList.drop 0).take kc) e h fun e1 h1 => aU [] e1 x0 = some (.pv (.raw s.2)) /\ ∃ nn fl c, aU [] e1 x2 = some (.pv (.sl nn fl (aA c))) /\ c ≠ [] /\ c.length < 1000000000 /\
  ∀ v', aR P H N ops.toList ((ops.toList.drop (kc + 1)).take (ops.size - (kc + 1))) (set e1 d (.pv (.raw v'))) h1 fun e2 h2 => Q (eV s.1 (kk, c), v') .normal e2 h2) :
 CodeY (OutZ tS tr w0 I0) P N (.region id ops false) s e h Q := by
 intro w I G a Qx hs hz hq;have hlt : kc < ops.size := (Array.getElem?_eq_some_iff.1 ho).1;refine rG (Φ := fun a' w' => ∃ s' e' h' I' G', Q s' .normal e' h' /\ SRel w' I' G' e' h' N a' /\ a'.defers = a.defers /\ OutZ tS tr w0 I0 s' w' I' G' h') ?_ (fun a' w' ⟨s', e', h', I', G', q1, q2, q3, q4⟩ => hq s' .normal e' h' w' I' G' a' q1 q2 q3 q4);refine OpsN.step hd kc (by omega) hpre hs ?_;rintro e1 h1 w1 I1 G1 a1 ⟨p0, nn, fl, cc, p2, hne, hcl, hpost⟩ hs1 hd1 ht1;have hz1 := OutZ.stab _ _ _ _ _ _ _ _ _ hz hs.hh hs1.hh (ht1.toN (n0 := 0))
 have v0 : a1.eval x0 = s.2 := by
  have := aL hs1.he (AOK.nil _) p0;generalize a1.eval x0 = u at this ⊢;cases this with | pv _ _ h => cases h; rfl
 have v2 : Rep w1 I1 (.sl nn fl (aA cc)) (a1.eval x2) := by
  have := aL hs1.he (AOK.nil _) p2;cases this with | pv _ _ h => exact h
 have hrun := s7 (P := P) (w := w1) hop hcal (a := a1) (f := f) (cc := #[]) rfl ha.1;rw [hargs] at hrun
 have e3 : (#[x0, Operand.const (.int .i64 kk), x2].map a1.eval ++ #[] : Array Value) = #[s.2, .int .i64 kk, a1.eval x2] := by
  rw [<- v0]; simp [Act.eval]
 rw [e3] at hrun;rw [Nat.zero_add];refine OpsN.call (R := fun cv w' => ∃ I', HRel w' I' G1 h1 /\ Keeps w1 I1 w' I' /\ OutZ tS tr w0 I0 (eV s.1 (kk, cc), cv) w' I' G1 h1) ho hg hrun ((OutZ.call ha hz1 hs1.hh v2 hne hcl hk hS hb).mono fun e w' ⟨v', I', q1, q2, q3, q4⟩ => ⟨v', q1, I', q2, q3, q4⟩) ?_;rintro cv w2 ⟨I2, g1, g2, g3⟩;obtain ⟨hs2, hd2⟩ := j9 (o := o) (v := .pv (.raw cv)) (N := N) (by unfold iB; rw [hdst]; simp [hdN]) hs1.hn g1 (hs1.he.mono g2 (.refl _ _)) (.pv _ _ (.raw cv));have hput : put o (.pv (.raw cv)) e1 = set e1 d (.pv (.raw cv)) := by unfold put; rw [hdst]
 rw [hput] at hs2;refine OpsN.step hd (ops.size - (kc + 1)) (by omega) (hpost cv) hs2 ?_;rintro e3 h3 w3 I3 G3 a3 hQ hs3 hd3 ht3;refine OpsN.last (by omega) ⟨_, e3, h3, I3, G3, hQ, hs3, ?_, OutZ.stab _ _ _ _ _ _ _ _ _ g3 g1 hs3.hh (ht3.toN (n0 := 0))⟩;rw [hd3, hd2, hd1]
theorem CodeY.region {id : Nat} {ops : Array Oper} {s : List DStep × Value} {e : Env} {h : Hp} {Q : List DStep × Value -> Qt} (hK : aR P H N ops.toList ops.toList e h (fun e h => Q s .normal e h)) (hd : c5 ops.toList = true) : CodeY (OutZ tS tr w0 I0) P N (.region id ops false) s e h Q := by
 intro w I G a Qx hs hz hq;refine rG (Φ := fun a' w' => ∃ e' h' I' G', Q s .normal e' h' /\ SRel w' I' G' e' h' N a' /\ a'.defers = a.defers /\ OutZ tS tr w0 I0 s w' I' G' h') ?_ (fun a' w' ⟨e', h', I', G', q1, q2, q3, q4⟩ => hq s .normal e' h' w' I' G' a' q1 q2 q3 q4);refine OpsN.step hd ops.size (by omega) (K := fun e h => Q s .normal e h) (by rw [List.drop_zero, qj (by simp)]; exact hK) hs fun e' h' w' I' G' a' k1 k2 k3 k4 => OpsN.last (by omega) ⟨e', h', I', G', k1, k2, k3, OutZ.stab _ _ _ _ _ _ _ _ _ hz hs.hh k2.hh (k4.toN (n0 := 0))⟩
theorem CodeY.nilRaw {c : Code} {s : List DStep × Value} {e : Env} {h : Hp} {Q : List DStep × Value -> Qt} {d : Nat} {fl : Bool} (hg : get e d = some (.pv (.sl true fl []))) (hK : CodeY (OutZ tS tr w0 I0) P N c s ((d, .pv (.raw (.slice none 0 0))) :: e) h Q) : CodeY (OutZ tS tr w0 I0) P N c s e h Q := by
 intro w I G a Qx hs hz hq;have hv : LRel w I G h (.pv (.sl true fl [])) (a.tmps.getD d undef) := hs.he d _ hg;refine hK w I G a Qx (hs.view (d := d) ?_) hz hq;generalize a.tmps.getD d undef = u at hv ⊢;cases hv with
 | pv _ _ h =>
   cases h;exact .pv _ _ (.raw _)
def vJ (v : LV) (p : PV) : Prop := v = .pv p ∨ ∃ ps : List PV, v = .tup (ps.map .pv) /\ p = .tup ps
theorem ztw {w : World} {I : Nat -> Prop} {G : Nat -> Pl} {h : Hp} {v : LV} {cv : Value} {p : PV} (hr : LRel w I G h v cv) (hp : vJ v p) : Rep w I p cv := by
 rcases hp with rfl | ⟨ps, rfl, rfl⟩
 ·cases hr; assumption
 ·cases hr with
  | tup _ vs h1 h6 =>
    refine .tup ps vs (by simpa using h1) fun k u hk => ?_
    have := h6 k (.pv u) (by rw [qau, hk]; rfl);generalize vs.getD k undef = y at this ⊢;cases this; assumption
def zjn (P : Program) (rs : List ResultVar) (R : PV -> Prop) (s : List DStep × Value) (e : Env) (h : Hp) : Prop :=
 fT P e h rs (jL fun v => ∃ p, vJ v p /\ R p) ∨ (get e 6 = some (.pv (.raw s.2)) /\ ∀ nl, (nl = true -> s.1 = []) -> fT P ((6, .pv (.sl nl false (s.1.map aN))) :: e) h rs (jL fun v => ∃ p, vJ v p /\ R p))
theorem PCall.ofY {f : Nat} {fn : Func} {c : Code} {ps : List PV} {R : PV -> Prop} (hf : P.funcs[f]? = some fn) (hb : fn.body = some c) (hn : (fn.name == "runtime.NumGoroutine") = false) (hl : (ps.map LV.pv).length <= fn.ntmps)
 (hC : ∀ w0 I0, CodeY (OutZ tS tr w0 I0) P fn.ntmps c ([], .slice none 0 0) (eT (ps.map .pv) 0) [] fun s x e h => match x with | .exit _ => False | _ => zjn P fn.results.toList R s e h) : PCall P f ps R := by
 refine ⟨⟨fn, hf, by rw [hb]; rfl, hn⟩, fun w I G cargs hh hsz hrel => ?_⟩;refine yN hf hb hl hh hsz hrel fun a Qx hs hd hq => ?_;have noOwn : ∀ b, ¬ aO [] G b := fun b ⟨o, ob, h1, _⟩ => by simp at h1
 have hz : OutZ tS tr w I ([], .slice none 0 0) w I G [] := by
  refine ⟨⟨rfl, rfl, rfl, qi _, fun _ _ _ => rfl, fun _ h => h, fun _ h => .inl h, fun b hb => (noOwn b hb).elim, fun _ _ => rfl, qi _⟩, .slice none 0 0, fun _ => ⟨0, 0, 0, 0⟩, ?_, ?_⟩
  ·have dead : ∀ (o : Nat) ob, (eI tS tr [] (.slice none 0 0))[o]? = some ob -> ¬ ob.alive ⟨0, 0, 0, 0⟩ := fun o ob ho ha => by
    match o, ho with
    | 0, ho => cases ho; cases ha.1
    | 1, ho => cases ho; exact ha
   refine ⟨⟨fun o ob ho => ?_, fun o o' ob ob' ho ha => (dead o ob ho ha).elim, fun o ob ho ha => (dead o ob ho ha).elim, hh.cl⟩, .ownNil 0 _ _ _ rfl, fun h => absurd rfl h⟩
   match o, ho with
   | 0, ho => cases ho; rfl
   | 1, ho => cases ho; trivial
  ·rintro b ⟨o, ob, ho, ha, _⟩
   match o, ho with
   | 0, ho => cases ho; cases ha.1
   | 1, ho => cases ho; exact ha.elim
 refine hC w I w I G a Qx hs hz fun s x e' h' w' I' G' a' hk hs' hd' hz' => ?_
 have fin : zjn P fn.results.toList R s e' h' -> ∃ cv, (results fn a'.tmps).run P w' = .ok cv w' /\ ∃ cv' r h2 I2 G2, Ending.returned cv = .returned cv' /\ (∃ v, r = .pv v /\ R v) /\ HRel w' I2 G2 h2 /\ LRel w' I2 G2 h2 r cv' /\ TrH w I G [] w' I2 G2 h2 := by
  have done : ∀ {e2 : Env} {I2 : Nat -> Prop}, SRel w' I2 G' e2 h' fn.ntmps a' -> Tr w I (fun _ => False) w' I2 (aO h' G') -> fT P e2 h' fn.results.toList (jL fun v => ∃ p, vJ v p /\ R p) -> ∃ cv, (results fn a'.tmps).run P w' = .ok cv w' /\ ∃ cv' r h2 I2 G2, Ending.returned cv = .returned cv' /\ (∃ v, r = .pv v /\ R v) /\ HRel w' I2 G2 h2 /\ LRel w' I2 G2 h2 r cv' /\ TrH w I G [] w' I2 G2 h2 := fun {e2 I2} hs2 t hr => by
   obtain ⟨v, ⟨p, hvp, hp⟩, cv, g1, g2⟩ := oW (P := P) hs2.hh hs2.he hr;refine ⟨cv, g1, cv, .pv p, [], I2, G', rfl, ⟨p, rfl, hp⟩, HRel.nil _ hs2.hh.cl, ?_, ⟨⟨t.os, t.tape, t.output, t.size, fun b hb _ => t.keep b hb (fun x => x), t.i1, fun b hb => (t.i2 b hb).elim .inl fun x => x.elim False.elim fun x => .inr (.inr x), fun b ⟨o, ob, h1, _⟩ => by simp at h1, t.frz, t.drawn⟩, qz _, fun o ob' ho => by simp at ho⟩⟩;exact .pv _ _ (ztw g2 hvp)
  rintro (hr | ⟨h6, hr⟩)
  ·exact done hs' hz'.1 hr
  ·obtain ⟨I2, nl, q1, q2, q3, q4, q5⟩ := hz'.tree hs'.hh
   have h6v : a'.tmps.getD 6 undef = s.2 := by
    have : LRel w' I' G' h' (.pv (.raw s.2)) (a'.tmps.getD 6 undef) := hs'.he 6 _ h6;generalize a'.tmps.getD 6 undef = u at this ⊢;cases this with | pv _ _ h => cases h; rfl
   have hs2 : SRel w' I2 G' e' h' fn.ntmps a' := ⟨q3, hs'.he.mono q4 (.refl _ _), hs'.hn⟩;exact done (hs2.view (d := 6) (v := .pv (.sl nl false (s.1.map aN))) (by rw [h6v]; exact .pv _ _ q2)) q5 (hr nl q1)
 cases x with
 | exit n => exact hk.elim
 | normal => exact (hq a' w' (hd'.trans hd) (fin hk)).1
 | ret => exact (hq a' w' (hd'.trans hd) (fin hk)).2
end
end Go.Eng
namespace Go.Eng
open Go Go.Proofs
section
variable (na fa : Bool) (xa : LL) (nb fb : Bool) (xb : LL) (nl fl : Bool) (ls : LL) (i k : Int)
def zjo (R : PV -> Prop) : Prop :=
 ∃ n f es, some (PV.sl nb fb xb) = some (PV.sl n f es) /\ R (Z6 (i64.wrap (i64.wrap (i * i64.wrap ((↑es.length : Int) + 1)) + k)))
theorem ztx {R : PV -> Prop} (h : zjo nb fb xb i k R) : PCall qa 20 [.ptr [.sl na fa xa, .sl nb fb xb, .sl nl fl ls], .int .i64 i, .int .i64 k] R :=
 PCall.wz Try.func20 aZ [0, 1, 2, 6] bS h
end
def zb2 (na fa : Bool) (xa : LL) (nb fb : Bool) (xb : LL) (x2 : Int) (n_1 : Bool) (s_1 : LL) : Env × Hp := ([(0, LV.box 0 0), (2, Y6 x2)], [.box [LV.pv (PV.sl na fa xa), LV.pv (PV.sl nb fb xb), LV.own 1], .sl (3, 1) true n_1 s_1])
def zb3 (na fa : Bool) (xa : LL) (nb fb : Bool) (xb : LL) (x2 x3 : Int) (n_1 : Bool) (s_1 : LL) : Env × Hp := ([(0, LV.box 0 0), (2, Y6 x2), (3, Y6 x3)], [.box [LV.pv (PV.sl na fa xa), LV.pv (PV.sl nb fb xb), LV.own 1], .sl (3, 1) true n_1 s_1])
section
variable (na fa : Bool) (xa : LL) (nb fb : Bool) (xb : LL) (J : Int -> Bool -> LL -> Prop) (μ : Int -> Bool -> LL -> Nat) (J2 : Int -> Int -> Bool -> LL -> Int -> Int -> Bool -> LL -> Prop) (μ2 : Int -> Int -> Bool -> LL -> Nat)
def zjp (R : LV -> Hp -> Prop) : Prop :=
 ((0 : Int) <= i64.wrap (i64.wrap ((↑xa.length : Int) + 1) * i64.wrap ((↑xb.length : Int) + 1)) /\ i64.wrap (i64.wrap ((↑xa.length : Int) + 1) * i64.wrap ((↑xb.length : Int) + 1)) <= i64.wrap (i64.wrap ((↑xa.length : Int) + 1) * i64.wrap ((↑xb.length : Int) + 1)) /\ (↑8 : Int) * i64.wrap (i64.wrap ((↑xa.length : Int) + 1) * i64.wrap ((↑xb.length : Int) + 1)) <= 281474976710656 /\ i64.wrap (i64.wrap ((↑xa.length : Int) + 1) * i64.wrap ((↑xb.length : Int) + 1)) <= 9223372036854775807) /\ (aF (zb2 na fa xa nb fb xb (i64.wrap ((↑xa.length : Int) - 1)) false (qk (i64.wrap (i64.wrap ((↑xa.length : Int) + 1) * i64.wrap ((↑xb.length : Int) + 1))).toNat [Z6 0])) /\ J (i64.wrap ((↑xa.length : Int) - 1)) false (qk (i64.wrap (i64.wrap ((↑xa.length : Int) + 1) * i64.wrap ((↑xb.length : Int) + 1))).toNat [Z6 0])) /\ ∀ (x2 : Int) (n_1 : Bool) (s_1 : LL), J x2 n_1 s_1 -> if decide (x2 >= 0) = true then (aF (zb3 na fa xa nb fb xb x2 (i64.wrap ((↑xb.length : Int) - 1)) n_1 s_1) /\ J2 x2 (i64.wrap ((↑xb.length : Int) - 1)) n_1 s_1 x2 (i64.wrap ((↑xb.length : Int) - 1)) n_1 s_1) /\ ∀ (x21 x3 : Int) (n_11 : Bool) (s_11 : LL), J2 x2 (i64.wrap ((↑xb.length : Int) - 1)) n_1 s_1 x21 x3 n_11 s_11 ->
 let K5 := fun (y0_ y1_ : Int) (y2_ : Bool) (y3_ : LL) => aF (zb3 na fa xa nb fb xb y0_ y1_ y2_ y3_) /\ J2 x2 (i64.wrap ((↑xb.length : Int) - 1)) n_1 s_1 y0_ y1_ y2_ y3_ /\ μ2 y0_ y1_ y2_ y3_ < μ2 x21 x3 n_11 s_11; if decide (x3 >= 0) = true then aP xa x21 1 /\ ∃ n f es, (xa.getD x21.toNat []).head? = some (PV.sl n f es) /\ aP xb x3 1 /\ ∃ n1 f1 es1, (xb.getD x3.toNat []).head? = some (PV.sl n1 f1 es1) /\ PCall qa 18 [PV.sl n f es, PV.sl n1 f1 es1] fun v => ∃ b, v = Zb b /\ if b = true then PCall qa 20 [PV.ptr [PV.sl na fa xa, PV.sl nb fb xb, PV.sl n_11 false s_11], Z6 x21, Z6 x3] fun v1 => ∃ n2, v1 = Z6 n2 /\ true = true /\ PCall qa 20 [PV.ptr [PV.sl na fa xa, PV.sl nb fb xb, PV.sl n_11 false s_11], Z6 (i64.wrap (x21 + 1)), Z6 (i64.wrap (x3 + 1))] fun v2 => ∃ n3, v2 = Z6 n3 /\ true = true /\ aP s_11 n3 1 /\ ∃ n4, (qf 0 (s_11.getD n3.toNat [])).head? = some (Z6 n4) /\ aP s_11 n2 1 /\ (1 = 1 /\ 1 <= (s_11.getD n2.toNat []).length) /\ K5 x21 (i64.wrap (x3 - 1)) n_11 (s_11.set n2.toNat (Z6 (i64.wrap (n4 + 1)) :: (qf 1 (s_11.getD n2.toNat [])))) else PCall qa 20 [PV.ptr [PV.sl na fa xa, PV.sl nb fb xb, PV.sl n_11 false s_11], Z6 x21, Z6 x3] fun v1 => ∃ n2, v1 = Z6 n2 /\ true = true /\ PCall qa 20 [PV.ptr [PV.sl na fa xa, PV.sl nb fb xb, PV.sl n_11 false s_11], Z6 (i64.wrap (x21 + 1)), Z6 x3] fun v2 => ∃ n3, v2 = Z6 n3 /\ true = true /\ aP s_11 n3 1 /\ ∃ n4, (qf 0 (s_11.getD n3.toNat [])).head? = some (Z6 n4) /\ PCall qa 20 [PV.ptr [PV.sl na fa xa, PV.sl nb fb xb, PV.sl n_11 false s_11], Z6 x21, Z6 (i64.wrap (x3 + 1))] fun v3 => ∃ n5, v3 = Z6 n5 /\ true = true /\ aP s_11 n5 1 /\ ∃ n6, (qf 0 (s_11.getD n5.toNat [])).head? = some (Z6 n6) /\ aP s_11 n2 1 /\ (1 = 1 /\ 1 <= (s_11.getD n2.toNat []).length) /\ K5 x21 (i64.wrap (x3 - 1)) n_11 (s_11.set n2.toNat (Z6 (if n4 < n6 then n6 else n4) :: (qf 1 (s_11.getD n2.toNat [])))) else aF (zb2 na fa xa nb fb xb (i64.wrap (x21 - 1)) n_11 s_11) /\ J (i64.wrap (x21 - 1)) n_11 s_11 /\ μ (i64.wrap (x21 - 1)) n_11 s_11 < μ x2 n_1 s_1 else R (LV.tup []) [Ob.box [LV.pv (PV.sl na fa xa), LV.pv (PV.sl nb fb xb), LV.own 1], Ob.sl (3, 1) true n_1 s_1]
theorem zty {R : LV -> Hp -> Prop} (h : zjp na fa xa nb fb xb J μ J2 μ2 R) : ACall qa 17 [.box 0 0] [.box [.pv (.sl na fa xa), .pv (.sl nb fb xb), .pv (.sl true true [])]] R :=
 ACall.wz Try.func17 aZ [0, 2, 3, 28, 38, 55] (iC [(2, (bU fE (zb2 na fa xa nb fb xb) J μ (fun e h => (gI e 2, oN h 1, oS h 1)) [] [0, 2] [])), (5, (iE iD (zb3 na fa xa nb fb xb) J2 μ2 (fun e h => (gI e 2, gI e 3, oN h 1, oS h 1)) [] [0, 2, 3] []))]) [0, 1] h
end
def zb4 (n f : Bool) (es : LL) (x3 x8 : Int) : Env × Hp := ([(3, Y6 x3), (6, LV.pv (PV.sl n f es)), (7, LV.pv (PV.int i64 (es.length : Int))), (8, Y6 x8)], [])
section
variable (n f : Bool) (es : LL) (J : Int -> Int -> Prop) (μ : Int -> Int -> Nat)
def zjq (R : PV -> Prop) : Prop :=
 (aF (zb4 n f es (0 : Int) (0 : Int)) /\ J (0 : Int) (0 : Int)) /\ ∀ (x3 x8 : Int), J x3 x8 ->
 let K3 := fun (y0_ y1_ : Int) => aF (zb4 n f es y0_ y1_) /\ J y0_ y1_ /\ μ y0_ y1_ < μ x3 x8; if decide (x8 < (↑es.length : Int)) = true then aP es x8 3 /\ ∃ n1, (es.getD x8.toNat []).head? = some (Z6 n1) /\ ∃ n2, (es.getD x8.toNat []).tail.head? = some (Z6 n2) /\ ∃ n3 f1 es1, (es.getD x8.toNat []).tail.tail.head? = some (PV.sl n3 f1 es1) /\ if (n1 != 0) = true then K3 (i64.wrap (x3 + n2)) (i64.wrap (x8 + 1)) else K3 x3 (i64.wrap (x8 + 1)) else R (Z6 x3)
theorem ztz {R : PV -> Prop} (h : zjq n f es J μ R) : PCall qa 14 [.sl n f es] R :=
 PCall.wz Try.func14 aZ [0, 2, 3, 5, 6, 7, 8, 9, 14] (d8 3 (bU kC (zb4 n f es) J μ (fun e h => (gI e 3, gI e 8)) [] [3, 6, 7, 8] [])) h
end
def zjr  (R : PV -> Prop) : Prop :=
 PCall qa 8 [] fun v => ∃ n f es, v = PV.sl n f es /\ PCall qa 7 [PV.sl n f es] fun v1 => PCall qa 6 [v1, PV.sl false true [[Z3 97], [Z3 98], [Z3 99]], PV.sl false true [[Z3 97], [Z3 120], [Z3 99]]] fun v2 => ∃ vs, v2 = PV.tup vs /\ vs.length = 2 /\ ∃ x, vs.head? = some x /\ ∃ n1 f1 es1, x = PV.sl n1 f1 es1 /\ ∃ x1, vs.tail.head? = some x1 /\ ∃ n2, x1 = Z6 n2 /\ if (n2 == 0 && (↑es1.length : Int) == 4) = true then aP es1 (0 : Int) 3 /\ ∃ n3, (qf 0 (es1.getD 0 [])).head? = some (Z6 n3) /\ if (n3 == 0) = true then aP es1 (1 : Int) 3 /\ ∃ n4, (qf 0 (es1.getD 1 [])).head? = some (Z6 n4) /\ if (n4 == 1) = true then aP es1 (2 : Int) 3 /\ ∃ n5, (qf 0 (es1.getD 2 [])).head? = some (Z6 n5) /\ if (n5 == 2) = true then PCall qa 14 [PV.sl n1 f1 es1] fun v3 => ∃ n6, v3 = Z6 n6 /\ R (Zb (n6 == 2)) else R (Zb false) else R (Zb false) else R (Zb false) else R (Zb false)
theorem zt0  {R : PV -> Prop} (h : zjr  R) : PCall qa 5 [] R :=
 PCall.wz Try.func5 aZ [0, 1, 2] bS h

def zb5  (x0 x5 : Int) (n_0 : Bool) (s_0 : LL) : Env × Hp := ([(0, Y6 x0), (3, LV.own 0), (4, LV.pv (PV.sl true true [])), (5, Y6 x5)], [.sl (21, 1) true n_0 s_0])
def zb6  (x0 x6 : Int) (n_0 : Bool) (s_0 : LL) (n_1 : Bool) (s_1 : LL) : Env × Hp := ([(0, Y6 x0), (3, LV.own 0), (4, LV.own 1), (6, Y6 x6)], [.sl (21, 1) true n_0 s_0, .sl (21, 1) true n_1 s_1])
section
variable (k : Int) (J : Int -> Int -> Bool -> LL -> Prop) (μ : Int -> Int -> Bool -> LL -> Nat) (J2 : Int -> Int -> Bool -> LL -> Bool -> LL -> Prop) (μ2 : Int -> Int -> Bool -> LL -> Bool -> LL -> Nat)
def zjs (R : PV -> Prop) : Prop :=
 (aF (zb5 (i64.wrap (↑(BitVec.ofInt i64.bits k &&& BitVec.ofInt i64.bits (7 : Int)).toNat : Int)) (0 : Int) true []) /\ J (i64.wrap (↑(BitVec.ofInt i64.bits k &&& BitVec.ofInt i64.bits (7 : Int)).toNat : Int)) (0 : Int) true []) /\ ∀ (x0 x5 : Int) (n_0 : Bool) (s_0 : LL), J x0 x5 n_0 s_0 -> if decide (x5 < 1023) = true then (bC [[Z3 97]] 1 /\ (s_0.length + 1) * 4 <= 140737488355328) /\ aF (zb5 x0 (i64.wrap (x5 + 1)) (n_0 && false) (s_0 ++ [[Z3 97]])) /\ J x0 (i64.wrap (x5 + 1)) (n_0 && false) (s_0 ++ [[Z3 97]]) /\ μ x0 (i64.wrap (x5 + 1)) (n_0 && false) (s_0 ++ [[Z3 97]]) < μ x0 x5 n_0 s_0 else (aF (zb6 x0 (0 : Int) n_0 s_0 true []) /\ J2 x0 (0 : Int) n_0 s_0 true []) /\ ∀ (x01 x6 : Int) (n_01 : Bool) (s_01 : LL) (n_1 : Bool) (s_1 : LL), J2 x01 x6 n_01 s_01 n_1 s_1 -> if decide (x6 < i64.wrap ((1020 : Int) + x01)) = true then (bC [[Z3 97]] 1 /\ (s_1.length + 1) * 4 <= 140737488355328) /\ aF (zb6 x01 (i64.wrap (x6 + 1)) n_01 s_01 (n_1 && false) (s_1 ++ [[Z3 97]])) /\ J2 x01 (i64.wrap (x6 + 1)) n_01 s_01 (n_1 && false) (s_1 ++ [[Z3 97]]) /\ μ2 x01 (i64.wrap (x6 + 1)) n_01 s_01 (n_1 && false) (s_1 ++ [[Z3 97]]) < μ2 x01 x6 n_01 s_01 n_1 s_1 else if (decide (x01 < 4) && decide (x01 > 0)) = true then PCall qa 5 [] fun v => ∃ b, v = Zb b /\ R (Zb b) else PCall qa 8 [] fun v => ∃ n f es, v = PV.sl n f es /\ PCall qa 7 [PV.sl n f es] fun v1 => PCall qa 6 [v1, PV.sl n_01 false s_01, PV.sl n_1 false s_1] fun v2 => ∃ vs, v2 = PV.tup vs /\ vs.length = 2 /\ ∃ x, vs.head? = some x /\ ∃ n1 f1 es1, x = PV.sl n1 f1 es1 /\ ∃ x1, vs.tail.head? = some x1 /\ ∃ n2, x1 = Z6 n2 /\ if decide (x01 >= 4) = true then if ((↑es1.length : Int) == 0 && n2 == 7) = true then PCall qa 5 [] fun v3 => ∃ b, v3 = Zb b /\ R (Zb b) else R (Zb false) else if ((↑es1.length : Int) == 2 && n2 == 0) = true then aP es1 (0 : Int) 3 /\ ∃ n3, (qf 1 (es1.getD 0 [])).head? = some (Z6 n3) /\ if (n3 == 1020) = true then aP es1 (1 : Int) 3 /\ ∃ n4, (qf 0 (es1.getD 1 [])).head? = some (Z6 n4) /\ if (n4 == 1) = true then aP es1 (1 : Int) 3 /\ ∃ n5, (qf 1 (es1.getD 1 [])).head? = some (Z6 n5) /\ if (n5 == 3) = true then PCall qa 5 [] fun v3 => ∃ b, v3 = Zb b /\ R (Zb b) else R (Zb false) else R (Zb false) else R (Zb false) else R (Zb false)
theorem zt1 {R : PV -> Prop} (h : zjs k J μ J2 μ2 R) : PCall qa 3 [.int .i64 k] R :=
 PCall.wz Try.func3 aZ [0, 2, 3, 4, 5, 6, 7, 8, 12, 21, 32, 43] (iC [(4, (bU iD zb5 J μ (fun e h => (gI e 0, gI e 5, oN h 0, oS h 0)) [(3, 21, 1)] [0, 3, 4, 5] [])), (8, (bU cz6 zb6 J2 μ2 (fun e h => (gI e 0, gI e 6, oN h 0, oS h 0, oN h 1, oS h 1)) [(4, 21, 1)] [0, 3, 4, 6] []))]) h
end
def zb7 (tc tg tj tf tp : PV) (M S : List (PV × PV)) (n f : Bool) (es : LL) (x12 : Int) (h0_0 : PV) (n_1 : Bool) (s_1 : LL) : Env × Hp := ([(0, LV.pv (PV.ptr [tc, tg, tj, tf, tp, PV.mp M, PV.mp S])), (5, LV.box 0 0), (10, LV.pv (PV.sl n f es)), (11, LV.pv (PV.int i64 (es.length : Int))), (12, Y6 x12)], [.box [.pv h0_0, LV.own 1], .sl (21, 1) true n_1 s_1])
section
variable (tc tg tj tf tp : PV) (M S : List (PV × PV)) (n f : Bool) (es : LL) (J : Int -> PV -> Bool -> LL -> Prop) (μ : Int -> PV -> Bool -> LL -> Nat)
def zjt (R : PV -> Prop) : Prop :=
 fO (PV.ptr [tc, tg, tj, tf, tp, PV.mp M, PV.mp S]) = true /\ (aF (zb7 tc tg tj tf tp M S n f es (0 : Int) (PV.ptr [tc, tg, tj, tf, tp, PV.mp M, PV.mp S]) true []) /\ J (0 : Int) (PV.ptr [tc, tg, tj, tf, tp, PV.mp M, PV.mp S]) true []) /\ ∀ (x12 : Int) (h0_0 : PV) (n_1 : Bool) (s_1 : LL), J x12 h0_0 n_1 s_1 -> if decide (x12 < (↑es.length : Int)) = true then aP es x12 1 /\ ∃ n1, (es.getD x12.toNat []).head? = some (Z3 n1) /\ ACall qa 59 [LV.box 0 0, LV.pv (Z3 n1), Y6 8] [Ob.box [LV.pv h0_0, LV.own 1], Ob.sl (21, 1) false n_1 s_1] fun (r : LV) (h' : Hp) => ∃ (t : Bool × LL), (r = LV.tup [] /\ h' = [Ob.box [LV.pv h0_0, LV.own 1], Ob.sl (21, 1) true t.fst t.snd]) /\ (True /\ True /\ True) /\ aF (zb7 tc tg tj tf tp M S n f es (i64.wrap (x12 + 1)) h0_0 t.fst t.snd) /\ J (i64.wrap (x12 + 1)) h0_0 t.fst t.snd /\ μ (i64.wrap (x12 + 1)) h0_0 t.fst t.snd < μ x12 h0_0 n_1 s_1 else PCall qa 60 [PV.ptr [tc, tg, tj, tf, tp, PV.mp M, PV.mp S], PV.sl n_1 false s_1] fun v => ∃ n1 f1 es1, v = PV.sl n1 f1 es1 /\ R (PV.sl n1 f1 es1)
theorem zt2 {R : PV -> Prop} (h : zjt tc tg tj tf tp M S n f es J μ R) : PCall qa 40 [.ptr [tc, tg, tj, tf, tp, .mp M, .mp S], .sl n f es] R :=
 PCall.wz Try.func40 (fun zz_ => match zz_ with | 59 => some ⟨Bool × LL, fun _ hs t => (.tup [], match hs with | [.box (x :: _), .sl ty _ _ _] => [.box [x, .own 1], .sl ty true t.1 t.2] | [.box (x :: _)] => [.box [x, .own 1], .sl (21, 1) true t.1 t.2] | h => h), none⟩ | _ => none) [0, 1, 4, 5, 7, 10, 11, 12, 13] (d8 3 (bU iD (zb7 tc tg tj tf tp M S n f es) J μ (fun e h => (gI e 12, hP h 0 0, oN h 1, oS h 1)) [(1000001, 21, 1)] [0, 5, 10, 11, 12] [])) h
end
def zb8 (n f : Bool) (es : LL) (n2 f2 : Bool) (ss : LL) (x13 : Int) : Env × Hp := ([(0, LV.pv (PV.sl n f es)), (1, LV.pv (PV.sl n2 f2 ss)), (12, LV.pv (PV.int i64 (es.length : Int))), (13, Y6 x13)], [])
section
variable (n f : Bool) (es : LL) (n2 f2 : Bool) (ss : LL) (J : Int -> Prop) (μ : Int -> Nat)
def zb9 (R : PV -> Prop) : Prop :=
 if ((↑es.length : Int) != (↑ss.length : Int)) = true then R (Zb false) else (aF (zb8 n f es n2 f2 ss (0 : Int)) /\ J (0 : Int)) /\ ∀ (x13 : Int), J x13 -> if decide (x13 < (↑es.length : Int)) = true then aP es x13 1 /\ ∃ n1, (es.getD x13.toNat []).head? = some (Z3 n1) /\ aP ss x13 1 /\ ∃ n3, (ss.getD x13.toNat []).head? = some (Z3 n3) /\ if (n1 != n3) = true then R (Zb false) else aF (zb8 n f es n2 f2 ss (i64.wrap (x13 + 1))) /\ J (i64.wrap (x13 + 1)) /\ μ (i64.wrap (x13 + 1)) < μ x13 else R (Zb true)
theorem zt3 {R : PV -> Prop} (h : zb9 n f es n2 f2 ss J μ R) : PCall qa 18 [.sl n f es, .sl n2 f2 ss] R :=
 PCall.wz Try.func18 aZ [0, 1, 4, 5, 10, 12, 13, 14, 24] (d8 4 (bU cz1 (zb8 n f es n2 f2 ss) J μ (fun e h => (((gI e 13), ()))) [] [0, 1, 12, 13] [])) h
end
end Go.Eng
namespace Go.Eng
open Go Go.Proofs Go.Eng.Rows Go.Eng.Trie
theorem vK : dZ tab := zot (by kernel_rfl)
theorem vL : eU tab := zfv (by kernel_rfl)
theorem vM : kG tab := zow (by kernel_rfl)
theorem q1 : rN tab false 0 [101, 769] = 2 := by kernel_rfl
theorem q2 : rN tab false 0 [233] = 0 := by kernel_rfl
theorem q3 : rN tab false 0 [769, 807] = 1 := by kernel_rfl
theorem q4 : rN tab false 0 [8491] = 1 := by kernel_rfl
theorem q5 : o7 tab 101 = true := by kernel_rfl
theorem q6 : o7 tab 769 = false := by kernel_rfl
theorem q7 : o7 tab 4449 = false := by kernel_rfl
theorem zju {α : Type} (p : α -> Bool) : ∀ {A : List α} (B : List α), (∀ x ∈ A, p x = false) -> (A ++ B).find? p = B.find? p
 | [], B, _ => rfl
 | a :: A, B, h => by
   rw [qaz, qak, h a qar];exact zju p B fun x hx => h x (qan _ hx)
theorem zjv {α : Type} (p : α -> Bool) : ∀ (A : List α) {B : List α}, (∀ x ∈ B, p x = false) -> (A ++ B).find? p = A.find? p
 | [], B, h => List.find?_eq_none.2 fun x hx => by rw [h x hx]; simp
 | a :: A, B, h => by
   rw [qaz, qak, qak];cases p a with
   | true => rfl
   | false => exact zjv p A h
def noK (k : Int) (l : List Row) : Bool := l.all fun x => !decide (x.kind = k)
theorem zjw {k r : Int} {l : List Row} (h : noK k l = true) : ∀ x ∈ l, x.has k r = false := fun x hx => by
 have := List.all_eq_true.1 h x hx;simp only [qu, dD] at this;simp [Row.has, this]
theorem zt4 {A B C : List Row} {k : Int} (h1 : noK k A = true) (h2 : noK k C = true) (r : Int) : cC (A ++ (B ++ C)) k r = cC B k r := by
 unfold cC first
 rw [zju _ _ (zjw h1), zjv _ _ (zjw h2)]
theorem zjx : tab = zao ++ (tab73 ++ (zap ++ zaq ++ zar ++ zas ++ zat ++ zau)) := by unfold tab; simp only [qah]
theorem zjy : aK tab = aK tab73 := funext fun r => by
 unfold aK; rw [zjx, zt4 (by kernel_rfl) (by kernel_rfl)]
theorem zt5 {A B : List Row} (h : aK A = aK B) : ∀ d, aY A d = aY B d := fun d => by
 induction d with
 | zero => rfl
 | succ d ih => funext r; simp only [aY, h, ih]
theorem zt6 {A B : List Row} (h : aK A = aK B) : cG A = cG B := funext fun r => by simp only [cG, h]
theorem vN (d : Nat) : aY tab d = aY tab73 d := zt5 zjy d
theorem zt7 : cG tab = cG tab73 := zt6 zjy
theorem zca {x : Row} (hx : x ∈ tab) (hk : x.kind = 2) : x ∈ tab73 := by
 rw [zjx] at hx
 have no : ∀ {l : List Row}, noK 2 l = true -> x ∉ l := fun h hx => by
  have := List.all_eq_true.1 h x hx;simp [hk] at this
 rcases List.mem_append.1 hx with h | h
 ·exact absurd h (no (by kernel_rfl))
 ·rcases List.mem_append.1 h with h | h
  ·exact h
  ·exact absurd h (no (by kernel_rfl))
theorem zt8 : eU tab73 := zfv (by kernel_rfl)
theorem zt9 : yX tab := fun r x hx => by
 rw [zt7];rw [vN] at hx;exact zo6 zt8 (by kernel_rfl) r x hx
end Go.Eng
namespace Go.Eng
open Go Go.Proofs Go.Eng.Rows Go.Eng.Trie Go.Eng.Srt
theorem PCall.ofA {P : Program} {f : Nat} {args : List PV} {Q : LV -> Hp -> Prop} {R : PV -> Prop} (hc : ACall P f (args.map .pv) [] Q) (hq : ∀ r h', Q r h' -> ∃ p, jY h' r = some p /\ R p) : PCall P f args R :=
 ⟨hc.1, fun w I G cargs h1 h2 h3 => (hc.2 w I G cargs h1 h2 h3).mono fun e w' ⟨cv, r, h', I', G', e1, e2, e3, e4, e5⟩ => by
  obtain ⟨p, hp, hR⟩ := hq r h' e2;have ht := e5.t;have hno : ∀ b, ¬ aO [] G b := fun b ⟨o, ob, ho, _⟩ => by simp at ho
  exact ⟨cv, .pv p, [], AllB I' h' G', G', e1, ⟨p, rfl, hR⟩, HRel.nil G' (fun b hb => hb.elim (e3.cl b) e3.blk_lt), .pv _ _ (qJ e3 e4 hp),
   ⟨⟨ht.os, ht.tape, ht.output, ht.size, ht.keep, fun b hb => .inl (ht.i1 b hb), fun b hb => hb.elim (ht.i2 b) (fun ho => (ht.own2 b ho).elim (fun x => absurd x (hno b)) (fun x => .inr (.inr x))), fun b hb => absurd hb (fun ⟨o, ob, ho, _⟩ => by simp at ho), ht.frz, ht.drawn⟩, qi _, fun o ob ho => by simp at ho⟩⟩⟩
theorem zua (n f n2 f2 : Bool) (l m : List Int) (hl : l.length < 1000000000000) : zb9 n f (aA l) n2 f2 (aA m) (fun i => 0 <= i /\ i <= l.length /\ l.take i.toNat = m.take i.toNat) (fun i => l.length - i.toNat) fun v => v = .bool (decide (l = m)) := by
 unfold zb9;refine aH (fun hc => ?_) (fun hc => ?_)
 ·simp only [dS, bne_iff_ne, ne_eq] at hc;have : l ≠ m := fun e => hc (by rw [e]);simp [this]
 ·simp only [dS, bne_iff_ne, ne_eq, qab] at hc;have hlm : l.length = m.length := by omega
  refine ⟨⟨rfl, qag _, by omega, rfl⟩, ?_⟩;rintro i ⟨i0, i1, he⟩;refine aH (fun h => ?_) (fun h => ?_)
  ·simp only [aB, dS] at h;have hi : i.toNat < l.length := by omega
   have hj : i.toNat < m.length := by omega
   obtain ⟨g1, g2⟩ := pK i0 hi;obtain ⟨k1, k2⟩ := pK i0 hj;have hw : i64.wrap (i + 1) = i + 1 := aD (by omega) (by omega);refine ⟨g1, l[i.toNat], by rw [g2]; rfl, k1, m[i.toNat], by rw [k2]; rfl, aH (fun hc2 => ?_) (fun hc2 => ?_)⟩
   ·simp only [bne_iff_ne, ne_eq] at hc2;have : l ≠ m := fun e => hc2 (by subst e; rfl);simp [this]
   ·simp only [bne_iff_ne, ne_eq, qab] at hc2;rw [hw];exact ⟨rfl, ⟨by omega, by omega, by rw [show (i + 1).toNat = i.toNat + 1 by omega, eC hi, eC hj, he, hc2]⟩, by dsimp only; omega⟩
  ·simp only [aB, dS] at h;rw [qj (by omega), qj (by omega)] at he;simp [he]
theorem zjz (n f n2 f2 : Bool) (l m : List Int) (hl : l.length < 1000000000000) : PCall qa 18 [.sl n f (aA l), .sl n2 f2 (aA m)] fun v => v = .bool (decide (l = m)) :=
 zt3 _ _ _ _ _ _ (fun i => 0 <= i /\ i <= l.length /\ l.take i.toNat = m.take i.toNat) (fun i => l.length - i.toNat) (zua n f n2 f2 l m hl)
section
variable {rows : List Row}
end
section
variable {rows : List Row}
theorem set1 {es : List (List PV)} {k : Nat} {v x : PV} (h : es.getD k [] = [x]) : es.set k (v :: zq (qf 1 (es.getD k []))) = es.set k [v] := by rw [h]; rfl
end
theorem zub : tab.length < 1000000 := by have := zrg; omega
theorem zj0 (n f : Bool) : PCall qa 7 [.sl n f (dK tab)] (fN tab) := zsy n f tab zub vK
theorem R32.take {l : List Int} (h : R32 l) (k : Nat) : R32 (l.take k) := fun x hx => h x (qt hx)
section
variable {rows : List Row} {v : PV}
theorem zuc {ts : List PV} {key : Int -> Int} (hT : ∀ r : Int, (-2147483648 <= r /\ r <= 2147483647) -> PCall qa 56 [.ptr ts, .int .i32 r] fun v => v = .int .i64 (key r)) : kI (.ptr ts) key := by
 intro a b ha hb;refine zqa _ _ _ ?_; unfold zgw;refine .inl ⟨ts, rfl, .inl ⟨ts, rfl, ?_⟩⟩;refine (hT a ha).mono ?_;rintro _ rfl;refine ⟨_, rfl, ?_⟩;refine (hT b hb).mono ?_;rintro _ rfl;refine ⟨_, rfl, ?_⟩;refine (p61 _ _).mono ?_;rintro _ rfl;refine ⟨_, rfl, _, rfl, ?_⟩;unfold cmpS; split <;> (try split) <;> omega
theorem zud (hk : kG rows) (hv : fN rows v) (n f : Bool) (L : List Int) (hr : R32 L) (hL : L.length < 1000000000000) : PCall qa 60 [v, .sl n f (aA L)] fun x => ∃ n f, x = .sl n f (aA (cQ (aI rows 1) L)) := by
 obtain ⟨tc, tg, tj, tf, tp, made, sec, rfl, ht, hm⟩ := hv;have hT : ∀ r : Int, (-2147483648 <= r /\ r <= 2147483647) -> PCall qa 56 [.ptr [tc, tg, tj, tf, tp, .mp (eD made), .mp (jQ sec)], .int .i32 r] fun v => v = .int .i64 (aI rows 1 r) := fun r hr => u9 _ _ ht hr;exact PCall.ofA (args := [_, _]) (ztn hk hT (zuc hT) L hr hL) fun r h' ⟨hr, hh⟩ => by subst hr; subst hh; exact ⟨_, rfl, _, _, rfl⟩
theorem zue (hp : dZ rows) {l : List Int} (h : R32 l) : R32 (l.flatMap (aY rows 8)) := fun x hx => by
 obtain ⟨r, hr, h2⟩ := List.mem_flatMap.1 hx;rcases uE hp 8 r x h2 with rfl | h3
 ·exact h x hr
 ·omega
theorem zj1 (rows : List Row) (l : List Int) : (l.flatMap (aY rows 8)).length <= 768 * l.length := by
 induction l with
 | nil => simp
 | cons x l ih =>
   have := rM rows 8 x;rw [qav, qe, qw]; omega
theorem zuf (rows : List Row) {l : List Int} {i : Nat} (hi : i < l.length) : (l.take (i + 1)).flatMap (aY rows 8) = (l.take i).flatMap (aY rows 8) ++ aY rows 8 l[i] := by
 rw [eC hi, List.flatMap_append]; simp
theorem zug (hp : dZ rows) (hk : kG rows) (hv : fN rows v) (n f : Bool) (L : List Int) (hr : R32 L) (hL : L.length < 1000000) : PCall qa 40 [v, .sl n f (aA L)] fun x => ∃ n f, x = .sl n f (aA (fI rows L)) := by
 have hv' := hv;obtain ⟨tc, tg, tj, tf, tp, made, sec, rfl, ht, hm⟩ := hv;refine zt2 _ _ _ _ _ _ _ _ _ _ (fun i h0 _ s => h0 = .ptr [tc, tg, tj, tf, tp, .mp (eD made), .mp (jQ sec)] /\ 0 <= i /\ i <= L.length /\ s = aA ((L.take i.toNat).flatMap (aY rows 8))) (fun i _ _ _ => L.length - i.toNat) ?_;unfold zjt;refine ⟨rfl, ⟨rfl, rfl, qag _, by omega, rfl⟩, ?_⟩;rintro i h0 n1 _ ⟨rfl, i0, i1, rfl⟩;refine aH (fun hc => ?_) (fun hc => ?_)
 ·simp only [aB, dS] at hc;have hi : i.toNat < L.length := by omega
  obtain ⟨g1, g2⟩ := pK i0 hi;have hx := hr _ (qo hi);have hw : i64.wrap (i + 1) = i + 1 := aD (by omega) (by omega);have hfl := zj1 rows (L.take i.toNat);rw [qn] at hfl;refine ⟨g1, L[i.toNat], by rw [g2]; rfl, ?_⟩;refine (zs3 _ _ hp ht 8 _ n1 _ (by omega) hx (by omega)).mono ?_;rintro r h' ⟨nl, rfl, rfl⟩;rw [hw];exact ⟨(nl, _), ⟨rfl, rfl⟩, ⟨trivial, trivial, trivial⟩, rfl, ⟨rfl, by omega, by omega, by rw [show (i + 1).toNat = i.toNat + 1 by omega, zuf rows hi]; rfl⟩, by dsimp only; omega⟩
 ·simp only [aB, dS] at hc;rw [qj (by omega)];have hfl := zj1 rows L;refine (zud hk hv' n1 false _ (zue hp hr) (by omega)).mono ?_;rintro _ ⟨n2, f2, rfl⟩;exact ⟨_, _, _, rfl, _, _, rfl⟩
theorem zuh (hk : kG rows) {l : List Int} (h : l.length < 1000000) : (fI rows l).length < 1000000000000 := by
 have := zo8 hk l; omega
end
end Go.Eng
namespace Go.Eng
open Go Go.Proofs Go.Eng.Rows Go.Eng.Trie
theorem zj2 : zpc tab73 = true := by kernel_rfl
theorem zui : TabC tab where
 one := vL
 closed := zt9
 cls := vM
 syl := fun x hx hk => by
  have := List.all_eq_true.1 zj2 x (zca hx hk);simp only [hk, decide_true, qbf, qbg, qd, qu] at this;exact this.1
 deep := fun x hx hk => by
  have := List.all_eq_true.1 zj2 x (zca hx hk);simp only [hk, decide_true, qbf, qbg, qd, aB] at this;rw [vN, vN]; exact this.2
end Go.Eng
namespace Go.Eng
open Go Go.Proofs
section
variable (a b : Int)
def zj3 (R : PV -> Prop) : Prop :=
 if (decide (a >= 4352) && decide (a < 4371) && decide (b >= 4449) && decide (b < 4470)) = true then R (PV.tup [Z3 (i32.wrap ((44032 : Int) + i32.wrap (i32.wrap (i32.wrap (i32.wrap (i32.wrap (a - 4352) * 21) + b) - 4449) * 28))), Zb true]) else PCall qa 93 [Z3 a] fun v => ∃ b1, v = Zb b1 /\ if (b1 && (i32.wrap (a - 44032)).tmod (28 : Int) == 0 && decide (b > 4519) && decide (b < 4547)) = true then R (PV.tup [Z3 (i32.wrap (i32.wrap (a + b) - 4519)), Zb true]) else R (PV.tup [Z3 0, Zb false])
theorem zuj {R : PV -> Prop} (h : zj3 a b R) : PCall qa 77 [.int .i32 a, .int .i32 b] R :=
 PCall.wz Try.func77 aZ [0, 1, 4, 5, 6, 29] bS h
end
section
variable (tc tg tj tf tp : PV) (M S : List (PV × PV)) (a b : Int)
def zj4 (R : PV -> Prop) : Prop :=
 PCall qa 77 [Z3 a, Z3 b] fun v => ∃ vs, v = PV.tup vs /\ vs.length = 2 /\ ∃ x, vs.head? = some x /\ ∃ n, x = Z3 n /\ ∃ x1, vs.tail.head? = some x1 /\ ∃ b1, x1 = Zb b1 /\ if b1 = true then R (PV.tup [Z3 n, Zb true]) else PCall qa 78 [PV.ptr [tc, tg, tj, tf, tp, PV.mp M, PV.mp S], Z3 a, Z3 b] fun v1 => ∃ vs1, v1 = PV.tup vs1 /\ vs1.length = 2 /\ ∃ x2, vs1.head? = some x2 /\ ∃ n1, x2 = Z3 n1 /\ ∃ x3, vs1.tail.head? = some x3 /\ ∃ b2, x3 = Zb b2 /\ R (PV.tup [Z3 n1, Zb b2])
theorem zuk {R : PV -> Prop} (h : zj4 tc tg tj tf tp M S a b R) : PCall qa 58 [.ptr [tc, tg, tj, tf, tp, .mp M, .mp S], .int .i32 a, .int .i32 b] R :=
 PCall.wz Try.func58 aZ [0, 1, 2, 6, 7, 8, 9, 16] bS h
end
def zcb (tc tg tj tf tp : PV) (M S : List (PV × PV)) (n f : Bool) (es : LL) (x6 x7 x16 : Int) (n_0 : Bool) (s_0 : LL) : Env × Hp := ([(0, LV.pv (PV.ptr [tc, tg, tj, tf, tp, PV.mp M, PV.mp S])), (5, LV.own 0), (6, Y6 x6), (7, Y6 x7), (14, LV.pv (PV.sl n f es)), (15, LV.pv (PV.int i64 (es.length : Int))), (16, Y6 x16)], [.sl (21, 1) true n_0 s_0])
section
variable (tc tg tj tf tp : PV) (M S : List (PV × PV)) (n f : Bool) (es : LL) (J : Int -> Int -> Int -> Bool -> LL -> Prop) (μ : Int -> Int -> Int -> Bool -> LL -> Nat)
def zj5 (R : PV -> Prop) : Prop :=
 (aF (zcb tc tg tj tf tp M S n f es (-1 : Int) (0 : Int) (0 : Int) true []) /\ J (-1 : Int) (0 : Int) (0 : Int) true []) /\ ∀ (x6 x7 x16 : Int) (n_0 : Bool) (s_0 : LL), J x6 x7 x16 n_0 s_0 ->
 let K5 := fun (y0_ y1_ y2_ : Int) (y3_ : Bool) (y4_ : LL) => aF (zcb tc tg tj tf tp M S n f es y0_ y1_ y2_ y3_ y4_) /\ J y0_ y1_ y2_ y3_ y4_ /\ μ y0_ y1_ y2_ y3_ y4_ < μ x6 x7 x16 n_0 s_0; if decide (x16 < (↑es.length :
  Int)) = true then aP es x16 1 /\ ∃ n1, (es.getD x16.toNat []).head? = some (Z3 n1) /\ PCall qa 56 [PV.ptr [tc, tg, tj, tf, tp, PV.mp M, PV.mp S], Z3 n1] fun v => ∃ n2, v = Z6 n2 /\
 let V1 := if (n2 == 0) = true then (bC [[Z3 n1]] 1 /\ (s_0.length + 1) * 4 <= 140737488355328) /\ K5 (↑s_0.length : Int) n2 (i64.wrap (x16 + 1)) (n_0 && false) (s_0 ++ [[Z3 n1]]) else (bC [[Z3 n1]] 1 /\ (s_0.length + 1) * 4 <=
  140737488355328) /\ K5 x6 n2 (i64.wrap (x16 + 1)) (n_0 && false) (s_0 ++ [[Z3 n1]]); if (decide (x6 >= 0) && (x6 == i64.wrap ((↑s_0.length : Int) - 1) || x7 != 0 && decide (x7 < n2))) = true then aP s_0 x6 1 /\ ∃ (n3 :
  Int), (qf 0 (s_0.getD x6.toNat [])).head? = some (Z3 n3) /\ PCall qa 58 [PV.ptr [tc, tg, tj, tf, tp, PV.mp M, PV.mp S], Z3 n3, Z3 n1] fun v1 => ∃ vs, v1 = PV.tup vs /\ vs.length = 2 /\ ∃ x, vs.head? =
  some x /\ ∃ n4, x = Z3 n4 /\ ∃ x1, vs.tail.head? = some x1 /\ ∃ b, x1 = Zb b /\ if b = true then aP s_0 x6 1 /\ (1 = 1 /\ 1 <= (s_0.getD x6.toNat []).length) /\ K5 x6 x7 (i64.wrap (x16 + 1)) n_0 (s_0.set
  x6.toNat (Z3 n4 :: zq (qf 1 (s_0.getD x6.toNat [])))) else V1 else V1 else R (PV.sl n_0 false s_0)
theorem zul {R : PV -> Prop} (h : zj5 tc tg tj tf tp M S n f es J μ R) : PCall qa 39 [.ptr [tc, tg, tj, tf, tp, .mp M, .mp S], .sl n f es] R :=
 PCall.wz Try.func39 aZ [0, 1, 4, 5, 6, 7, 9, 10, 11, 12, 13, 14, 15, 16, 17, 41, 52, 58] (d8 5 (bU cz5 (zcb tc tg tj tf tp M S n f es) J μ (fun e h => (gI e 6, gI e 7, gI e 16, oN h 0, oS h 0)) [(5, 21, 1)] [0, 5, 6, 7, 14, 15, 16] [])) h
end
section
variable (tc tg tj tf tp : PV) (M S : List (PV × PV)) (n f : Bool) (es : LL)
def zj6 (R : PV -> Prop) : Prop :=
 PCall qa 40 [PV.ptr [tc, tg, tj, tf, tp, PV.mp M, PV.mp S], PV.sl n f es] fun v => ∃ n1 f1 es1, v = PV.sl n1 f1 es1 /\ PCall qa 39 [PV.ptr [tc, tg, tj, tf, tp, PV.mp M, PV.mp S], PV.sl n1 f1 es1] fun v1 => ∃ n2 f2 es2, v1 = PV.sl n2 f2 es2 /\ R (PV.sl n2 f2 es2)
theorem zum {R : PV -> Prop} (h : zj6 tc tg tj tf tp M S n f es R) : PCall qa 16 [.ptr [tc, tg, tj, tf, tp, .mp M, .mp S], .sl n f es] R :=
 PCall.wz Try.func16 aZ [0, 1, 4] bS h
end
end Go.Eng
namespace Go.Eng
open Go Go.Proofs Go.Eng.Rows Go.Eng.Trie Go.Eng.Srt
def vO : Option Int -> PV
 | some r => .tup [.int .i32 r, .bool true]
 | none => .tup [.int .i32 0, .bool false]
theorem zun {a b : Int} (ha : -2147483648 <= a /\ a <= 2147483647) (hb : -2147483648 <= b /\ b <= 2147483647) : PCall qa 77 [.int .i32 a, .int .i32 b] fun v => v = vO (gV a b) := by
 refine zuj _ _ ?_; unfold zj3;refine aH (fun hc => ?_) (fun hc => ?_)
 ·simp only [qd, aB, ge_iff_le] at hc;have w1 : i32.wrap (a - 4352) = a - 4352 := dR (by omega) (by omega);have w2 : i32.wrap ((a - 4352) * 21) = (a - 4352) * 21 := dR (by omega) (by omega);have w3 : i32.wrap ((a - 4352) * 21 + b) = (a - 4352) * 21 + b := dR (by omega) (by omega);have w4 : i32.wrap ((a - 4352) * 21 + b - 4449) = (a - 4352) * 21 + b - 4449 := dR (by omega) (by omega);have w5 : i32.wrap (((a - 4352) * 21 + b - 4449) * 28) = ((a - 4352) * 21 + b - 4449) * 28 := dR (by omega) (by omega);have w6 : i32.wrap (44032 + ((a - 4352) * 21 + b - 4449) * 28) = 44032 + ((a - 4352) * 21 + b - 4449) * 28 := dR (by omega) (by omega);rw [w1, w2, w3, w4, w5, w6];unfold gV;rw [if_pos (by omega)];simp only [vO];rw [show (a - 4352) * 21 + b - 4449 = (a - 4352) * 21 + (b - 4449) by omega]
 ·simp only [qd, aB, ge_iff_le] at hc;refine (zjc a).mono ?_;rintro _ rfl;refine ⟨_, rfl, ?_⟩;have hn : ¬ ((4352 <= a /\ a < 4371) /\ 4449 <= b /\ b < 4470) := by omega
  cases hs : cO a with
  | false =>
    refine cJ (by simp) ?_;unfold gV; rw [if_neg hn, if_neg (by rw [hs]; simp)]; rfl
  | true =>
    have hr := hs;simp only [cO, qd, aB] at hr;have w1 : i32.wrap (a - 44032) = a - 44032 := dR (by omega) (by omega);have e3 : (a - 44032).tmod 28 = (a - 44032) % 28 := Int.tmod_eq_emod_of_nonneg (by omega);rw [w1, e3];refine aH (fun h2 => ?_) (fun h2 => ?_)
    ·simp only [qd, aB, gt_iff_lt, beq_iff_eq, qbh] at h2;have w2 : i32.wrap (a + b) = a + b := dR (by omega) (by omega);have w3 : i32.wrap (a + b - 4519) = a + b - 4519 := dR (by omega) (by omega);rw [w2, w3];unfold gV; rw [if_neg hn, if_pos ⟨⟨hs, h2.1.1⟩, h2.1.2, h2.2⟩];simp only [vO];rw [show a + b - 4519 = a + (b - 4519) by omega]
    ·simp only [qd, aB, gt_iff_lt, beq_iff_eq, qbh] at h2;unfold gV; rw [if_neg hn, if_neg (by omega)]; rfl
section
variable {rows : List Row} {v : PV}
theorem zuo (hp : dZ rows) (h1 : eU rows) (hv : fN rows v) {a b : Int} (ha : -2147483648 <= a /\ a <= 2147483647) (hb : -2147483648 <= b /\ b <= 2147483647) : PCall qa 58 [v, .int .i32 a, .int .i32 b] fun x => x = vO (gW rows a b) := by
 obtain ⟨tc, tg, tj, tf, tp, made, sec, rfl, ht, hm⟩ := hv;refine zuk _ _ _ _ _ _ _ _ _ ?_; unfold zj4;refine (zun ha hb).mono ?_;rintro _ rfl;unfold gW;cases gV a b with
 | some r =>
   exact ⟨_, rfl, rfl, _, rfl, _, rfl, _, rfl, _, rfl, cD rfl rfl⟩
 | none =>
   refine ⟨_, rfl, rfl, _, rfl, _, rfl, _, rfl, _, rfl, cJ (by simp) ?_⟩;refine (zsx _ _ _ _ _ _ made a b).mono ?_;rintro _ rfl;rw [<- zo9 hp h1 hm a b];unfold vA;split
   ·exact ⟨_, rfl, rfl, _, rfl, _, rfl, _, rfl, _, rfl, rfl⟩
   ·cases bY (a, b) made with
    | none => exact ⟨_, rfl, rfl, _, rfl, _, rfl, _, rfl, _, rfl, rfl⟩
    | some r => exact ⟨_, rfl, rfl, _, rfl, _, rfl, _, rfl, _, rfl, rfl⟩
def gM (st : CSt) : Int := match st.s with | none => -1 | some _ => st.P.length
theorem zup {d : List Int} : ∀ m ∈ (bT rows d).M, aI rows 1 m ≠ 0 := by
 induction d using jN with
 | h0 => intro m hm; cases hm
 | h1 d r ih =>
   rw [i9];rcases rR rows (bT rows d) r with e | ⟨a, c, hs, hp, _, e⟩
   ·rw [e];unfold cU;split
    ·intro m hm; cases hm
    ·rename_i h0;intro m hm;rcases List.mem_append.1 hm with hm | hm
     ·exact ih m hm
     ·rw [List.mem_singleton] at hm; subst hm; exact h0
   ·rw [e]; exact ih
def JC (rows : List Row) (L : List Int) (x6 x7 i : Int) (s : List (List PV)) : Prop := (0 <= i /\ i <= L.length) /\ s = aA (bT rows (L.take i.toNat)).out /\ x6 = gM (bT rows (L.take i.toNat)) /\ x7 = eH (aI rows 1) (bT rows (L.take i.toNat)).M
theorem JC.next {L : List Int} {i : Int} (h0 : 0 <= i) (hi : i.toNat < L.length) {st : CSt} (he : cR rows (bT rows (L.take i.toNat)) L[i.toNat] = st) : JC rows L (gM st) (eH (aI rows 1) st.M) (i + 1) (aA st.out) := by
 have e : bT rows (L.take (i + 1).toNat) = st := by
  rw [show (i + 1).toNat = i.toNat + 1 by omega, eC hi, i9, he]
 exact ⟨⟨by omega, by omega⟩, by rw [e], by rw [e], by rw [e]⟩
theorem zuq (hp : dZ rows) (h1 : eU rows) (hv : fN rows v) (n f : Bool) (L : List Int) (hr : R32 L) (hL : L.length < 1000000000000) : PCall qa 39 [v, .sl n f (aA L)] fun x => ∃ n f, x = .sl n f (aA (fJ rows L)) := by
 have hv' := hv;obtain ⟨tc, tg, tj, tf, tp, made, sec, rfl, ht, hm⟩ := hv;refine zul _ _ _ _ _ _ _ _ _ _ (fun x6 x7 i _ s => JC rows L x6 x7 i s) (fun _ _ i _ _ => L.length - i.toNat) ?_;unfold zj5;refine ⟨⟨rfl, ⟨qag _, by omega⟩, rfl, rfl, rfl⟩, ?_⟩;rintro x6 x7 i n0 _ ⟨⟨i0, i1⟩, rfl, rfl, rfl⟩;refine aH (fun hc => ?_) (fun hc => ?_)
 ·simp only [aB, dS] at hc;have hi : i.toNat < L.length := by omega
  obtain ⟨g1, g2⟩ := pK i0 hi;have hx := hr _ (qo hi);have hw : i64.wrap (i + 1) = i + 1 := aD (by omega) (by omega);refine ⟨g1, L[i.toNat], by rw [g2]; rfl, ?_⟩;refine (u9 _ _ ht hx).mono ?_;rintro _ rfl;refine ⟨_, rfl, ?_⟩;rw [hw];have hlen := zf9 rows (L.take i.toNat);have hrng := zga h1 (L.take i.toNat);have hnz := zup (rows := rows) (d := L.take i.toNat);have hnP := uM (rows := rows) (d := L.take i.toNat);rw [qn] at hlen;unfold fJ at hlen hrng;have next := fun st => JC.next (rows := rows) (st := st) i0 hi
  generalize bT rows (L.take i.toNat) = st at *;have hmu : L.length - (i + 1).toNat < L.length - i.toNat := by omega
  have hsz : bC [[PV.int .i32 L[i.toNat]]] 1 /\ ((aA st.out).length + 1) * 4 <= 140737488355328 := ⟨nO [_], by rw [dS]; omega⟩;have hout : aA st.out ++ [[PV.int .i32 L[i.toNat]]] = aA (st.out ++ [L[i.toNat]]) := by rw [rZ]; rfl
  have hl : ((aA st.out).length : Int) = st.out.length := by rw [dS]
  have app0 : cR rows st L[i.toNat] = cU (aI rows 1) st L[i.toNat] -> aI rows 1 L[i.toNat] = 0 -> JC rows L (aA st.out).length (aI rows 1 L[i.toNat]) (i + 1) (aA st.out ++ [[PV.int .i32 L[i.toNat]]]) := fun he h0 => by
   have := next _ (he.trans (by unfold cU; rw [if_pos h0]))
   rw [hout, hl, h0];simpa [gM, eH, CSt.out] using this
  have app1 : cR rows st L[i.toNat] = cU (aI rows 1) st L[i.toNat] -> aI rows 1 L[i.toNat] ≠ 0 -> JC rows L (gM st) (aI rows 1 L[i.toNat]) (i + 1) (aA st.out ++ [[PV.int .i32 L[i.toNat]]]) := fun he h0 => by
   have := next _ (he.trans (by unfold cU; rw [if_neg h0]))
   rw [hout];simp only [y7] at this;have e2 : st.out ++ [L[i.toNat]] = CSt.out ⟨st.P, st.s, st.M ++ [L[i.toNat]]⟩ := by simp [CSt.out]
   rw [e2];exact this
  refine aH (fun hf => ?_) (fun hf => ?_)
  ·simp only [qd, aB, qp, beq_iff_eq, bne_iff_ne, ne_eq, ge_iff_le] at hf;obtain ⟨hf1, hf2⟩ := hf;cases hs : st.s with
   | none => simp [gM, hs] at hf1
   | some a =>
     have hsi : gM st = st.P.length := by simp [gM, hs]
     have hol : st.out.length = st.P.length + 1 + st.M.length := by simp [CSt.out, hs]; omega
     have hw2 : i64.wrap ((aA st.out).length - 1) = st.out.length - 1 := by rw [hl]; exact aD (by omega) (by omega)
     have hfree : st.M = [] ∨ eH (aI rows 1) st.M < aI rows 1 L[i.toNat] := by
      rcases hf2 with h | h
      ·rw [hw2, hsi] at h;exact .inl (List.eq_nil_of_length_eq_zero (by omega))
      ·exact .inr h.2
     have hat : st.out[st.P.length]'(by omega) = a := by simp [CSt.out, hs]
     obtain ⟨k1, k2⟩ := pK (l := st.out) (i := gM st) (by omega) (by omega);have hta : (gM st).toNat = st.P.length := by omega
     have k3 : (aA st.out).getD (gM st).toNat [] = [PV.int .i32 a] := by
      rw [k2]; simp only [hta, hat]
     have ha : -2147483648 <= a /\ a <= 2147483647 := by
      rcases hrng a (by simp [CSt.out, hs]) with h | h
      ·exact hr a (qt h)
      ·omega
     refine ⟨k1, a, by rw [k3]; rfl, ?_⟩;refine (zuo hp h1 hv' ha hx).mono ?_;rintro _ rfl;cases hpc : gW rows a L[i.toNat] with
     | some c =>
       refine ⟨_, rfl, rfl, _, rfl, _, rfl, _, rfl, _, rfl, cD rfl ⟨k1, ⟨rfl, by rw [k3]; exact qi _⟩, rfl, ?_, by dsimp only; omega⟩⟩;rw [k3, hta]
       have he : cR rows st L[i.toNat] = ⟨st.P, some c, st.M⟩ := by
        unfold cR; rw [hs]; simp only; rw [if_pos hfree, hpc]
       have := next _ he
       have e2 : (aA st.out).set st.P.length [PV.int .i32 c] = aA (CSt.out ⟨st.P, some c, st.M⟩) := by
        simp [CSt.out, hs, aA]
       have e3 : gM ⟨st.P, some c, st.M⟩ = gM st := by rw [hsi]; rfl
       rw [e3] at this;show JC rows L (gM st) (eH (aI rows 1) st.M) (i + 1) ((aA st.out).set st.P.length [PV.int .i32 c]);rw [e2];exact this
     | none =>
       have he : cR rows st L[i.toNat] = cU (aI rows 1) st L[i.toNat] := by
        unfold cR; rw [hs]; simp only; rw [if_pos hfree, hpc]
       refine ⟨_, rfl, rfl, _, rfl, _, rfl, _, rfl, _, rfl, cJ (by simp) (aH (fun h0 => ?_) (fun h0 => ?_))⟩
       ·exact ⟨hsz, rfl, app0 he (by simpa using h0), by dsimp only; omega⟩
       ·exact ⟨hsz, rfl, app1 he (by simpa using h0), by dsimp only; omega⟩
  ·simp only [qd, aB, qp, beq_iff_eq, bne_iff_ne, ne_eq, ge_iff_le] at hf
   have he : cR rows st L[i.toNat] = cU (aI rows 1) st L[i.toNat] := by
    rcases rR rows st L[i.toNat] with e | ⟨a, c, hs, hpc, hfree, e⟩
    ·exact e
    ·have hsi : gM st = st.P.length := by simp [gM, hs]
     have hol : st.out.length = st.P.length + 1 + st.M.length := by simp [CSt.out, hs]; omega
     have hw2 : i64.wrap ((aA st.out).length - 1) = st.out.length - 1 := by rw [hl]; exact aD (by omega) (by omega)
     refine absurd ⟨by omega, ?_⟩ hf;by_cases hM : st.M = []
     ·left; rw [hw2, hsi, hol, hM]; simp
     ·right;obtain ⟨m, hm, e⟩ := y9 (key := aI rows 1) hM;exact ⟨by rw [e]; exact hnz m hm, hfree.elim (fun e => absurd e hM) id⟩
   refine aH (fun h0 => ?_) (fun h0 => ?_)
   ·exact ⟨hsz, rfl, app0 he (by simpa using h0), by dsimp only; omega⟩
   ·exact ⟨hsz, rfl, app1 he (by simpa using h0), by dsimp only; omega⟩
 ·simp only [aB, dS] at hc;rw [qj (by omega)];exact ⟨_, _, rfl⟩
theorem zur (hp : dZ rows) (h1 : eU rows) (hk : kG rows) (hv : fN rows v) (n f : Bool) (L : List Int) (hr : R32 L) (hL : L.length < 1000000) : PCall qa 16 [v, .sl n f (aA L)] fun x => ∃ n f, x = .sl n f (aA (dT rows L)) := by
 have hv' := hv;obtain ⟨tc, tg, tj, tf, tp, made, sec, rfl, ht, hm⟩ := hv;refine zum _ _ _ _ _ _ _ _ _ _ ?_; unfold zj6;refine (zug hp hk hv' n f L hr hL).mono ?_;rintro _ ⟨n1, f1, rfl⟩;refine ⟨_, _, _, rfl, ?_⟩;refine (zuq hp h1 hv' _ _ _ (zf6 hk hp hr) (zuh hk hL)).mono ?_;rintro _ ⟨n2, f2, rfl⟩;exact ⟨_, _, _, rfl, _, _, rfl⟩
theorem zus (hp : dZ rows) (h1 : eU rows) (hk : kG rows) {l : List Int} (h : R32 l) : R32 (dT rows l) := fun x hx => by
 rcases zga h1 _ x hx with h2 | h2
 ·exact zf6 hk hp h x h2
 ·omega
end
theorem v22 : Try.prog.underlying 22 = some (.slice 21) := by kernel_rfl
theorem v21 : Try.prog.underlying 21 = some (.int .i32) := by kernel_rfl
end Go.Eng
namespace Go.Eng
open Go Go.Proofs
end Go.Eng
namespace Go.Eng
open Go Go.Proofs Go.Eng.Rows Go.Eng.Trie Go.Eng.Srt
theorem zj7 {t : PV} (ht : fN tab t) (n f : Bool) (L : List Int) (hr : R32 L) (hL : L.length < 1000000) : PCall qa 16 [t, .sl n f (aA L)] fun x => ∃ n f, x = .sl n f (aA (dT tab L)) := zur vK vL vM ht n f L hr hL
theorem zj8 {l : List Int} (h : R32 l) : R32 (dT tab l) := zus vK vL vM h
theorem zut {len : Nat} {i j : Int} (h0 : 0 <= i) (h1 : i <= j) (h2 : j <= len) : iA len (some i) (some j) none := ⟨h0, h1, h2, trivial⟩
theorem zuu (L : List Int) (i j : Nat) : qf i (List.take j (aA L)) = aA (fW L i j) := by simp [aA, fW]
theorem R32.sub {L : List Int} (h : R32 L) (i j : Nat) : R32 (fW L i j) := fun x hx => h x (qt (List.mem_of_mem_drop hx))
theorem zuv (L : List Int) (i j : Nat) : (fW L i j).length <= L.length := by unfold fW; rw [qv, qn]; omega
theorem w3 : Try.prog.underlying 3 = some (.int .i64) := by kernel_rfl
theorem zuw {v : PV} (h : oZ qa 8 3 v) : ∃ n : Int, v = .int .i64 n := by
 obtain ⟨m, e, _⟩ := znz w3 (zn0 (by kernel_rfl) h);cases e;exact ⟨m, rfl⟩
end Go.Eng

namespace Go.Eng.Rows
open Go Go.Eng Go.Eng.Trie Go.Eng.Srt
def vP (rows : List Row) (hard : List Int) (lo hi : Int) : Bool := rows.all fun y => !(decide (y.kind = 4) && hard.contains y.a) || (decide (y.to < lo) || decide (hi < y.fr))
theorem zj9 {rows : List Row} {hard : List Int} {lo hi r : Int} (h : vP rows hard lo hi = true) (h0 : hard.contains 0 = false) (h1 : hard.contains 12 = false) (h2 : hard.contains 13 = false) (hr : lo <= r /\ r <= hi) : hard.contains (bM rows r) = false := by
 unfold bM;split
 ·split <;> assumption
 ·unfold aI;cases hf : cC rows 4 r with
  | none => exact h0
  | some p =>
    obtain ⟨x, hx, hk, ha, _, h3, h4, _⟩ := lG hf;dsimp only;rw [<- ha];have := List.all_eq_true.1 h x hx;simp only [qp, qu, qam, aB, dD] at this;rcases this with (h5 | h5) | h5 | h5
    ·exact absurd hk h5
    ·exact h5
    ·omega
    ·omega
def zux (rows : List Row) : Bool := rows.all fun x =>
 (!(decide (x.kind = 5) && decide (x.a = 1)) || vP rows [1, 2, 3, 5] x.fr x.to) &&
 (!decide (x.kind = 6) || (vP rows [1, 2, 3] x.fr x.to && ((decide (0 <= x.a) && decide (x.a <= 2)) && (!decide (x.a = 1) || (decide (x.fr = x.to) && (decide (bM rows x.fr = 4) || (decide (bM rows x.fr = 5) || decide (bM rows x.fr = 8))))))))
theorem zuy {b : Int} (h : ([1, 2, 3] : List Int).contains b = false) : fX b = false := by
 simp only [qas, qaw, qbi, qx, beq_eq_false_iff_ne, ne_eq] at h;unfold fX;simp only [qx, dD]; omega
theorem zuz {rows : List Row} (h : zux rows = true) : kH rows := by
 have hall := List.all_eq_true.1 h
 have h6 : ∀ r, aI rows 6 r ≠ 0 -> ∃ x ∈ rows, x.kind = 6 /\ x.a = aI rows 6 r /\ x.fr <= r /\ r <= x.to := fun r hr => by
  unfold aI at hr ⊢;cases hf : cC rows 6 r with
  | none => rw [hf] at hr; exact absurd rfl hr
  | some p =>
    obtain ⟨x, hx, hk, ha, _, h3, h4, _⟩ := lG hf;exact ⟨x, hx, hk, ha, h3, h4⟩
 have g6 : ∀ x ∈ rows, x.kind = 6 -> vP rows [1, 2, 3] x.fr x.to = true /\ (0 <= x.a /\ x.a <= 2) /\ (x.a ≠ 1 ∨ (x.fr = x.to /\ (bM rows x.fr = 4 ∨ bM rows x.fr = 5 ∨ bM rows x.fr = 8))) := fun x hx hk => by
  have := hall x hx;simp only [qd, qp, qu, aB, dD] at this;rcases this.2 with h | h
  ·exact absurd hk h
  ·exact h
 refine ⟨fun r hr => ?_, fun r => ?_, fun r hr => ?_, fun r hr => ?_⟩
 ·unfold dF at hr;cases hf : cC rows 5 r with
  | none => rw [hf] at hr; cases hr
  | some p =>
    rw [hf] at hr;obtain ⟨x, hx, hk, ha, _, h3, h4, _⟩ := lG hf;have := hall x hx;simp only [qd, qp, qu, qam, dD] at this;rcases this.1 with (h5 | h5) | h5
    ·exact absurd hk h5
    ·exact absurd (ha.trans (of_decide_eq_true hr)) h5
    ·have := zj9 h5 (by decide) (by decide) (by decide) ⟨h3, h4⟩;simp only [qas, qaw, qbi, qx, beq_eq_false_iff_ne, ne_eq] at this;refine ⟨?_, this.2.2.2⟩;unfold fX;simp only [qx, dD]; exact ⟨this.2.2.1, this.1, this.2.1⟩
 ·unfold dB;split
  ·rename_i hn;obtain ⟨x, hx, hk, ha, _, _⟩ := h6 r hn;have := (g6 x hx hk).2.1;omega
  ·split
   ·exact .inr (.inr (.inr rfl))
   ·exact .inl rfl
 ·unfold dB at hr;split at hr
  ·rename_i hn;obtain ⟨x, hx, hk, ha, h3, h4⟩ := h6 r hn;exact zuy (zj9 (g6 x hx hk).1 (by decide) (by decide) (by decide) ⟨h3, h4⟩)
  ·split at hr
   ·rename_i h4;unfold fX;rcases h4.1 with e | e <;> rw [e] <;> rfl
   ·exact absurd rfl hr
 ·unfold dB at hr;split at hr
  ·rename_i hn;obtain ⟨x, hx, hk, ha, h3, h4⟩ := h6 r hn;obtain ⟨_, g2, g3⟩ := g6 x hx hk;have h1 : x.a = 1 := by omega
   obtain ⟨g4, g5⟩ := g3.resolve_left (fun h => h h1);rw [show r = x.fr by omega]; exact g5
  ·split at hr
   ·rename_i h4;rcases h4.1 with e | e
    ·exact .inl e
    ·exact .inr (.inl e)
   ·omega
end Go.Eng.Rows
namespace Go.Eng
open Go.Eng.Rows
theorem zka : kH tab := zuz (by kernel_rfl)
end Go.Eng

namespace Go.Eng
open Go Go.Proofs
section
variable (tc tg tj tf tp : PV) (M S : List (PV × PV)) (r : Int)
def zkb (R : PV -> Prop) : Prop :=
 if (decide (r >= 44032) && decide (r <= 55203) && (i32.wrap (r - 44032)).tmod (28 : Int) == 0) = true then R (Z6 12) else if (decide (r >= 44032) && decide (r <= 55203)) = true then R (Z6 13) else (∃ ps, some tg = some (PV.ptr ps) /\ PCall qa 72 [PV.ptr ps, Z6 (i64.wrap r)] fun v => ∃ n, v = Z6 n /\ R (Z6 n)) ∨ some tg = some PV.nilp /\ PCall qa 72 [PV.nilp, Z6 (i64.wrap r)] fun v => ∃ n, v = Z6 n /\ R (Z6 n)
theorem zu0 {R : PV -> Prop} (h : zkb tg r R) : PCall qa 73 [.ptr [tc, tg, tj, tf, tp, .mp M, .mp S], .int .i32 r] R :=
 PCall.wz Try.func73 aZ [0, 1, 4, 5, 18, 25] bS h
end
section
variable (tc tg tj tf tp : PV) (M S : List (PV × PV)) (r : Int)
def zkc (R : PV -> Prop) : Prop :=
 let V1 := PCall qa 73 [PV.ptr [tc, tg, tj, tf, tp, PV.mp M, PV.mp S], Z3 r] fun v1 => ∃ n1, v1 = Z6 n1 /\ if ((n1 == 4 || n1 == 5) && r != 8204) = true then R (Z6 3) else R (Z6 0); (∃ ps, some tj = some (PV.ptr ps) /\ PCall qa 72 [PV.ptr ps, Z6 (i64.wrap r)] fun v => ∃ n, v = Z6 n /\ if (n != 0) = true then R (Z6 n) else V1) ∨ some tj = some PV.nilp /\ PCall qa 72 [PV.nilp, Z6 (i64.wrap r)] fun v => ∃ n, v = Z6 n /\ if (n != 0) = true then R (Z6 n) else V1
theorem zu1 {R : PV -> Prop} (h : zkc tc tg tj tf tp M S r R) : PCall qa 75 [.ptr [tc, tg, tj, tf, tp, .mp M, .mp S], .int .i32 r] R :=
 PCall.wz Try.func75 aZ [0, 1, 4, 5, 6, 8, 17, 31] bS h
end
section
variable (tc tg tj tf tp : PV) (M S : List (PV × PV)) (r : Int)
def zkd (R : PV -> Prop) : Prop :=
 (∃ ps, some tf = some (PV.ptr ps) /\ PCall qa 55 [PV.ptr ps, Z6 (i64.wrap r)] fun v => ∃ cs, v = PV.agg cs /\ cs.length = 4 /\ ∃ b, cs.head? = some (Zb b) /\ ∃ b1, cs.tail.head? = some (Zb b1) /\ ∃ b2, cs.tail.tail.head? = some (Zb b2) /\ ∃ b3, cs.tail.tail.tail.head? = some (Zb b3) /\ R (Zb b)) ∨ some tf = some PV.nilp /\ PCall qa 55 [PV.nilp, Z6 (i64.wrap r)] fun v => ∃ cs, v = PV.agg cs /\ cs.length = 4 /\ ∃ b, cs.head? = some (Zb b) /\ ∃ b1, cs.tail.head? = some (Zb b1) /\ ∃ b2, cs.tail.tail.head? = some (Zb b2) /\ ∃ b3, cs.tail.tail.tail.head? = some (Zb b3) /\ R (Zb b)
theorem zu2 {R : PV -> Prop} (h : zkd tf r R) : PCall qa 74 [.ptr [tc, tg, tj, tf, tp, .mp M, .mp S], .int .i32 r] R :=
 PCall.wz Try.func74 aZ [0, 1, 4] bS h
end
section
variable (a b : Int)
def zke (R : PV -> Prop) : Prop :=
 let X := if (a == 13) = true then if (a == 13) = true then R (Zb (b == 11)) else R (Zb false) else if (a == 11) = true then R (Zb (b == 11)) else R (Zb false)
 let A := if (a == 7) = true then R (Zb true) else if (a == 9) = true then R (Zb (b == 9 || b == 10 || b == 12 || b == 13)) else if (a == 12) = true then if (a == 12) = true then R (Zb (b == 10 || b == 11)) else X else if (a == 10) = true then R (Zb (b == 10 || b == 11)) else X
 let B := if (b == 4) = true then if (b == 4) = true then R (Zb true) else A else if (b == 5) = true then if (b == 5) = true then R (Zb true) else A else if (b == 8) = true then R (Zb true) else A
 let C := if (b == 1) = true then if (b == 1) = true then R (Zb false) else B else if (b == 2) = true then if (b == 2) = true then R (Zb false) else B else if (b == 3) = true then R (Zb false) else B
 if (a == 1) = true then R (Zb (b == 2)) else if (a == 2) = true then if (a == 2) = true then R (Zb false) else C else if (a == 3) = true then R (Zb false) else C
theorem zu3 {R : PV -> Prop} (h : zke a b R) : PCall qa 76 [.int .i64 a, .int .i64 b] R :=
 PCall.wz Try.func76 aZ [0, 1, 4, 5, 6, 10, 13, 14, 18, 22, 23, 25, 41, 50] bS h
end
section
variable (so od : Bool) (la pi co : Int) (tc tg tj tf tp : PV) (M S : List (PV × PV)) (r : Int)
def zkf (R : PV -> Prop) : Prop :=
 PCall qa 73 [PV.ptr [tc, tg, tj, tf, tp, PV.mp M, PV.mp S], Z3 r] fun v => ∃ n, v = Z6 n /\ PCall qa 74 [PV.ptr [tc, tg, tj, tf, tp, PV.mp M, PV.mp S], Z3 r] fun v1 => ∃ b, v1 = Zb b /\ PCall
 qa 75 [PV.ptr [tc, tg, tj, tf, tp, PV.mp M, PV.mp S], Z3 r] fun v2 => ∃ n1, v2 = Z6 n1 /\ PCall qa 76 [Z6 la, Z6 n] fun v3 => ∃ b1, v3 = Zb b1 /\
 let C : Int -> Bool -> Bool -> Prop := fun p o c => if (n1 == 2) = true then R (PV.tup [PV.agg [Zb true, Z6 n, Z6 p, Z6 1, Zb o], Zb c]) else if (co != 0 && n1 == 1) = true then R (PV.tup [PV.agg [Zb true, Z6 n, Z6 p, Z6 2, Zb o], Zb c]) else if (co != 0 && n1 == 3) = true then R (PV.tup [PV.agg [Zb true, Z6 n, Z6 p, Z6 co, Zb o], Zb c]) else R (PV.tup [PV.agg [Zb true, Z6 n, Z6 p, Z6 0, Zb o], Zb c])
 let D : Bool -> Bool -> Prop := fun o c => if b = true then C 1 o c else if (pi == 1 && n == 4) = true then C 1 o c else if (pi == 1 && n == 5) = true then C 2 o c else C 0 o c
 let E : Bool -> Prop := fun c => if (n == 6) = true then D (!od) c else D false c
 if (!b1) = true then if (!(pi == 2 && b)) = true then if (!(co == 2 && n1 == 2)) = true then E (!so || !(od && n == 6)) else E (!so || false) else E (!so || false) else E (!so || false)
theorem zu4 {R : PV -> Prop} (h : zkf so od la pi co tc tg tj tf tp M S r R) : PCall qa 57 [.agg [.bool so, .int .i64 la, .int .i64 pi, .int .i64 co, .bool od], .ptr [tc, tg, tj, tf, tp, .mp M, .mp S], .int .i32 r] R :=
 PCall.wz Try.func57 aZ [0, 1, 2, 3, 6, 7, 8, 9, 10, 11, 12, 64, 67, 76, 85, 89, 98] bS h
end
def zcc (tc tg tj tf tp : PV) (M S : List (PV × PV)) (n f : Bool) (es : LL) (x2 : Int) (h0_0 : Bool) (h0_1 h0_2 h0_3 : Int) (h0_4 : Bool) : Env × Hp := ([(0, LV.pv (PV.ptr [tc, tg, tj, tf, tp, PV.mp M, PV.mp S])), (1, LV.pv (PV.sl n f es)), (2, Y6 x2), (7, LV.box 0 0)], [.box [.pv (.bool h0_0), Y6 h0_1, Y6 h0_2, Y6 h0_3, .pv (.bool h0_4)]])
section
variable (tc tg tj tf tp : PV) (M S : List (PV × PV)) (n f : Bool) (es : LL) (k : Int) (J : Int -> Bool -> Int -> Int -> Int -> Bool -> Prop) (μ : Int -> Bool -> Int -> Int -> Int -> Bool -> Nat)
def zkg (R : PV -> Prop) : Prop :=
 if (decide (k < 0) || decide (k >= (↑es.length : Int))) = true then R (Z6 (↑es.length : Int)) else aP es k 1 /\ ∃ n1, (es.getD k.toNat []).head? = some (Z3 n1) /\ PCall qa 57 [PV.agg [Zb false, Z6 0, Z6 0, Z6 0, Zb false],
  PV.ptr [tc, tg, tj, tf, tp, PV.mp M, PV.mp S], Z3 n1] fun v => ∃ vs, v = PV.tup vs /\ vs.length = 2 /\ ∃ x, vs.head? = some x /\ ∃ cs, x = PV.agg cs /\ cs.length = 5 /\ ∃ b, cs.head? = some (Zb b)
  /\ ∃ n2, cs.tail.head? = some (Z6 n2) /\ ∃ n3, cs.tail.tail.head? = some (Z6 n3) /\ ∃ n4, cs.tail.tail.tail.head? = some (Z6 n4) /\ ∃ b1, cs.tail.tail.tail.tail.head? = some (Zb b1) /\ ∃ (x1 : PV),
  vs.tail.head? = some x1 /\ ∃ b2, x1 = Zb b2 /\ (aF (zcc tc tg tj tf tp M S n f es (i64.wrap (k + 1)) b n2 n3 n4 b1) /\ J (i64.wrap (k + 1)) b n2 n3 n4 b1) /\ ∀ (x2 : Int) (h0_0 : Bool) (h0_1 h0_2 h0_3 : Int)
  (h0_4 : Bool), J x2 h0_0 h0_1 h0_2 h0_3 h0_4 ->
 let K5 := fun (y0_ : Int) (y1_ : Bool) (y2_ y3_ y4_ : Int) (y5_ : Bool) => aF (zcc tc tg tj tf tp M S n f es y0_ y1_ y2_ y3_ y4_ y5_) /\ J y0_ y1_ y2_ y3_ y4_ y5_ /\ μ y0_ y1_ y2_ y3_ y4_ y5_ < μ x2 h0_0 h0_1 h0_2 h0_3
  h0_4; if decide (x2 < (↑es.length : Int)) = true then aP es x2 1 /\ ∃ n5, (es.getD x2.toNat []).head? = some (Z3 n5) /\ (PCall qa 57 [PV.agg [Zb h0_0, Z6 h0_1, Z6 h0_2, Z6 h0_3, Zb h0_4], PV.ptr [tc, tg, tj, tf, tp, PV.mp
  M, PV.mp S], Z3 n5] fun v1 => ∃ vs1, v1 = PV.tup vs1 /\ vs1.length = 2 /\ ∃ x3, vs1.head? = some x3 /\ ∃ cs1, x3 = PV.agg cs1 /\ cs1.length = 5 /\ ∃ b3, cs1.head? = some (Zb b3) /\ ∃ (n6 : Int),
  cs1.tail.head? = some (Z6 n6) /\ ∃ n7, cs1.tail.tail.head? = some (Z6 n7) /\ ∃ n8, cs1.tail.tail.tail.head? = some (Z6 n8) /\ ∃ b4, cs1.tail.tail.tail.tail.head? = some (Zb b4) /\ ∃ x4, vs1.tail.head? = some
  x4 /\ ∃ b5, x4 = Zb b5 /\
 let V1 := if b5 = true then R (Z6 x2) else K5 (i64.wrap (x2 + 1)) b3 n6 n7 n8 b4; V1 /\ V1 /\ V1) /\ PCall qa 57 [PV.agg [Zb h0_0, Z6 h0_1, Z6 h0_2, Z6 h0_3, Zb h0_4], PV.ptr [tc, tg, tj, tf, tp, PV.mp M, PV.mp S], Z3 n5] fun
  (v1 : PV) => ∃ vs1, v1 = PV.tup vs1 /\ vs1.length = 2 /\ ∃ x3, vs1.head? = some x3 /\ ∃ cs1, x3 = PV.agg cs1 /\ cs1.length = 5 /\ ∃ b3, cs1.head? = some (Zb b3) /\ ∃ n6, cs1.tail.head? = some (Z6
  n6) /\ ∃ n7, cs1.tail.tail.head? = some (Z6 n7) /\ ∃ n8, cs1.tail.tail.tail.head? = some (Z6 n8) /\ ∃ b4, cs1.tail.tail.tail.tail.head? = some (Zb b4) /\ ∃ x4, vs1.tail.head? = some x4 /\ ∃ b5, x4 = Zb
  b5 /\
 let V2 := if b5 = true then R (Z6 x2) else K5 (i64.wrap (x2 + 1)) b3 n6 n7 n8 b4; V2 /\ V2 else R (Z6 x2)
theorem zu5 {R : PV -> Prop} (h : zkg tc tg tj tf tp M S n f es k J μ R) : PCall qa 38 [.ptr [tc, tg, tj, tf, tp, .mp M, .mp S], .sl n f es, .int .i64 k] R :=
 PCall.wz Try.func38 aZ [0, 1, 2, 6, 7, 9, 10, 18, 36, 49] (d8 5 (bU cz6 (zcc tc tg tj tf tp M S n f es) J μ (fun e h => (gI e 2, hB h 0 0, hI h 0 1, hI h 0 2, hI h 0 3, hB h 0 4)) [] [0, 1, 2, 7] [])) h
end
def zcd (tc tg tj tf tp : PV) (M S : List (PV × PV)) (n f : Bool) (es : LL) (x6 : Int) (n_0 : Bool) (s_0 : LL) : Env × Hp := ([(0, LV.pv (PV.ptr [tc, tg, tj, tf, tp, PV.mp M, PV.mp S])), (1, LV.pv (PV.sl n f es)), (5, LV.own 0), (6, Y6 x6)], [.sl (22, 1) true n_0 s_0])
section
variable (tc tg tj tf tp : PV) (M S : List (PV × PV)) (n f : Bool) (es : LL) (J : Int -> Bool -> LL -> Prop) (μ : Int -> Bool -> LL -> Nat)
def zkh (R : PV -> Prop) : Prop :=
 (aF (zcd tc tg tj tf tp M S n f es (0 : Int) true []) /\ J (0 : Int) true []) /\ ∀ (x6 : Int) (n_0 : Bool) (s_0 : LL), J x6 n_0 s_0 -> if decide (x6 < (↑es.length : Int)) = true then PCall qa 38 [PV.ptr [tc, tg, tj, tf, tp, PV.mp M, PV.mp S], PV.sl n f es, Z6 x6] fun v => ∃ n1, v = Z6 n1 /\ (iA es.length (some x6) (some n1) none /\ bC es 1) /\ PCall qa 37 [PV.sl n (f && decide (n1 = (↑es.length : Int))) (qf x6.toNat (List.take n1.toNat es))] fun v1 => ∃ n2 f1 es1, v1 = PV.sl n2 f1 es1 /\ (bC [[PV.sl n2 f1 es1]] 1 /\ (s_0.length + 1) * 24 <= 140737488355328) /\ aF (zcd tc tg tj tf tp M S n f es n1 (n_0 && false) (s_0 ++ [[PV.sl n2 f1 es1]])) /\ J n1 (n_0 && false) (s_0 ++ [[PV.sl n2 f1 es1]]) /\ μ n1 (n_0 && false) (s_0 ++ [[PV.sl n2 f1 es1]]) < μ x6 n_0 s_0 else R (PV.sl n_0 false s_0)
theorem zu6 {R : PV -> Prop} (h : zkh tc tg tj tf tp M S n f es J μ R) : PCall qa 15 [.ptr [tc, tg, tj, tf, tp, .mp M, .mp S], .sl n f es] R :=
 PCall.wz Try.func15 aZ [0, 1, 4, 5, 6, 7, 11] (d8 3 (bU fE (zcd tc tg tj tf tp M S n f es) J μ (fun e h => (gI e 6, oN h 0, oS h 0)) [(5, 22, 1)] [0, 1, 5, 6] [])) h
end
end Go.Eng
namespace Go.Eng
open Go Go.Proofs Go.Eng.Rows Go.Eng.Trie Go.Eng.Srt
def zce (st : SSt) : PV := .agg [.bool st.some, .int .i64 st.last, .int .i64 st.pict, .int .i64 st.conj, .bool st.odd]
theorem zu7 {r : Int} (h : 44032 <= r /\ r <= 55203) : i32.wrap (r - 44032) = r - 44032 := dR (by omega) (by omega)
section
variable {rows : List Row} {v : PV}
theorem zki (hv : fN rows v) {r : Int} (hr : -2147483648 <= r /\ r <= 2147483647) : PCall qa 73 [v, .int .i32 r] fun x => x = .int .i64 (bM rows r) := by
 obtain ⟨tc, tg, tj, tf, tp, made, sec, rfl, ht, hm⟩ := hv;refine zu0 _ _ _ _ _ _ _ _ ?_; unfold zkb;by_cases hh : 44032 <= r /\ r <= 55203
 ·rw [zu7 hh];by_cases hm28 : (r - 44032).tmod 28 = 0
  ·refine cD (by simp [hh, hm28]) ?_;unfold bM; rw [if_pos hh, if_pos hm28]
  ·refine cJ (by simp [hm28]) (cD (by simp [hh]) ?_);unfold bM; rw [if_pos hh, if_neg hm28]
 ·refine cJ (by simp; omega) (cJ (by simp; omega) ?_);obtain ⟨ps, rfl⟩ := ht.g.ptr;refine .inl ⟨ps, rfl, ?_⟩;have hw : i64.wrap r = r := aD (by omega) (by omega);rw [hw];refine (za0 ht.g r (by omega)).mono ?_;rintro _ rfl;refine ⟨_, rfl, ?_⟩;rw [zbn]; unfold bM; rw [if_neg hh]
theorem zu8 (hv : fN rows v) {r : Int} (hr : -2147483648 <= r /\ r <= 2147483647) : PCall qa 75 [v, .int .i32 r] fun x => x = .int .i64 (dB rows r) := by
 have hb := zki hv hr;obtain ⟨tc, tg, tj, tf, tp, made, sec, rfl, ht, hm⟩ := hv;refine zu1 _ _ _ _ _ _ _ _ ?_; unfold zkc;obtain ⟨ps, rfl⟩ := ht.j.ptr;refine .inl ⟨ps, rfl, ?_⟩;have hw : i64.wrap r = r := aD (by omega) (by omega);rw [hw];refine (za0 ht.j r (by omega)).mono ?_;rintro _ rfl;refine ⟨_, rfl, ?_⟩;rw [zbn];unfold dB;refine aH (fun hc => ?_) (fun hc => ?_)
 ·simp only [bne_iff_ne, ne_eq] at hc;rw [if_pos hc]
 ·simp only [bne_iff_ne, ne_eq, qab] at hc;rw [if_neg (fun h => h hc)];refine hb.mono ?_;rintro _ rfl;refine ⟨_, rfl, aH (fun h2 => ?_) (fun h2 => ?_)⟩
  ·simp only [qd, qp, beq_iff_eq, bne_iff_ne, ne_eq] at h2;rw [if_pos h2]
  ·simp only [qd, qp, beq_iff_eq, bne_iff_ne, ne_eq] at h2;rw [if_neg h2]
theorem zu9 (hv : fN rows v) {r : Int} (hr : -2147483648 <= r /\ r <= 2147483647) : PCall qa 74 [v, .int .i32 r] fun x => x = .bool (dF rows 5 r) := by
 obtain ⟨tc, tg, tj, tf, tp, made, sec, rfl, ht, hm⟩ := hv;refine zu2 _ _ _ _ _ _ _ _ ?_; unfold zkd;obtain ⟨ps, rfl⟩ := ht.f.ptr;refine .inl ⟨ps, rfl, ?_⟩;have hw : i64.wrap r = r := aD (by omega) (by omega);rw [hw];refine (zij ht.f r (by omega)).mono ?_;rintro _ rfl;rw [zjb];exact ⟨_, rfl, rfl, _, rfl, _, rfl, _, rfl, _, rfl, rfl⟩
theorem zva (a b : Int) : PCall qa 76 [.int .i64 a, .int .i64 b] fun x => x = .bool (pC a b) := by
 refine zu3 _ _ ?_; unfold zke;simp only [beq_iff_eq];have hd : ∀ x y : Int, (x == y) = decide (x = y) := fun x y => by by_cases h : x = y <;> simp [h]
 simp only [hd];unfold pC zgg;rcases (by omega : b = 1 ∨ b = 2 ∨ b = 3 ∨ b = 4 ∨ b = 5 ∨ b = 8 ∨ (b ≠ 1 /\ b ≠ 2 /\ b ≠ 3 /\ b ≠ 4 /\ b ≠ 5 /\ b ≠ 8)) with rfl | rfl | rfl | rfl | rfl | rfl | ⟨b1, b2, b3, b4, b5, b8⟩
 all_goals
  rcases (by omega : a = 1 ∨ a = 2 ∨ a = 3 ∨ a = 7 ∨ a = 9 ∨ a = 10 ∨ a = 11 ∨ a = 12 ∨ a = 13 ∨ (a ≠ 1 /\ a ≠ 2 /\ a ≠ 3 /\ a ≠ 7 /\ a ≠ 9 /\ a ≠ 10 /\ a ≠ 11 /\ a ≠ 12 /\ a ≠ 13)) with rfl | rfl | rfl | rfl | rfl | rfl | rfl | rfl | rfl | ⟨a1, a2, a3, a7, a9, a10, a11, a12, a13⟩
 all_goals simp [*, Bool.or_assoc]
theorem zvb (hv : fN rows v) (st : SSt) {r : Int} (hr : -2147483648 <= r /\ r <= 2147483647) : PCall qa 57 [zce st, v, .int .i32 r] fun x => x = .tup [zce (dU rows st r), .bool (mA rows st r)] := by
 have h1 := zki hv hr;have h2 := zu9 hv hr;have h3 := zu8 hv hr;obtain ⟨tc, tg, tj, tf, tp, made, sec, rfl, ht, hm⟩ := hv;obtain ⟨so, la, pi, co, od⟩ := st;refine zu4 _ _ _ _ _ _ _ _ _ _ _ _ _ ?_; unfold zkf;refine h1.mono ?_;rintro _ rfl;refine ⟨_, rfl, ?_⟩;refine h2.mono ?_;rintro _ rfl;refine ⟨_, rfl, ?_⟩;refine h3.mono ?_;rintro _ rfl;refine ⟨_, rfl, ?_⟩;refine (zva la (bM rows r)).mono ?_;rintro _ rfl;refine ⟨_, rfl, ?_⟩;unfold dU mA uO zce;dsimp only;have hd : ∀ x y : Int, (x == y) = decide (x = y) := fun x y => by by_cases h : x = y <;> simp [h]
 have hd2 : ∀ x y : Int, (x != y) = !decide (x = y) := fun x y => by by_cases h : x = y <;> simp [h]
 simp only [hd, hd2];generalize pC la (bM rows r) = b1;generalize dF rows 5 r = b;generalize dB rows r = c;generalize bM rows r = n;by_cases n6 : n = 6
 ·subst n6;cases b1 <;> cases b <;> by_cases p2 : pi = 2 <;> by_cases c2 : c = 2 <;> by_cases k2 : co = 2 <;> by_cases c1 : c = 1 <;> by_cases c3 : c = 3 <;> by_cases k0 : co = 0 <;> first | omega | simp [*]
 ·by_cases p1 : pi = 1
  ·subst p1;by_cases n4 : n = 4
   ·subst n4;cases b1 <;> cases b <;> by_cases c2 : c = 2 <;> by_cases k2 : co = 2 <;> by_cases c1 : c = 1 <;> by_cases c3 : c = 3 <;> by_cases k0 : co = 0 <;> first | omega | simp [*]
   ·by_cases n5 : n = 5
    ·subst n5;cases b1 <;> cases b <;> by_cases c2 : c = 2 <;> by_cases k2 : co = 2 <;> by_cases c1 : c = 1 <;> by_cases c3 : c = 3 <;> by_cases k0 : co = 0 <;> first | omega | simp [*]
    ·cases b1 <;> cases b <;> by_cases c2 : c = 2 <;> by_cases k2 : co = 2 <;> by_cases c1 : c = 1 <;> by_cases c3 : c = 3 <;> by_cases k0 : co = 0 <;> first | omega | simp [*]
  ·cases b1 <;> cases b <;> by_cases p2 : pi = 2 <;> by_cases c2 : c = 2 <;> by_cases k2 : co = 2 <;> by_cases c1 : c = 1 <;> by_cases c3 : c = 3 <;> by_cases k0 : co = 0 <;> first | omega | simp [*]
end
theorem zkj {L : List Int} (h : R32 L) (i : Nat) : -2147483648 <= L.getD i 0 /\ L.getD i 0 <= 2147483647 := by
 by_cases hi : i < L.length
 ·rw [show L.getD i 0 = L[i] by simp [qm, hi]]; exact h _ (qo hi)
 ·rw [show L.getD i 0 = 0 by simp [qm, hi]]; omega
theorem zkk {l : List Int} {i : Int} (h0 : 0 <= i) (hi : i.toNat < l.length) : aP (aA l) i 1 /\ (aA l).getD i.toNat [] = [.int .i32 (l.getD i.toNat 0)] := by
 obtain ⟨h1, h2⟩ := pK h0 hi;exact ⟨h1, by rw [h2]; simp [qm, hi]⟩
theorem zvc {α : Type} {l : List α} {i : Nat} (d : α) (h : i < l.length) : l.getD i d = l[i] := by simp [qm, h]
theorem PCall.vac {P : Program} {f : Nat} {args args' : List PV} {Q Q' : PV -> Prop} (h : PCall P f args' Q') {k : Nat} {fl : Bool} {es : List (List PV)} (hk : args[k]? = some (.sl true fl es)) (hne : es ≠ []) : PCall P f args Q :=
 ⟨h.1, fun w I G cargs _ _ h3 => by
  have := h3 k (.pv (.sl true fl es)) (by rw [qau, hk]; rfl);generalize cargs.getD k undef = c at this;cases this with
  | pv _ _ h =>
    generalize hx : es = xs at h;cases h with
    | slnil => exact absurd hx hne⟩
theorem zvd {L : List Int} (h : L ≠ []) : aA L ≠ [] := fun e => h (by cases L with | nil => rfl | cons a b => cases e)
section
variable {rows : List Row} {v : PV}
theorem zve {L : List Int} {i : Nat} (hi : i < L.length) (hb : fL rows L i = false) : fY rows L (L.length - i) i = fY rows L (L.length - (i + 1)) (i + 1) := by
 rw [show L.length - i = (L.length - (i + 1)) + 1 by omega, fY, if_neg (by rw [hb]; decide)]
theorem zvf {L : List Int} {i : Nat} (hi : i < L.length) (hb : fL rows L i = true) : fY rows L (L.length - i) i = i := by
 rw [show L.length - i = (L.length - (i + 1)) + 1 by omega, fY, if_pos hb]
theorem zvg (ht : kH rows) (hv : fN rows v) (n f : Bool) (L : List Int) (hr : R32 L) (hL : L.length < 1000000000000) (k : Int) (k0 : 0 <= k) (k1 : k < L.length) (hb : fL rows L k.toNat = true) :
 PCall qa 38 [v, .sl n f (aA L), .int .i64 k] fun x => x = .int .i64 (cS rows L k.toNat : Nat) := by
 have hs := fun st {r : Int} hr => zvb hv st (r := r) hr;obtain ⟨tc, tg, tj, tf, tp, made, sec, rfl, ht', hm⟩ := hv
 refine zu5 _ _ _ _ _ _ _ _ _ _ _
  (fun i so la pi co od => (k + 1 <= i /\ i <= L.length) /\ dJ rows L k.toNat (i.toNat - k.toNat) = ⟨so, la, pi, co, od⟩ /\ cS rows L k.toNat = fY rows L (L.length - i.toNat) i.toNat) (fun i _ _ _ _ _ => L.length - i.toNat) ?_
 unfold zkg;have hl8 : ((aA L).length : Int) = L.length := by rw [dS]
 rw [hl8];refine cJ (by simp; omega) ?_;have hk : k.toNat < L.length := by omega
 obtain ⟨g1, g2⟩ := zkk k0 hk;have hw : i64.wrap (k + 1) = k + 1 := aD (by omega) (by omega);refine ⟨g1, _, by rw [g2]; rfl, ?_⟩;refine (hs st0 (zkj hr k.toNat)).mono ?_;rintro _ rfl;rw [hw];refine ⟨_, rfl, rfl, _, rfl, _, rfl, rfl, _, rfl, _, rfl, _, rfl, _, rfl, _, rfl, _, rfl, _, rfl, ⟨rfl, ⟨by omega, by omega⟩, ?_, ?_⟩, ?_⟩
 ·rw [show (k + 1).toNat - k.toNat = 1 by omega]; rfl
 ·rw [show (k + 1).toNat = k.toNat + 1 by omega]; rfl
 rintro i so la pi co od ⟨⟨i0, i1⟩, hst, hn⟩;refine aH (fun hc => ?_) (fun hc => ?_)
 ·simp only [aB] at hc;have hi : i.toNat < L.length := by omega
  obtain ⟨j, hj⟩ : ∃ j, i.toNat = k.toNat + (j + 1) := ⟨i.toNat - k.toNat - 1, by omega⟩;obtain ⟨g1, g2⟩ := zkk (l := L) (i := i) (by omega) hi;have hwi : i64.wrap (i + 1) = i + 1 := aD (by omega) (by omega)
  have hcut : mA rows ⟨so, la, pi, co, od⟩ (L.getD i.toNat 0) = fL rows L i.toNat := by
   rw [<- hst, hj, show k.toNat + (j + 1) - k.toNat = j + 1 by omega];exact zpv ht hb j
  have hstep : dJ rows L k.toNat ((i + 1).toNat - k.toNat) = dU rows ⟨so, la, pi, co, od⟩ (L.getD i.toNat 0) := by
   rw [<- hst, show (i + 1).toNat - k.toNat = (i.toNat - k.toNat) + 1 by omega];show dU rows _ (L.getD (k.toNat + (i.toNat - k.toNat)) 0) = _;rw [show k.toNat + (i.toNat - k.toNat) = i.toNat by omega]
  have body : ∀ K : Prop, K -> if fL rows L i.toNat = true then (PV.int .i64 i = .int .i64 (cS rows L k.toNat : Nat)) else K /\ ((k + 1 <= i + 1 /\ i + 1 <= L.length) /\ dJ rows L k.toNat ((i + 1).toNat - k.toNat) = ⟨(dU rows ⟨so, la, pi, co, od⟩ (L.getD i.toNat 0)).some, (dU rows ⟨so, la, pi, co, od⟩ (L.getD i.toNat 0)).last, (dU rows ⟨so, la, pi, co, od⟩ (L.getD i.toNat 0)).pict, (dU rows ⟨so, la, pi, co, od⟩ (L.getD i.toNat 0)).conj, (dU rows ⟨so, la, pi, co, od⟩ (L.getD i.toNat 0)).odd⟩ /\ cS rows L k.toNat = fY rows L (L.length - (i + 1).toNat) (i + 1).toNat) /\ L.length - (i + 1).toNat < L.length - i.toNat := fun K hK => by
   split
   ·rename_i hbi;rw [hn, zvf hi hbi, show ((i.toNat : Nat) : Int) = i by omega]
   ·rename_i hbi;refine ⟨hK, ⟨⟨by omega, by omega⟩, by rw [hstep], ?_⟩, by omega⟩;rw [hn, zve hi (by simpa using hbi), show (i + 1).toNat = i.toNat + 1 by omega]
  have call := hs ⟨so, la, pi, co, od⟩ (zkj hr i.toNat);rw [hcut] at call;rw [hwi];refine ⟨g1, _, by rw [g2]; rfl, call.mono ?_, call.mono ?_⟩
  ·rintro _ rfl;exact ⟨_, rfl, rfl, _, rfl, _, rfl, rfl, _, rfl, _, rfl, _, rfl, _, rfl, _, rfl, _, rfl, _, rfl, body _ rfl, body _ rfl, body _ rfl⟩
  ·rintro _ rfl;exact ⟨_, rfl, rfl, _, rfl, _, rfl, rfl, _, rfl, _, rfl, _, rfl, _, rfl, _, rfl, _, rfl, _, rfl, body _ rfl, body _ rfl⟩
 ·simp only [aB] at hc;have hie : i.toNat = L.length := by omega
  rw [hn, show L.length - i.toNat = 0 by omega];show _ = PV.int .i64 ((i.toNat : Nat) : Int);rw [show ((i.toNat : Nat) : Int) = i by omega]
theorem zvh (n f : Bool) (l : List Int) (hn : n = true -> l = []) (hl : l.length < 1000000000000) : PCall qa 37 [.sl n f (aA l)] fun x => x = .sl n false (aA l) :=
 PCall.ofA (args := [_]) (zbz n f (aA l) (fun h => by rw [hn h]; rfl) ⟨rfl, .inl rfl, fun e he => (by cases he), nO _, by simp only [qae, dS]; omega⟩) fun r h' ⟨hr, hh⟩ => by subst hr; subst hh; exact ⟨_, rfl, rfl⟩
def aX (q : Bool × Bool × List Int) : List PV := [.sl q.1 q.2.1 (aA q.2.2)]
theorem zkl (q : Bool × Bool × List Int) : (aX q).length = 1 := rfl
theorem zkm (ht : kH rows) (hv : fN rows v) (n f : Bool) (L : List Int) (hn0 : n = true -> L = []) (hr : R32 L) (hL : L.length < 100000000) :
 PCall qa 15 [v, .sl n f (aA L)] fun x => ∃ (n : Bool) (Q : List (Bool × Bool × List Int)), x = .sl n false (Q.map aX) /\ Q.map (fun q => q.2.2) = jO rows L 0 /\ (∀ q ∈ Q, q.1 = true -> q.2.2 = []) /\ (n = true -> Q = []) := by
 have hnx := fun k k0 k1 hb => zvg ht hv n f L hr (by omega) k k0 k1 hb;obtain ⟨tc, tg, tj, tf, tp, made, sec, rfl, ht', hm⟩ := hv
 refine zu6 _ _ _ _ _ _ _ _ _ _
  (fun i n s => (0 <= i /\ i <= L.length) /\ (i.toNat = L.length ∨ fL rows L i.toNat = true) /\ ∃ Q : List (Bool × Bool × List Int), s = Q.map aX /\ jO rows L 0 = Q.map (fun q => q.2.2) ++ jO rows L i.toNat /\ (∀ q ∈ Q, q.1 = true -> q.2.2 = []) /\ (n = true -> Q = []) /\ Q.length <= i.toNat) (fun i _ _ => L.length - i.toNat) ?_
 unfold zkh;have hl8 : ((aA L).length : Int) = L.length := by rw [dS]
 rw [hl8];refine ⟨⟨rfl, ⟨qag _, by omega⟩, .inr rfl, [], rfl, rfl, (fun q hq => by cases hq), (fun _ => rfl), qi _⟩, ?_⟩;rintro i n2 _ ⟨⟨i0, i1⟩, hbeg, Q, rfl, hcl, hq, hnq, hql⟩;refine aH (fun hc => ?_) (fun hc => ?_)
 ·simp only [aB] at hc;have hi : i.toNat < L.length := by omega
  have hb := hbeg.resolve_left (by omega);obtain ⟨x1, x2, x3⟩ := rS (rows := rows) hi;refine (hnx i i0 hc hb).mono ?_;rintro _ rfl;refine ⟨_, rfl, ⟨zut i0 (by omega) (by rw [dS]; omega), nO _⟩, ?_⟩;rw [show (((cS rows L i.toNat : Nat) : Int)).toNat = cS rows L i.toNat by omega, zuu];have hsl := zuv L i.toNat (cS rows L i.toNat);have hsn : n = true -> fW L i.toNat (cS rows L i.toNat) = [] := fun h => by rw [hn0 h] at hi; cases hi
  refine (zvh n _ (fW L i.toNat (cS rows L i.toNat)) hsn (by omega)).mono ?_;rintro _ rfl;refine ⟨_, _, _, rfl, ⟨o0 (enc := aX) zkl [(n, false, fW L i.toNat (cS rows L i.toNat))], by rw [qc]; omega⟩, rfl, ⟨⟨by omega, by omega⟩, ?_, Q ++ [(n, false, fW L i.toNat (cS rows L i.toNat))], by rw [qaf]; rfl, ?_, fun q hq2 => ?_, fun h => by simp at h, ?_⟩, ?_⟩
  ·rw [show (((cS rows L i.toNat : Nat) : Int)).toNat = cS rows L i.toNat by omega]; exact x3
  ·rw [show (((cS rows L i.toNat : Nat) : Int)).toNat = cS rows L i.toNat by omega, hcl, zgm hi, qaf, qah]; rfl
  ·rcases List.mem_append.1 hq2 with hq2 | hq2
   ·exact hq q hq2
   ·rw [List.mem_singleton.1 hq2]; exact hsn
  ·rw [show (((cS rows L i.toNat : Nat) : Int)).toNat = cS rows L i.toNat by omega, qe, qq]; omega
  ·dsimp only; omega
 ·simp only [aB] at hc;rw [zgl (i := i.toNat) (by omega), qbc] at hcl;exact ⟨n2, Q, rfl, hcl.symm, hq, hnq⟩
theorem zkn (ht : kH rows) (hv : fN rows v) (n f : Bool) (L : List Int) (hr : R32 L) (hL : L.length < 100000000) :
 PCall qa 15 [v, .sl n f (aA L)] fun x => ∃ (n : Bool) (Q : List (Bool × Bool × List Int)), x = .sl n false (Q.map aX) /\ Q.map (fun q => q.2.2) = jO rows L 0 := by
 by_cases h : n = true -> L = []
 ·exact (zkm ht hv n f L h hr hL).mono fun x ⟨n, Q, h1, h2, _⟩ => ⟨n, Q, h1, h2⟩
 ·have hn : n = true := by cases n with | true => rfl | false => exact absurd (fun h => by cases h) h
  subst hn;exact PCall.vac (zkm ht hv false f L (fun h => by cases h) hr hL) (k := 1) rfl (zvd fun e => h fun _ => e)
theorem qAt {C : List (List Int)} {Q : List (Bool × Bool × List Int)} (hQ : Q.map (fun q => q.2.2) = C) {i : Int} (i0 : 0 <= i) (hi : i.toNat < C.length) : aP (Q.map aX) i 1 /\ ∃ n f, (Q.map aX).getD i.toNat [] = [.sl n f (aA (C.getD i.toNat []))] := by
 subst hQ;rw [qc] at hi;refine ⟨c8 zkl i0 (by omega), Q[i.toNat].1, Q[i.toNat].2.1, ?_⟩;rw [c7 hi, zvc [] (by rw [qc]; exact hi), List.getElem_map]; rfl
end
end Go.Eng
namespace Go.Eng
open Go Go.Proofs Go.Eng.Rows Go.Eng.Srt
def cY (L : List Int) : LL := L.map fun n => [.int .i64 n]
theorem zvi (L : List Int) : (cY L).length = L.length := by simp [cY]
theorem kL (L : List Int) (i : Nat) (h : i < L.length) : (cY L).getD i [] = [.int .i64 (L.getD i 0)] := by simp [cY, qm, h]
theorem zko (L : List Int) (i : Nat) (n : Int) : (cY L).set i [.int .i64 n] = cY (L.set i n) := by simp [cY]
theorem nQ (L : List Int) (i : Nat) (h : i < L.length) : aP (cY L) (i : Int) 1 := ⟨by omega, by rw [zvi]; omega, by rw [qb, kL L i h]; rfl⟩
theorem zkp (na fa : Bool) (xa : LL) (nb fb : Bool) (xb : LL) (nl fl : Bool) (ls : LL) (i k : Nat) (hx : xb.length < 1000000000) (hi : i * (xb.length + 1) + k < 1000000000000) :
 PCall qa 20 [.ptr [.sl na fa xa, .sl nb fb xb, .sl nl fl ls], .int .i64 i, .int .i64 k] fun v => v = .int .i64 (i * (xb.length + 1) + k : Nat) := by
 refine ztx na fa xa nb fb xb nl fl ls i k ?_;unfold zjo;refine ⟨nb, fb, xb, rfl, ?_⟩;have h1 : i64.wrap ((xb.length : Int) + 1) = ((xb.length + 1 : Nat) : Int) := by rw [aD (by omega) (by omega)]; omega
 have h2 : i64.wrap ((i : Int) * ((xb.length + 1 : Nat) : Int)) = ((i * (xb.length + 1) : Nat) : Int) := by rw [<- qbd, aD (by omega) (by omega)]
 rw [h1, h2, <- Int.natCast_add, aD (by omega) (by omega)]
structure TabD (A B : List (List Int)) (D : Nat -> Nat -> Prop) (L : List Int) : Prop where
 len : L.length = (A.length + 1) * (B.length + 1)
 at' : ∀ i k, i <= A.length -> k <= B.length -> D i k -> L.getD (i * (B.length + 1) + k) 0 = (cW (A.drop i) (B.drop k) : Nat)
theorem kM {a b i k : Nat} (hi : i <= a) (hk : k <= b) : i * (b + 1) + k < (a + 1) * (b + 1) := by
 have : i * (b + 1) <= a * (b + 1) := ql _ hi;rw [qay]; omega
theorem zvj {b i k i' k' : Nat} (hk : k <= b) (hk' : k' <= b) (h : i * (b + 1) + k = i' * (b + 1) + k') : i = i' /\ k = k' := by
 have h1 : (i * (b + 1) + k) / (b + 1) = i := by rw [Nat.mul_comm, qbe (by omega), qba (by omega)]; omega
 have h2 : (i' * (b + 1) + k') / (b + 1) = i' := by rw [Nat.mul_comm, qbe (by omega), qba (by omega)]; omega
 have : i = i' := by rw [<- h1, <- h2, h]
 subst this;exact ⟨rfl, by omega⟩
theorem TabD.put {A B : List (List Int)} {D D' : Nat -> Nat -> Prop} {L : List Int} (h : TabD A B D L) {i k : Nat} (hi : i <= A.length) (hk : k <= B.length) {n : Int} (hn : n = (cW (A.drop i) (B.drop k) : Nat)) (hD : ∀ i' k', i' <= A.length -> k' <= B.length -> D' i' k' -> D i' k' ∨ (i' = i /\ k' = k)) :
 TabD A B D' (L.set (i * (B.length + 1) + k) n) := by
 refine ⟨by rw [List.length_set]; exact h.len, fun i' k' h1 h2 h3 => ?_⟩;have hlt := kM hi hk;by_cases e : i' = i /\ k' = k
 ·obtain ⟨rfl, rfl⟩ := e;rw [<- hn];simp [qm, h.len, hlt]
 ·have hne : i * (B.length + 1) + k ≠ i' * (B.length + 1) + k' := fun he => by
   obtain ⟨rfl, rfl⟩ := zvj hk h2 he;exact e ⟨rfl, rfl⟩
  have := h.at' i' k' h1 h2 ((hD i' k' h1 h2 h3).resolve_right e);rw [<- this];simp only [qm, List.getElem?_set_ne hne]
theorem mM {α : Type} (l : List α) (i : Nat) (d : α) (h : i < l.length) : l.drop i = l.getD i d :: l.drop (i + 1) := by
 rw [List.drop_eq_getElem_cons h];congr 1;simp [qm, h]
section
variable {QA QB : List (Bool × Bool × List Int)} {A B : List (List Int)}
theorem zvk (na fa nb fb : Bool) (hA : QA.map (fun q => q.2.2) = A) (hB : QB.map (fun q => q.2.2) = B) (hsz : (A.length + 1) * (B.length + 1) <= 1048576) (hl : ∀ c ∈ A, c.length < 100000000) :
 ACall qa 17 [.box 0 0] [.box [.pv (.sl na fa (QA.map aX)), .pv (.sl nb fb (QB.map aX)), .pv (.sl true true [])]] fun r h' => ∃ L, r = .tup [] /\ h' = [.box [.pv (.sl na fa (QA.map aX)), .pv (.sl nb fb (QB.map aX)), .own 1], .sl (3, 1) true false (cY L)] /\ TabD A B (fun _ _ => True) L := by
 have lA : QA.length = A.length := by rw [<- hA, qc]
 have lB : QB.length = B.length := by rw [<- hB, qc]
 have bA : A.length < 1048576 := by
  have : (A.length + 1) * 1 <= (A.length + 1) * (B.length + 1) := qap _ (by omega);omega
 have bB : B.length < 1048576 := by
  have : 1 * (B.length + 1) <= (A.length + 1) * (B.length + 1) := ql _ (by omega);omega
 refine zty na fa (QA.map aX) nb fb (QB.map aX)
  (fun i n s => n = false /\ -1 <= i /\ i < A.length /\ ∃ L, s = cY L /\ TabD A B (fun i' k' => i < (i' : Int) ∨ k' = B.length) L) (fun i _ _ => (i + 1).toNat)
  (fun ti _ _ _ i k n s => i = ti /\ n = false /\ (0 <= i /\ i < A.length) /\ (-1 <= k /\ k < B.length) /\ ∃ L, s = cY L /\ TabD A B (fun i' k' => i < (i' : Int) ∨ k' = B.length ∨ (i = (i' : Int) /\ k < (k' : Int))) L) (fun _ k _ _ => (k + 1).toNat) ?_
 unfold zjp;have e1 : i64.wrap (((QA.map aX).length : Int) + 1) = ((A.length + 1 : Nat) : Int) := by rw [qc, lA, aD (by omega) (by omega)]; omega
 have e2 : i64.wrap (((QB.map aX).length : Int) + 1) = ((B.length + 1 : Nat) : Int) := by rw [qc, lB, aD (by omega) (by omega)]; omega
 have e3 : i64.wrap (((A.length + 1 : Nat) : Int) * ((B.length + 1 : Nat) : Int)) = (((A.length + 1) * (B.length + 1) : Nat) : Int) := by rw [<- qbd, aD (by omega) (by omega)]
 have e4 : i64.wrap (((QA.map aX).length : Int) - 1) = (A.length : Int) - 1 := by rw [qc, lA, aD (by omega) (by omega)]
 have e5 : i64.wrap (((QB.map aX).length : Int) - 1) = (B.length : Int) - 1 := by rw [qc, lB, aD (by omega) (by omega)]
 have lB' : (QB.map aX).length = B.length := by rw [qc, lB]
 rw [e1, e2, e3, e4, e5, qb];have hrep : (qk ((A.length + 1) * (B.length + 1)) [PV.int .i64 0] : LL) = cY (qk ((A.length + 1) * (B.length + 1)) 0) := by simp [cY]
 rw [hrep]
 have hat : ∀ (s : LL) (i k : Nat), i <= A.length -> k <= B.length -> PCall qa 20 [.ptr [.sl na fa (QA.map aX), .sl nb fb (QB.map aX), .sl false false s], .int .i64 i, .int .i64 k] fun v => v = .int .i64 (i * (B.length + 1) + k : Nat) := fun s i k hi hk => by
  have h := kM hi hk;have := zkp na fa (QA.map aX) nb fb (QB.map aX) false false s i k (by rw [lB']; omega) (by rw [lB']; omega);rwa [lB'] at this
 refine ⟨⟨by omega, qag _, by omega, by omega⟩, ⟨rfl, rfl, by omega, by omega, _, rfl, ⟨by simp, fun i k hi hk hd => ?_⟩⟩, ?_⟩
 ·have h0 : cW (A.drop i) (B.drop k) = 0 := by
   rcases hd with hd | hd
   ·rw [List.drop_eq_nil_of_le (by omega)]; exact zA _
   ·rw [hd, qy]; exact zB _
  rw [h0];simp [qm, kM hi hk]
 ·rintro i0 n0 _ ⟨rfl, i1, i2, L0, rfl, h0⟩;refine aH (fun hc => ?_) (fun hc => ?_)
  ·simp only [aB] at hc;refine ⟨⟨rfl, rfl, rfl, ⟨by omega, i2⟩, ⟨by omega, by omega⟩, L0, rfl, ⟨h0.len, fun i k hi hk hd => h0.at' i k hi hk (hd.elim .inl fun h => h.elim .inr fun h => ?_)⟩⟩, ?_⟩
   ·omega
   rintro i k0 n1 _ ⟨rfl, rfl, ⟨j1, j2⟩, ⟨j3, j4⟩, L, rfl, h1⟩;refine aH (fun hk => ?_) (fun hk => ?_)
   ·simp only [aB] at hk;obtain ⟨a, rfl⟩ := qaj j1;obtain ⟨k, rfl⟩ := qaj hk;have ha : a < A.length := by omega
    have hkB : k < B.length := by omega
    obtain ⟨qa1, na2, fa2, qa2⟩ := qAt hA (i := (a : Int)) (by omega) (by omega);obtain ⟨qb1, nb2, fb2, qb2⟩ := qAt hB (i := (k : Int)) (by omega) (by omega);rw [qb] at qa2 qb2;rw [qb, qb, qa2, qb2];refine ⟨qa1, na2, fa2, _, rfl, qb1, nb2, fb2, _, rfl, ?_⟩;have hcl : (A.getD a []).length < 100000000 := hl _ (by rw [qm, qaa ha]; exact qo _);refine (zjz na2 fa2 nb2 fb2 (A.getD a []) (B.getD k []) (by omega)).mono ?_;rintro _ rfl;refine ⟨_, rfl, ?_⟩;have wi : i64.wrap ((a : Int) + 1) = ((a + 1 : Nat) : Int) := by rw [aD (by omega) (by omega)]; omega
    have wk : i64.wrap ((k : Int) + 1) = ((k + 1 : Nat) : Int) := by rw [aD (by omega) (by omega)]; omega
    have wm : i64.wrap ((k : Int) - 1) = (k : Int) - 1 := aD (by omega) (by omega);rw [wi, wk, wm];have da := mM A a [] ha;have db := mM B k [] hkB;have t11 := kM (i := a) (k := k) (qg ha) (qg hkB);have t21 := kM (i := a + 1) (k := k) ha (qg hkB);have t12 := kM (i := a) (k := k + 1) (qg ha) hkB;have t22 := kM (i := a + 1) (k := k + 1) ha hkB;have v22 := h1.at' (a + 1) (k + 1) ha hkB (.inl (by omega));have v21 := h1.at' (a + 1) k ha (qg hkB) (.inl (by omega));have v12 := h1.at' a (k + 1) (qg ha) hkB (.inr (.inr ⟨rfl, by omega⟩))
    have fin : ∀ n : Int, n = (cW (A.drop a) (B.drop k) : Nat) -> TabD A B (fun i' k' => (a : Int) < (i' : Int) ∨ k' = B.length ∨ ((a : Int) = (i' : Int) /\ (k : Int) - 1 < (k' : Int))) (L.set (a * (B.length + 1) + k) n) := fun n hn =>
     h1.put (qg ha) (qg hkB) hn fun i' k' _ _ hd => by omega
    have bl : cW (A.drop (a + 1)) (B.drop (k + 1)) < 1048576 := qat (zgn _ _) (by rw [qv]; omega);have bl2 : cW (A.drop a) (B.drop k) < 1048577 := qat (zgn _ _) (by rw [qv]; omega);refine aH (fun hb => ?_) (fun hb => ?_)
    ·simp only [aB] at hb;refine (hat _ a k (qg ha) (qg hkB)).mono ?_;rintro _ rfl;refine ⟨_, rfl, rfl, (hat _ (a + 1) (k + 1) ha hkB).mono ?_⟩;rintro _ rfl;refine ⟨_, rfl, rfl, nQ L _ (by rw [h1.len]; exact t22), _, by rw [qb, kL L _ (by rw [h1.len]; exact t22)]; rfl, nQ L _ (by rw [h1.len]; exact t11), ?_, ?_⟩
     ·rw [qb, kL L _ (by rw [h1.len]; exact t11)]; exact ⟨rfl, qi _⟩
     ·rw [qb, kL L _ (by rw [h1.len]; exact t11), v22, aD (by omega) (by omega)];refine ⟨rfl, ⟨rfl, rfl, ⟨by omega, j2⟩, ⟨by omega, by omega⟩, _, zko L _ _, fin _ ?_⟩, by dsimp only; omega⟩;rw [da, db, uP, if_pos hb]; omega
    ·simp only [aB] at hb;refine (hat _ a k (qg ha) (qg hkB)).mono ?_;rintro _ rfl;refine ⟨_, rfl, rfl, (hat _ (a + 1) k ha (qg hkB)).mono ?_⟩;rintro _ rfl;refine ⟨_, rfl, rfl, nQ L _ (by rw [h1.len]; exact t21), _, by rw [qb, kL L _ (by rw [h1.len]; exact t21)]; rfl, (hat _ a (k + 1) (qg ha) hkB).mono ?_⟩;rintro _ rfl;refine ⟨_, rfl, rfl, nQ L _ (by rw [h1.len]; exact t12), _, by rw [qb, kL L _ (by rw [h1.len]; exact t12)]; rfl, nQ L _ (by rw [h1.len]; exact t11), ?_, ?_⟩
     ·rw [qb, kL L _ (by rw [h1.len]; exact t11)]; exact ⟨rfl, qi _⟩
     ·rw [qb, kL L _ (by rw [h1.len]; exact t11), v21, v12];refine ⟨rfl, ⟨rfl, rfl, ⟨by omega, j2⟩, ⟨by omega, by omega⟩, _, zko L _ _, fin _ ?_⟩, by dsimp only; omega⟩;rw [da, db, uP, if_neg hb, <- da, <- db];split <;> omega
   ·simp only [aB] at hk;have wm : i64.wrap (i - 1) = i - 1 := aD (by omega) (by omega);rw [wm];refine ⟨rfl, ⟨rfl, by omega, by omega, L, rfl, ⟨h1.len, fun i' k' h1' h2' hd => h1.at' i' k' h1' h2' ?_⟩⟩, ?_⟩
    ·omega
    ·dsimp only; omega
  ·simp only [aB] at hc;exact ⟨L0, rfl, rfl, ⟨h0.len, fun i k hi hk _ => h0.at' i k hi hk (.inl (by omega))⟩⟩
end
end Go.Eng
namespace Go.Eng
open Go Go.Proofs Go.Eng.Rows Go.Eng.Trie Go.Eng.Srt
section
variable {rows : List Row}
variable (ht : kH rows) (n f n2 f2 : Bool) (hl : rows.length < 1000000) (L : List Int) (hr : R32 L) (hL : L.length < 1000000000000)
include ht hl hr hL
end
end Go.Eng
namespace Go.Eng
open Go Go.Proofs Go.Eng.Rows Go.Eng.Srt
def BdS (S : List DStep) (n t : Nat) : Prop := S.length <= n /\ ∀ s ∈ S, 0 <= s.n /\ s.n <= n /\ s.text.length <= t
theorem zvl : BdS [] 0 0 := ⟨qi _, fun s hs => by cases hs⟩
theorem zvm {S : List DStep} {n t M : Nat} (h : BdS S n t) {k : Int} {c : List Int} (hc : c.length <= M) : BdS (eV S (k, c)) (n + 1) (t + M) := by
 obtain ⟨h1, h2⟩ := h;rcases pD S with rfl | ⟨S, s, rfl⟩
 ·rw [zgp];refine ⟨by simp, fun s hs => ?_⟩;rw [List.mem_singleton.1 hs];exact ⟨by show (0 : Int) <= 1; omega, by dsimp only; omega, by dsimp only; omega⟩
 ·rw [uS];rw [qe, qq] at h1;split
  ·refine ⟨by rw [qe, qq]; omega, fun x hx => ?_⟩;rcases List.mem_append.1 hx with hx | hx
   ·have := h2 x (List.mem_append_left _ hx); exact ⟨this.1, by omega, by omega⟩
   ·rw [List.mem_singleton.1 hx];have := h2 s (by simp);refine ⟨by dsimp only; omega, by dsimp only; omega, ?_⟩;show (s.text ++ c).length <= _;rw [qe]; omega
  ·refine ⟨by rw [qe, qe, qq, qq]; omega, fun x hx => ?_⟩;rcases List.mem_append.1 hx with hx | hx
   ·have := h2 x hx; exact ⟨this.1, by omega, by omega⟩
   ·rw [List.mem_singleton.1 hx];exact ⟨by show (0 : Int) <= 1; omega, by dsimp only; omega, by dsimp only; omega⟩
def ofA (f : Func) : Code := aT (aT (cM f))
def vQ (f : Func) : Code := gD (gD (bD (aT (aT (aT (aT (ofA f)))))))
def ofY (f : Func) : Code := gD (gD (aT (vQ f)))
def ofT (f : Func) : Code := uT (aT (ofY f))
def lS (f : Func) : Code := zJ (aT (ofY f))
def bN (v : Value) (i k : Int) : Env := [(8, .box 0 0), (9, .pv (.raw v)), (10, .pv (.int .i64 i)), (11, .pv (.int .i64 k))]
def eT1 (v : Value) (i k : Int) (na fa : Bool) (xa : LL) (n f : Bool) (es : LL) : Env := (108, .pv (.sl n f es)) :: (107, .pv (.ptr (xa.getD i.toNat []))) :: (106, .pv (.int .i64 i)) :: (105, .pv (.sl na fa xa)) :: (104, .box 0 0) :: (103, .box 0 0) :: (102, .box 0 0) :: (101, .pv (.raw v)) :: bN v i k
def eU1 (v : Value) (i k : Int) (na fa : Bool) (xa : LL) (n f : Bool) (es : LL) : Env := (163, .pv (.sl n f es)) :: (162, .pv (.ptr (xa.getD i.toNat []))) :: (161, .pv (.int .i64 i)) :: (160, .pv (.sl na fa xa)) :: (159, .box 0 0) :: (158, .box 0 0) :: (157, .box 0 0) :: (156, .pv (.raw v)) :: bN v i k
def eV1 (v : Value) (i k : Int) (nb fb : Bool) (xb : LL) (n f : Bool) (es : LL) : Env := (63, .pv (.sl n f es)) :: (62, .pv (.ptr (xb.getD k.toNat []))) :: (61, .pv (.int .i64 k)) :: (60, .pv (.sl nb fb xb)) :: (59, .box 0 1) :: (58, .box 0 0) :: (57, .box 0 0) :: (56, .pv (.raw v)) :: bN v i k
def bI (na fa : Bool) (xa : LL) (nb fb : Bool) (xb : LL) (nl : Bool) (L : LL) : Hp := [.box [.pv (.sl na fa xa), .pv (.sl nb fb xb), .own 1], .sl (3, 1) true nl L]
def lT : List Nat := [0, 1, 2, 6, 7, 8, 9, 10, 11, 37, 55, 67, 114]
def zvn : Nat -> Option HSpec := fun zz_ => match zz_ with | 17 => some ⟨Bool × List (List PV), fun _ hs t => (.tup [], match hs with | [.box (a :: b :: _)] => [.box [a, b, .own 1], .sl (3, 1) true t.1 t.2] | h => h), none⟩ | _ => none
section
variable {na fa nb fb nl : Bool} {xa xb L : LL} {v : Value} {i k : Int}
theorem pO0 (ts : List PV) (n f n2 f2 : Bool) (es ss : LL) (Q : Qt) : cH qa (fun _ => none) 0 168 lT (fun _ => none) (bD (cM Try.f6)) [(0, .pv (.ptr ts)), (1, .pv (.sl n f es)), (2, .pv (.sl n2 f2 ss))] [] Q =
 Q .normal [(0, .pv (.ptr ts)), (1, .pv (.sl n f es)), (2, .pv (.sl n2 f2 ss)), (6, .pv (.sl true true [])), (7, .pv (.int .i64 0))] [] := by kernel_rfl
theorem pO1 (ts : List PV) (n f n2 f2 : Bool) (es ss : LL) (Q : Qt) : cH qa (fun _ => none) 0 168 lT (fun _ => none) (bD (aT (cM Try.f6))) [(0, .pv (.ptr ts)), (1, .pv (.sl n f es)), (2, .pv (.sl n2 f2 ss)), (6, .pv (.sl true true [])), (7, .pv (.int .i64 0))] [] Q =
 PCall qa 16 [.ptr ts, .sl n f es] fun v => ∃ n1 f1 es1, v = .sl n1 f1 es1 /\ PCall qa 15 [.ptr ts, .sl n1 f1 es1] fun v1 => ∃ n3 f3 es2, v1 = .sl n3 f3 es2 /\ PCall qa 16 [.ptr ts, .sl n2 f2 ss] fun v2 => ∃ n4 f4 es3, v2 = .sl n4 f4 es3 /\
  PCall qa 15 [.ptr ts, .sl n4 f4 es3] fun v3 => ∃ n5 f5 es4, v3 = .sl n5 f5 es4 /\
   Q .normal [(0, .pv (.ptr ts)), (1, .pv (.sl n f es)), (2, .pv (.sl n2 f2 ss)), (6, .pv (.sl true true [])), (7, .pv (.int .i64 0)), (8, .box 0 0)] [.box [.pv (.sl n3 f3 es2), .pv (.sl n5 f5 es4), .pv (.sl true true [])]] := by kernel_rfl
theorem pO2 (Q : Qt) : cH qa (fun _ => none) 0 168 lT (fun _ => none) (bD (ofA Try.f6)) [(8, .box 0 0), (6, .pv (.sl true true [])), (7, .pv (.int .i64 0))] [.box [.pv (.sl na fa xa), .pv (.sl nb fb xb), .pv (.sl true true [])]] Q =
 (i64.wrap ((xb.length : Int) + 1) ≠ 0 /\ if decide (i64.wrap ((xa.length : Int) + 1) > i64.wrap (qao 1048576 (i64.wrap ((xb.length : Int) + 1)))) = true then
  Q .ret [(6, .pv (.sl true true [])), (7, .pv (.int .i64 7)), (8, .box 0 0), (37, .pv (.bool (decide (i64.wrap ((xa.length : Int) + 1) > i64.wrap (qao 1048576 (i64.wrap ((xb.length : Int) + 1)))))))] [.box [.pv (.sl na fa xa), .pv (.sl nb fb xb), .pv (.sl true true [])]]
 else Q .normal [(6, .pv (.sl true true [])), (7, .pv (.int .i64 0)), (8, .box 0 0), (37, .pv (.bool (decide (i64.wrap ((xa.length : Int) + 1) > i64.wrap (qao 1048576 (i64.wrap ((xb.length : Int) + 1)))))))] [.box [.pv (.sl na fa xa), .pv (.sl nb fb xb), .pv (.sl true true [])]]) := by kernel_rfl
theorem pO4 (Q : Qt) : cH qa zvn 0 168 lT (fun _ => none) (bD (aT (ofA Try.f6))) [(8, .box 0 0)] [.box [.pv (.sl na fa xa), .pv (.sl nb fb xb), .pv (.sl true true [])]] Q =
 ACall qa 17 [.box 0 0] [.box [.pv (.sl na fa xa), .pv (.sl nb fb xb), .pv (.sl true true [])]] fun r h' => ∃ t : Bool × List (List PV), (r = .tup [] /\ h' = [.box [.pv (.sl na fa xa), .pv (.sl nb fb xb), .own 1], .sl (3, 1) true t.1 t.2]) /\ (True /\ True) /\
  Q .normal [(8, .box 0 0)] (bI na fa xa nb fb xb t.1 t.2) := by kernel_rfl
theorem pO5 (Q : Qt) : cH qa (fun _ => none) 0 168 lT (fun _ => none) (bD (aT (aT (ofA Try.f6)))) [(8, .box 0 0)] (bI na fa xa nb fb xb nl L) Q = Q .normal [(8, .box 0 0), (9, .pv (.sl true true []))] (bI na fa xa nb fb xb nl L) := by kernel_rfl
theorem pO6 (Q : Qt) : cH qa (fun _ => none) 0 168 lT (fun _ => none) (bD (aT (aT (aT (ofA Try.f6))))) [(8, .box 0 0), (9, .pv (.sl true true []))] (bI na fa xa nb fb xb nl L) Q =
 Q .normal [(8, .box 0 0), (9, .pv (.sl true true [])), (10, .pv (.int .i64 0)), (11, .pv (.int .i64 0))] (bI na fa xa nb fb xb nl L) := by kernel_rfl
theorem pO7 (Q : Qt) : cH qa (fun _ => none) 0 168 lT (fun _ => none) (bD (vQ Try.f6)) (bN v i k) (bI na fa xa nb fb xb nl L) Q =
 if decide (i < (xa.length : Int)) = true then Q .normal [(8, .box 0 0), (9, .pv (.raw v)), (10, .pv (.int .i64 i)), (11, .pv (.int .i64 k)), (55, .pv (.bool true))] (bI na fa xa nb fb xb nl L)
 else if decide (k < (xb.length : Int)) = true then Q .normal [(8, .box 0 0), (9, .pv (.raw v)), (10, .pv (.int .i64 i)), (11, .pv (.int .i64 k)), (55, .pv (.bool (decide (k < (xb.length : Int)))))] (bI na fa xa nb fb xb nl L)
 else Q (.exit 0) [(8, .box 0 0), (9, .pv (.raw v)), (10, .pv (.int .i64 i)), (11, .pv (.int .i64 k)), (55, .pv (.bool (decide (k < (xb.length : Int)))))] (bI na fa xa nb fb xb nl L) := by kernel_rfl
theorem zvo (Q : Qt) : cH qa (fun _ => none) 0 168 lT (fun _ => none) (bD (ofY Try.f6)) (bN v i k) (bI na fa xa nb fb xb nl L) Q =
 if decide (i < (xa.length : Int)) = true then
  if decide (k < (xb.length : Int)) = true then aP xa i 1 /\ ∃ n f es, (xa.getD i.toNat []).head? = some (.sl n f es) /\ aP xb k 1 /\ ∃ n1 f1 es1, (xb.getD k.toNat []).head? = some (.sl n1 f1 es1) /\ PCall qa 18 [.sl n f es, .sl n1 f1 es1] fun v1 => ∃ b, v1 = .bool b /\
   Q .normal [(8, .box 0 0), (9, .pv (.raw v)), (10, .pv (.int .i64 i)), (11, .pv (.int .i64 k)), (67, .pv (.bool b))] (bI na fa xa nb fb xb nl L)
  else Q .normal [(8, .box 0 0), (9, .pv (.raw v)), (10, .pv (.int .i64 i)), (11, .pv (.int .i64 k)), (67, .pv (.bool false))] (bI na fa xa nb fb xb nl L)
 else Q .normal [(8, .box 0 0), (9, .pv (.raw v)), (10, .pv (.int .i64 i)), (11, .pv (.int .i64 k)), (67, .pv (.bool false))] (bI na fa xa nb fb xb nl L) := by kernel_rfl
theorem zvp (Q : Qt) : cH qa (fun _ => none) 0 168 lT (fun _ => none) (bD (lS Try.f6)) (bN v i k) (bI na fa xa nb fb xb nl L) Q =
 if (k == (xb.length : Int)) = true then Q .normal [(8, .box 0 0), (9, .pv (.raw v)), (10, .pv (.int .i64 i)), (11, .pv (.int .i64 k)), (114, .pv (.bool true))] (bI na fa xa nb fb xb nl L)
 else if decide (i < (xa.length : Int)) = true then PCall qa 20 [.ptr [.sl na fa xa, .sl nb fb xb, .sl nl false L], .int .i64 (i64.wrap (i + 1)), .int .i64 k] fun v1 => ∃ n, v1 = .int .i64 n /\ true = true /\ aP L n 1 /\ ∃ n1, (qf 0 (L.getD n.toNat [])).head? = some (.int .i64 n1) /\
  PCall qa 20 [.ptr [.sl na fa xa, .sl nb fb xb, .sl nl false L], .int .i64 i, .int .i64 (i64.wrap (k + 1))] fun v2 => ∃ n2, v2 = .int .i64 n2 /\ true = true /\ aP L n2 1 /\ ∃ n3, (qf 0 (L.getD n2.toNat [])).head? = some (.int .i64 n3) /\
   Q .normal [(8, .box 0 0), (9, .pv (.raw v)), (10, .pv (.int .i64 i)), (11, .pv (.int .i64 k)), (114, .pv (.bool (decide (n1 >= n3))))] (bI na fa xa nb fb xb nl L)
 else Q .normal [(8, .box 0 0), (9, .pv (.raw v)), (10, .pv (.int .i64 i)), (11, .pv (.int .i64 k)), (114, .pv (.bool false))] (bI na fa xa nb fb xb nl L) := by kernel_rfl
def gO (f : Func) : Array Oper := bL (bD (ofT f))
def oT2 (f : Func) : Array Oper := bL (aT (ofT f))
def eZ (f : Func) : Array Oper := bL (bD (uT (aT (lS f))))
def mN (f : Func) : Array Oper := bL (aT (uT (aT (lS f))))
def e9 (f : Func) : Array Oper := bL (bD (zJ (aT (lS f))))
def mO (f : Func) : Array Oper := bL (aT (zJ (aT (lS f))))
def ofR (f : Func) : Array Oper := bL (bD (aT (aT (aT (aT (aT (ofA f)))))))
theorem zvq (K : Env -> Hp -> Prop) : aR qa (fun _ => none) 168 (gO Try.f6).toList (((gO Try.f6).toList.drop 0).take 8) (bN v i k) (bI na fa xa nb fb xb nl L) K =
 (aP xa i 1 /\ ∃ n f es, (xa.getD i.toNat []).head? = some (.sl n f es) /\ K (eT1 v i k na fa xa n f es) (bI na fa xa nb fb xb nl L)) := by kernel_rfl
theorem zvr (n f : Bool) (es : LL) (v' : Value) (K : Env -> Hp -> Prop) : aR qa (fun _ => none) 168 (gO Try.f6).toList (((gO Try.f6).toList.drop 9).take 1) (set (eT1 v i k na fa xa n f es) 109 (.pv (.raw v'))) (bI na fa xa nb fb xb nl L) K =
 K ((9, .pv (.raw v')) :: set (eT1 v i k na fa xa n f es) 109 (.pv (.raw v'))) (bI na fa xa nb fb xb nl L) := by kernel_rfl
theorem pT2 (K : Env -> Hp -> Prop) : aR qa (fun _ => none) 168 (oT2 Try.f6).toList (oT2 Try.f6).toList (bN v i k) (bI na fa xa nb fb xb nl L) K =
 K ((11, .pv (.int .i64 (i64.wrap (k + 1)))) :: (10, .pv (.int .i64 (i64.wrap (i + 1)))) :: (113, .pv (.int .i64 (i64.wrap (k + 1)))) :: (112, .pv (.int .i64 k)) :: (111, .pv (.int .i64 (i64.wrap (i + 1)))) :: (110, .pv (.int .i64 i)) :: bN v i k) (bI na fa xa nb fb xb nl L) := by kernel_rfl
theorem zvs (K : Env -> Hp -> Prop) : aR qa (fun _ => none) 168 (eZ Try.f6).toList (((eZ Try.f6).toList.drop 0).take 8) (bN v i k) (bI na fa xa nb fb xb nl L) K =
 (aP xa i 1 /\ ∃ n f es, (xa.getD i.toNat []).head? = some (.sl n f es) /\ K (eU1 v i k na fa xa n f es) (bI na fa xa nb fb xb nl L)) := by kernel_rfl
theorem zvt (n f : Bool) (es : LL) (v' : Value) (K : Env -> Hp -> Prop) : aR qa (fun _ => none) 168 (eZ Try.f6).toList (((eZ Try.f6).toList.drop 9).take 1) (set (eU1 v i k na fa xa n f es) 164 (.pv (.raw v'))) (bI na fa xa nb fb xb nl L) K =
 K ((9, .pv (.raw v')) :: set (eU1 v i k na fa xa n f es) 164 (.pv (.raw v'))) (bI na fa xa nb fb xb nl L) := by kernel_rfl
theorem pU2 (K : Env -> Hp -> Prop) : aR qa (fun _ => none) 168 (mN Try.f6).toList (mN Try.f6).toList (bN v i k) (bI na fa xa nb fb xb nl L) K =
 K ((10, .pv (.int .i64 (i64.wrap (i + 1)))) :: (166, .pv (.int .i64 (i64.wrap (i + 1)))) :: (165, .pv (.int .i64 i)) :: bN v i k) (bI na fa xa nb fb xb nl L) := by kernel_rfl
theorem zvu (K : Env -> Hp -> Prop) : aR qa (fun _ => none) 168 (e9 Try.f6).toList (((e9 Try.f6).toList.drop 0).take 8) (bN v i k) (bI na fa xa nb fb xb nl L) K =
 (aP xb k 1 /\ ∃ n f es, (xb.getD k.toNat []).head? = some (.sl n f es) /\ K (eV1 v i k nb fb xb n f es) (bI na fa xa nb fb xb nl L)) := by kernel_rfl
theorem zvv (n f : Bool) (es : LL) (v' : Value) (K : Env -> Hp -> Prop) : aR qa (fun _ => none) 168 (e9 Try.f6).toList (((e9 Try.f6).toList.drop 9).take 1) (set (eV1 v i k nb fb xb n f es) 64 (.pv (.raw v'))) (bI na fa xa nb fb xb nl L) K =
 K ((9, .pv (.raw v')) :: set (eV1 v i k nb fb xb n f es) 64 (.pv (.raw v'))) (bI na fa xa nb fb xb nl L) := by kernel_rfl
theorem pV2 (K : Env -> Hp -> Prop) : aR qa (fun _ => none) 168 (mO Try.f6).toList (mO Try.f6).toList (bN v i k) (bI na fa xa nb fb xb nl L) K =
 K ((11, .pv (.int .i64 (i64.wrap (k + 1)))) :: (66, .pv (.int .i64 (i64.wrap (k + 1)))) :: (65, .pv (.int .i64 k)) :: bN v i k) (bI na fa xa nb fb xb nl L) := by kernel_rfl
theorem zvw (K : Env -> Hp -> Prop) : aR qa (fun _ => none) 168 (ofR Try.f6).toList (ofR Try.f6).toList (bN v i k) (bI na fa xa nb fb xb nl L) K =
 K ((7, .pv (.int .i64 0)) :: (6, .pv (.raw v)) :: (167, .pv (.raw v)) :: bN v i k) (bI na fa xa nb fb xb nl L) := by kernel_rfl
end
theorem zvx : Try.f6.body = some (.seq (bD (cM Try.f6)) (.seq (bD (aT (cM Try.f6))) (.seq (bD (ofA Try.f6)) (.seq (bD (aT (ofA Try.f6))) (.seq (bD (aT (aT (ofA Try.f6)))) (.seq (bD (aT (aT (aT (ofA Try.f6))))) (.seq (.block 0 (.loop (.seq (bD (vQ Try.f6)) (.block 1 (.block 2 (.seq (bD (ofY Try.f6))
 (.cond (.tmp 67) (.seq (.region 11 (gO Try.f6) false) (.region 12 (oT2 Try.f6) false)) (.seq (bD (lS Try.f6)) (.cond (.tmp 114) (.seq (.region 14 (eZ Try.f6) false) (.region 15 (mN Try.f6) false)) (.seq (.region 8 (e9 Try.f6) false) (.region 9 (mO Try.f6) false))))))))))) (.seq (.region 16 (ofR Try.f6) false) .ret)))))))) := by kernel_rfl
theorem zcf : c5 (gO Try.f6).toList = true /\ c5 (oT2 Try.f6).toList = true /\ c5 (eZ Try.f6).toList = true /\ c5 (mN Try.f6).toList = true /\ c5 (e9 Try.f6).toList = true /\ c5 (mO Try.f6).toList = true /\ c5 (ofR Try.f6).toList = true /\
 (gO Try.f6).size = 10 /\ (eZ Try.f6).size = 10 /\ (e9 Try.f6).size = 10 /\ Try.f6.results.toList = [.tmp 6, .tmp 7] :=
 ⟨by kernel_rfl, by kernel_rfl, by kernel_rfl, by kernel_rfl, by kernel_rfl, by kernel_rfl, by kernel_rfl, by kernel_rfl, by kernel_rfl, by kernel_rfl, by kernel_rfl⟩
theorem zvy : (gO Try.f6)[8]? = some ((gO Try.f6).toList.getD 8 default) /\ ((gO Try.f6).toList.getD 8 default).guard = none /\ ((gO Try.f6).toList.getD 8 default).dst = some 109 /\
 ((gO Try.f6).toList.getD 8 default).op = .call { callee := .value (.func 19), args := #[.tmp 101, .const (.int .i64 0), .tmp 108], argTypes := #[24, 3, 22] } := ⟨by kernel_rfl, by kernel_rfl, by kernel_rfl, by kernel_rfl⟩
theorem zvz : (eZ Try.f6)[8]? = some ((eZ Try.f6).toList.getD 8 default) /\ ((eZ Try.f6).toList.getD 8 default).guard = none /\ ((eZ Try.f6).toList.getD 8 default).dst = some 164 /\
 ((eZ Try.f6).toList.getD 8 default).op = .call { callee := .value (.func 19), args := #[.tmp 156, .const (.int .i64 1), .tmp 163], argTypes := #[24, 3, 22] } := ⟨by kernel_rfl, by kernel_rfl, by kernel_rfl, by kernel_rfl⟩
theorem zv0 : (e9 Try.f6)[8]? = some ((e9 Try.f6).toList.getD 8 default) /\ ((e9 Try.f6).toList.getD 8 default).guard = none /\ ((e9 Try.f6).toList.getD 8 default).dst = some 64 /\
 ((e9 Try.f6).toList.getD 8 default).op = .call { callee := .value (.func 19), args := #[.tmp 56, .const (.int .i64 2), .tmp 63], argTypes := #[24, 3, 22] } := ⟨by kernel_rfl, by kernel_rfl, by kernel_rfl, by kernel_rfl⟩
theorem zv1 {rows : List Row} {L : List Int} : ∀ k i, ∀ c ∈ fZ rows L k i, c ≠ [] /\ c.length <= L.length := by
 intro k
 induction k with
 | zero => intro i c hc; cases hc
 | succ k ih =>
   intro i c hc;rw [fZ] at hc;split at hc
   ·rename_i h;rcases List.mem_cons.1 hc with rfl | hc
    ·obtain ⟨x1, x2, _⟩ := rS (rows := rows) h;have : (fW L i (cS rows L i)).length = cS rows L i - i := by unfold fW; rw [qv, qn]; omega
     refine ⟨fun e => ?_, by omega⟩;rw [e, qae] at this; omega
    ·exact ih _ c hc
   ·cases hc
section
variable {QA QB : List (Bool × Bool × List Int)} {A B : List (List Int)}
structure JOf (A B : List (List Int)) (M : Nat) (u : Nat × Nat × (List DStep × Value)) : Prop where
 i1 : u.1 <= A.length
 k1 : u.2.1 <= B.length
 ops : ∃ l, cX A B = l ++ cX (A.drop u.1) (B.drop u.2.1) /\ u.2.2.1 = l.foldl eV []
 bd : BdS u.2.2.1 (u.1 + u.2.1) ((u.1 + u.2.1) * M)
theorem JOf.step {M : Nat} {i k : Nat} {S : List DStep} {v v' : Value} (h : JOf A B M (i, k, (S, v))) {i' k' : Nat} {o : Int} {c : List Int} (hi : i' <= A.length) (hk : k' <= B.length) (hs : cX (A.drop i) (B.drop k) = (o, c) :: cX (A.drop i') (B.drop k')) (hn : i + k + 1 = i' + k' ∨ (i + k + 2 = i' + k')) (hc : c.length <= M) :
 JOf A B M (i', k', (eV S (o, c), v')) := by
 obtain ⟨l, h1, h2⟩ := h.ops;refine ⟨hi, hk, ⟨l ++ [(o, c)], by rw [h1, hs, qah]; rfl, by rw [List.foldl_append, <- h2]; rfl⟩, ?_⟩;obtain ⟨b1, b2⟩ := zvm (k := o) h.bd hc;dsimp only at b1 b2 ⊢
 have hm : (i + k) * M + M <= (i' + k') * M := by
  have : (i + k + 1) * M <= (i' + k') * M := ql _ (by omega);rw [qay, Nat.one_mul] at this; exact this
 exact ⟨by omega, fun s hs => by have := b2 s hs; exact ⟨this.1, by omega, by omega⟩⟩
theorem JOf.ok {M : Nat} {u : Nat × Nat × (List DStep × Value)} (h : JOf A B M u) (hA : A.length < 1048576) (hB : B.length < 1048576) (hM : M <= 100000) : u.2.2.1.length < 1000000000 /\ ∀ s ∈ u.2.2.1, 0 <= s.n /\ s.n < 1000000000000 /\ s.text.length < 1000000000000 := by
 obtain ⟨b1, b2⟩ := h.bd;have hi := h.i1;have hk := h.k1;have hm : (u.1 + u.2.1) * M <= 2097152 * 100000 := Nat.mul_le_mul (by omega) hM;exact ⟨by omega, fun s hs => by have := b2 s hs; exact ⟨this.1, by omega, by omega⟩⟩
theorem zv2 {w0 : World} {I0 : Nat -> Prop} (na fa nb fb : Bool) (hA : QA.map (fun q => q.2.2) = A) (hB : QB.map (fun q => q.2.2) = B) (hsz : (A.length + 1) * (B.length + 1) <= 1048576) {M : Nat} (hM : M <= 100000) (hcA : ∀ c ∈ A, c ≠ [] /\ c.length <= M) (hcB : ∀ c ∈ B, c ≠ [] /\ c.length <= M)
 {L : List Int} (hL : TabD A B (fun _ _ => True) L) (u : Nat × Nat × (List DStep × Value)) (hJ : JOf A B M u) :
 CodeY (OutZ 33 21 w0 I0) qa 168 (.seq (bD (vQ Try.f6)) (.block 1 (.block 2 (.seq (bD (ofY Try.f6))
  (.cond (.tmp 67) (.seq (.region 11 (gO Try.f6) false) (.region 12 (oT2 Try.f6) false)) (.seq (bD (lS Try.f6)) (.cond (.tmp 114) (.seq (.region 14 (eZ Try.f6) false) (.region 15 (mN Try.f6) false)) (.seq (.region 8 (e9 Try.f6) false) (.region 9 (mO Try.f6) false)))))))))
  u.2.2 (bN u.2.2.2 u.1 u.2.1) (bI na fa (QA.map aX) nb fb (QB.map aX) false (cY L)) fun s' x e h => match x with
   | .normal => ∃ u' : Nat × Nat × (List DStep × Value), LeE (bN u'.2.2.2 u'.1 u'.2.1) e /\ h = bI na fa (QA.map aX) nb fb (QB.map aX) false (cY L) /\ s' = u'.2.2 /\ JOf A B M u' /\ A.length + B.length - (u'.1 + u'.2.1) < A.length + B.length - (u.1 + u.2.1)
   | .exit n => n = 0 /\ LeE (bN s'.2 A.length B.length) e /\ h = bI na fa (QA.map aX) nb fb (QB.map aX) false (cY L) /\ s'.1 = mB A B
   | .ret => False := by
 obtain ⟨i, k, S, v⟩ := u;have lA : (QA.map aX).length = A.length := by rw [<- hA, qc, qc]
 have lB : (QB.map aX).length = B.length := by rw [<- hB, qc, qc]
 have bA : A.length < 1048576 := by
  have : (A.length + 1) * 1 <= (A.length + 1) * (B.length + 1) := qap _ (by omega);omega
 have bB : B.length < 1048576 := by
  have : 1 * (B.length + 1) <= (A.length + 1) * (B.length + 1) := ql _ (by omega);omega
 obtain ⟨k1, k2⟩ := hJ.ok bA bB hM;have i1 := hJ.i1;have j1 := hJ.k1;dsimp only at k1 k2 i1 j1 ⊢;obtain ⟨d1, d2, d3, d4, d5, d6, d7, z1, z2, z3, _⟩ := zcf;have wi : i64.wrap ((i : Int) + 1) = ((i + 1 : Nat) : Int) := by rw [aD (by omega) (by omega)]; omega
 have wk : i64.wrap ((k : Int) + 1) = ((k + 1 : Nat) : Int) := by rw [aD (by omega) (by omega)]; omega
 have hat : ∀ (i k : Nat), i <= A.length -> k <= B.length -> PCall qa 20 [.ptr [.sl na fa (QA.map aX), .sl nb fb (QB.map aX), .sl false false (cY L)], .int .i64 i, .int .i64 k] fun v => v = .int .i64 (i * (B.length + 1) + k : Nat) := fun i k hi hk => by
  have h := kM hi hk;have := zkp na fa (QA.map aX) nb fb (QB.map aX) false false (cY L) i k (by rw [lB]; omega) (by rw [lB]; omega);rwa [lB] at this
 -- what is kept and dropped of A
 have gA : i < A.length -> aP (QA.map aX) (i : Int) 1 /\ ∃ n f, (QA.map aX).getD i [] = [.sl n f (aA (A.getD i []))] := fun h => by
  have := qAt hA (i := (i : Int)) (by omega) (by omega);rwa [qb] at this
 have gB : k < B.length -> aP (QB.map aX) (k : Int) 1 /\ ∃ n f, (QB.map aX).getD k [] = [.sl n f (aA (B.getD k []))] := fun h => by
  have := qAt hB (i := (k : Int)) (by omega) (by omega);rwa [qb] at this
 have memA : i < A.length -> A.getD i [] ∈ A := fun h => by rw [qm, qaa h]; exact qo _
 have memB' : k < B.length -> B.getD k [] ∈ B := fun h => by rw [qm, qaa h]; exact qo _
 have done : ∀ (i' k' : Nat) (s' : List DStep × Value) (e : Env), LeE (bN s'.2 i' k') e -> JOf A B M (i', k', s') -> i + k < i' + k' -> ∃ u' : Nat × Nat × (List DStep × Value), LeE (bN u'.2.2.2 u'.1 u'.2.1) e /\ bI na fa (QA.map aX) nb fb (QB.map aX) false (cY L) = bI na fa (QA.map aX) nb fb (QB.map aX) false (cY L) /\ s' = u'.2.2 /\ JOf A B M u' /\ A.length + B.length - (u'.1 + u'.2.1) < A.length + B.length - (i + k) := fun i' k' s' e h1 h2 h3 =>
  ⟨(i', k', s'), h1, rfl, rfl, h2, by have := h2.i1; have := h2.k1; dsimp only at *; omega⟩
 -- the second question, and what follows
 have rest : (i < A.length -> k < B.length -> A.getD i [] ≠ B.getD k []) -> (i < A.length ∨ k < B.length) -> CodeY (OutZ 33 21 w0 I0) qa 168 (.seq (bD (lS Try.f6)) (.cond (.tmp 114) (.seq (.region 14 (eZ Try.f6) false) (.region 15 (mN Try.f6) false)) (.seq (.region 8 (e9 Try.f6) false) (.region 9 (mO Try.f6) false))))
  (S, v) (bN v i k) (bI na fa (QA.map aX) nb fb (QB.map aX) false (cY L)) fun s' x e h => x = .normal /\ ∃ u' : Nat × Nat × (List DStep × Value), LeE (bN u'.2.2.2 u'.1 u'.2.1) e /\ h = bI na fa (QA.map aX) nb fb (QB.map aX) false (cY L) /\ s' = u'.2.2 /\ JOf A B M u' /\ A.length + B.length - (u'.1 + u'.2.1) < A.length + B.length - (i + k) := by
  intro hne hor
  -- an element of A is dropped
  have drop : i < A.length -> cX (A.drop i) (B.drop k) = (1, A.getD i []) :: cX (A.drop (i + 1)) (B.drop k) -> CodeY (OutZ 33 21 w0 I0) qa 168 (.seq (.region 14 (eZ Try.f6) false) (.region 15 (mN Try.f6) false))
   (S, v) (bN v i k) (bI na fa (QA.map aX) nb fb (QB.map aX) false (cY L)) fun s' x e h => x = .normal /\ ∃ u' : Nat × Nat × (List DStep × Value), LeE (bN u'.2.2.2 u'.1 u'.2.1) e /\ h = bI na fa (QA.map aX) nb fb (QB.map aX) false (cY L) /\ s' = u'.2.2 /\ JOf A B M u' /\ A.length + B.length - (u'.1 + u'.2.1) < A.length + B.length - (i + k) := by
   intro hi hs;obtain ⟨c1, c2, c3, c4⟩ := zvz;obtain ⟨q1, n1, f1, q2⟩ := gA hi;obtain ⟨e1, e2⟩ := hcA _ (memA hi);refine CodeY.seq (CodeY.regAdd (H := fun _ => none) zb1 d3 c1 c2 c3 (by omega) c4 rfl rfl ⟨by omega, by omega⟩ k1 k2 ?_);rw [zvs, qb, q2];refine ⟨q1, n1, f1, _, rfl, rfl, n1, f1, _, rfl, e1, by omega, fun v' => ?_⟩;rw [z2];show aR qa (fun _ => none) 168 _ (((eZ Try.f6).toList.drop 9).take 1) _ _ _;rw [zvt];refine CodeY.le (e' := bN v' i k) ⟨rfl, rfl, rfl, rfl, trivial⟩ (CodeY.region (H := fun _ => none) ?_ d4);rw [pU2, wi];exact ⟨rfl, done (i + 1) k (eV S (1, A.getD i []), v') _ ⟨rfl, rfl, rfl, rfl, trivial⟩ (hJ.step hi j1 hs (.inl (by omega)) e2) (by omega)⟩
  -- an element of B is added
  have add : k < B.length -> cX (A.drop i) (B.drop k) = (2, B.getD k []) :: cX (A.drop i) (B.drop (k + 1)) -> CodeY (OutZ 33 21 w0 I0) qa 168 (.seq (.region 8 (e9 Try.f6) false) (.region 9 (mO Try.f6) false))
   (S, v) (bN v i k) (bI na fa (QA.map aX) nb fb (QB.map aX) false (cY L)) fun s' x e h => x = .normal /\ ∃ u' : Nat × Nat × (List DStep × Value), LeE (bN u'.2.2.2 u'.1 u'.2.1) e /\ h = bI na fa (QA.map aX) nb fb (QB.map aX) false (cY L) /\ s' = u'.2.2 /\ JOf A B M u' /\ A.length + B.length - (u'.1 + u'.2.1) < A.length + B.length - (i + k) := by
   intro hk hs;obtain ⟨c1, c2, c3, c4⟩ := zv0;obtain ⟨q1, n1, f1, q2⟩ := gB hk;obtain ⟨e1, e2⟩ := hcB _ (memB' hk);refine CodeY.seq (CodeY.regAdd (H := fun _ => none) zb1 d5 c1 c2 c3 (by omega) c4 rfl rfl ⟨by omega, by omega⟩ k1 k2 ?_);rw [zvu, qb, q2];refine ⟨q1, n1, f1, _, rfl, rfl, n1, f1, _, rfl, e1, by omega, fun v' => ?_⟩;rw [z3];show aR qa (fun _ => none) 168 _ (((e9 Try.f6).toList.drop 9).take 1) _ _ _;rw [zvv];refine CodeY.le (e' := bN v' i k) ⟨rfl, rfl, rfl, rfl, trivial⟩ (CodeY.region (H := fun _ => none) ?_ d6);rw [pV2, wk];exact ⟨rfl, done i (k + 1) (eV S (2, B.getD k []), v') _ ⟨rfl, rfl, rfl, rfl, trivial⟩ (hJ.step i1 hk hs (.inl (by omega)) e2) (by omega)⟩
  refine CodeY.seq (CodeY.of OutZ.stab (n0 := 0) (dQ (Eq.mpr (zvp _) ?_)));rw [lA, lB];refine aH (fun hk => ?_) (fun hk => ?_)
  ·have hk : k = B.length := by simp only [beq_iff_eq] at hk; omega
   have hi : i < A.length := hor.resolve_right (by omega);refine CodeY.cond (t := true) rfl (CodeY.le (e' := bN v i k) ⟨rfl, rfl, rfl, rfl, trivial⟩ (drop hi ?_));rw [hk, qy, mM A i [] hi, zD]
  ·have hk : k < B.length := by simp only [beq_iff_eq] at hk; omega
   refine aH (fun hi => ?_) (fun hi => ?_)
   ·have hi : i < A.length := by simp only [aB] at hi; omega
    rw [wi, wk];refine (hat (i + 1) k hi j1).mono ?_;rintro _ rfl;have t21 := kM (i := i + 1) (k := k) hi j1;have t12 := kM (i := i) (k := k + 1) i1 hk;refine ⟨_, rfl, rfl, nQ L _ (by rw [hL.len]; exact t21), _, by rw [qb, kL L _ (by rw [hL.len]; exact t21)]; rfl, (hat i (k + 1) i1 hk).mono ?_⟩;rintro _ rfl;refine ⟨_, rfl, rfl, nQ L _ (by rw [hL.len]; exact t12), _, by rw [qb, kL L _ (by rw [hL.len]; exact t12)]; rfl, ?_⟩;rw [hL.at' (i + 1) k hi j1 trivial, hL.at' i (k + 1) i1 hk trivial];have hst := uR (A.getD i []) (B.getD k []) (A.drop (i + 1)) (B.drop (k + 1));rw [if_neg (hne hi hk), <- mM A i [] hi, <- mM B k [] hk] at hst;refine CodeY.cond (t := decide (((cW (A.drop (i + 1)) (B.drop k) : Nat) : Int) >= ((cW (A.drop i) (B.drop (k + 1)) : Nat) : Int))) rfl ?_;by_cases hle : cW (A.drop i) (B.drop (k + 1)) <= cW (A.drop (i + 1)) (B.drop k)
    ·rw [if_pos hle] at hst;rw [if_pos (by simp only [aB]; omega)];exact CodeY.le (e' := bN v i k) ⟨rfl, rfl, rfl, rfl, trivial⟩ (drop hi hst)
    ·rw [if_neg hle] at hst;rw [if_neg (by simp only [aB]; omega)];exact CodeY.le (e' := bN v i k) ⟨rfl, rfl, rfl, rfl, trivial⟩ (add hk hst)
   ·have hi : i = A.length := by simp only [aB] at hi; omega
    refine CodeY.cond (t := false) rfl (CodeY.le (e' := bN v i k) ⟨rfl, rfl, rfl, rfl, trivial⟩ (add hk ?_));rw [hi, qy, mM B k [] hk, zgo]
 have go : (i < A.length ∨ k < B.length) -> CodeY (OutZ 33 21 w0 I0) qa 168 (.block 1 (.block 2 (.seq (bD (ofY Try.f6))
  (.cond (.tmp 67) (.seq (.region 11 (gO Try.f6) false) (.region 12 (oT2 Try.f6) false)) (.seq (bD (lS Try.f6)) (.cond (.tmp 114) (.seq (.region 14 (eZ Try.f6) false) (.region 15 (mN Try.f6) false)) (.seq (.region 8 (e9 Try.f6) false) (.region 9 (mO Try.f6) false))))))))
  (S, v) (bN v i k) (bI na fa (QA.map aX) nb fb (QB.map aX) false (cY L)) fun s' x e h => x = .normal /\ ∃ u' : Nat × Nat × (List DStep × Value), LeE (bN u'.2.2.2 u'.1 u'.2.1) e /\ h = bI na fa (QA.map aX) nb fb (QB.map aX) false (cY L) /\ s' = u'.2.2 /\ JOf A B M u' /\ A.length + B.length - (u'.1 + u'.2.1) < A.length + B.length - (i + k) := by
  intro hor
  have norm : ∀ {c : Code} {e : Env} {s : List DStep × Value} {h : Hp} {Ψ : List DStep × Value -> Env -> Hp -> Prop}, CodeY (OutZ 33 21 w0 I0) qa 168 c s e h (fun s' x e h => x = .normal /\ Ψ s' e h) -> CodeY (OutZ 33 21 w0 I0) qa 168 (.block 1 (.block 2 c)) s e h (fun s' x e h => x = .normal /\ Ψ s' e h) := fun hc =>
   CodeY.block (CodeY.block (hc.mono fun s x e h ⟨hx, hp⟩ => by subst hx; exact ⟨rfl, hp⟩))
  refine norm ?_;refine CodeY.seq (CodeY.of OutZ.stab (n0 := 0) (dQ (Eq.mpr (zvo _) ?_)));rw [lA, lB];refine aH (fun hi => ?_) (fun hi => ?_)
  ·have hi : i < A.length := by simp only [aB] at hi; omega
   refine aH (fun hk => ?_) (fun hk => ?_)
   ·have hk : k < B.length := by simp only [aB] at hk; omega
    obtain ⟨q1, n1, f1, q2⟩ := gA hi;obtain ⟨q3, n3, f3, q4⟩ := gB hk;obtain ⟨e1, e2⟩ := hcA _ (memA hi);rw [qb, qb, q2, q4];refine ⟨q1, n1, f1, _, rfl, q3, n3, f3, _, rfl, (zjz n1 f1 n3 f3 (A.getD i []) (B.getD k []) (by omega)).mono ?_⟩;rintro _ rfl;refine ⟨_, rfl, CodeY.cond (t := decide (A.getD i [] = B.getD k [])) rfl ?_⟩;by_cases hab : A.getD i [] = B.getD k []
    ·rw [if_pos (by simpa using hab)]
     obtain ⟨c1, c2, c3, c4⟩ := zvy;refine CodeY.le (e' := bN v i k) ⟨rfl, rfl, rfl, rfl, trivial⟩ (CodeY.seq (CodeY.regAdd (H := fun _ => none) zb1 d1 c1 c2 c3 (by omega) c4 rfl rfl ⟨by omega, by omega⟩ k1 k2 ?_));rw [zvq, qb, q2];refine ⟨q1, n1, f1, _, rfl, rfl, n1, f1, _, rfl, e1, by omega, fun v' => ?_⟩;rw [z1];show aR qa (fun _ => none) 168 _ (((gO Try.f6).toList.drop 9).take 1) _ _ _;rw [zvr];refine CodeY.le (e' := bN v' i k) ⟨rfl, rfl, rfl, rfl, trivial⟩ (CodeY.region (H := fun _ => none) ?_ d2);rw [pT2, wi, wk];have hst := uR (A.getD i []) (B.getD k []) (A.drop (i + 1)) (B.drop (k + 1));rw [if_pos hab, <- mM A i [] hi, <- mM B k [] hk] at hst;exact ⟨rfl, done (i + 1) (k + 1) (eV S (0, A.getD i []), v') _ ⟨rfl, rfl, rfl, rfl, trivial⟩ (hJ.step hi hk hst (.inr (by omega)) e2) (by omega)⟩
    ·rw [if_neg (by simpa using hab)]
     exact CodeY.le (e' := bN v i k) ⟨rfl, rfl, rfl, rfl, trivial⟩ (rest (fun _ _ => hab) hor)
   ·have hk : ¬ k < B.length := by simp only [aB] at hk; omega
    exact CodeY.cond (t := false) rfl (CodeY.le (e' := bN v i k) ⟨rfl, rfl, rfl, rfl, trivial⟩ (rest (fun _ h => absurd h hk) hor))
  ·have hi : ¬ i < A.length := by simp only [aB] at hi; omega
   exact CodeY.cond (t := false) rfl (CodeY.le (e' := bN v i k) ⟨rfl, rfl, rfl, rfl, trivial⟩ (rest (fun h => absurd h hi) hor))
 refine CodeY.seq (CodeY.of OutZ.stab (n0 := 0) (dQ (Eq.mpr (pO7 _) ?_)));rw [lA, lB];refine aH (fun hi => ?_) (fun hi => ?_)
 ·have hi : i < A.length := by simp only [aB] at hi; omega
  exact CodeY.le (e' := bN v i k) ⟨rfl, rfl, rfl, rfl, trivial⟩ ((go (.inl hi)).mono fun s x e h ⟨hx, hp⟩ => by subst hx; exact hp)
 ·have hi : i = A.length := by simp only [aB] at hi; omega
  refine aH (fun hk => ?_) (fun hk => ?_)
  ·have hk : k < B.length := by simp only [aB] at hk; omega
   exact CodeY.le (e' := bN v i k) ⟨rfl, rfl, rfl, rfl, trivial⟩ ((go (.inr hk)).mono fun s x e h ⟨hx, hp⟩ => by subst hx; exact hp)
  ·have hk : k = B.length := by simp only [aB] at hk; omega
   obtain ⟨l, h1, h2⟩ := hJ.ops;dsimp only at h1 h2;rw [hi, hk, qy, qy, zC, qbc] at h1;refine ⟨rfl, ?_, rfl, by show S = _; rw [h2, <- h1]; rfl⟩;rw [<- hi, <- hk];exact ⟨rfl, rfl, rfl, rfl, trivial⟩
end
end Go.Eng
namespace Go.Eng
open Go Go.Proofs Go.Eng.Rows Go.Eng.Trie Go.Eng.Srt
def zv3 : Bool := tab73.all fun x => decide ((aY tab73 8 x.fr).length <= 8)
theorem zv4 : zv3 = true := by kernel_rfl
theorem zv5 (r : Int) : (aY tab 8 r).length <= 8 := by
 cases hs : cO r with
 | true => rw [lH hs]; have := rL r; omega
 | false =>
   by_cases hp : aK tab r = (0, 0)
   ·rw [o9 hs hp]; simp
   ·obtain ⟨x, hx, hk, hf, _⟩ := y0 vL hp;have := List.all_eq_true.1 zv4 x (zca hx hk);rw [vN, <- hf];exact of_decide_eq_true this
theorem zv6 (l : List Int) : (fI tab l).length <= 8 * l.length := by
 unfold fI;rw [<- (uI vM _).len]
 induction l with
 | nil => simp
 | cons x l ih =>
   have := zv5 x;rw [qav, qe, qw]; omega
theorem vR (l : List Int) : (dT tab l).length <= 8 * l.length := qai (zf9 tab _) (zv6 l)
end Go.Eng
namespace Go.Eng
open Go Go.Proofs Go.Eng.Rows Go.Eng.Srt
def dC (l : List Int) : List (List Int) := jO tab (dT tab l) 0
theorem zkq (l : List Int) (h : l.length < 10000) : ∀ c ∈ dC l, c ≠ [] /\ c.length <= 100000 := fun c hc => by
 obtain ⟨h1, h2⟩ := zv1 _ _ c hc;exact ⟨h1, by have := vR l; omega⟩
theorem zkr {a b : Nat} (hb : 0 < b) (hb2 : b < 1000000) : (((a : Nat) : Int) > i64.wrap (qao 1048576 ((b : Nat) : Int))) ↔ ¬ a * b <= 1048576 := by
 have h1 : qao 1048576 ((b : Nat) : Int) = ((1048576 / b : Nat) : Int) := rfl;have h2 : 1048576 / b <= 1048576 := Nat.div_le_self _ _;rw [h1, <- Nat.le_div_iff_mul_le hb];generalize 1048576 / b = q at h2 ⊢;rw [aD (by omega) (by omega)];omega
theorem zks {T : PV} (hv : fN tab T) (n f n2 f2 : Bool) (l m : List Int) (rl : R32 l) (rm : R32 m) (hl : l.length < 10000) (hm : m.length < 10000) :
 PCall qa 6 [T, .sl n f (aA l), .sl n2 f2 (aA m)] fun x =>
  (((dC l).length + 1) * ((dC m).length + 1) <= 1048576 /\ ∃ nl, (nl = true -> mB (dC l) (dC m) = []) /\ x = .tup [.sl nl false ((mB (dC l) (dC m)).map aN), .int .i64 0]) ∨
  (¬ ((dC l).length + 1) * ((dC m).length + 1) <= 1048576 /\ x = .tup [.sl true true [], .int .i64 7]) := by
 have h1 := fun n f => zkn zka hv n f (dT tab l) (zj8 rl) (by have := vR l; omega);have h2 := fun n f => zkn zka hv n f (dT tab m) (zj8 rm) (by have := vR m; omega);have h3 := zj7 hv n f l rl (by omega);have h4 := zj7 hv n2 f2 m rm (by omega);obtain ⟨tc, tg, tj, tf, tp, made, sec, rfl, _, _⟩ := hv;have hres := zcf.2.2.2.2.2.2.2.2.2.2;have hR := zcf.2.2.2.2.2.2.1;have lA := zkq l hl;have lB := zkq m hm
 have bnd : ∀ {l : List Int}, l.length < 10000 -> (dC l).length < 100000 := fun {l} h => by
  have : ∀ k i, (fZ tab (dT tab l) k i).length <= (dT tab l).length - i := by
   intro k
   induction k with
   | zero => intro i; exact qz _
   | succ k ih =>
     intro i;rw [fZ];split
     ·rename_i hi;obtain ⟨x1, x2, _⟩ := rS (rows := tab) hi;have := ih (cS tab (dT tab l) i);rw [qw]; omega
     ·exact qz _
  have h1 := this ((dT tab l).length + 1) 0;have h2 := vR l;show (fZ tab (dT tab l) ((dT tab l).length + 1) 0).length < _;omega
 have bA := bnd hl;have bB := bnd hm;refine PCall.ofY (tS := 33) (tr := 21) Try.func6 zvx (by kernel_rfl) (qal (by kernel_rfl)) fun w0 I0 => ?_;rw [hres];show CodeY _ _ 168 _ _ _ _ _;refine CodeY.seq (CodeY.of OutZ.stab (n0 := 0) (dQ (Eq.mpr (pO0 _ _ _ _ _ _ _ _) ?_)));refine CodeY.seq (CodeY.of OutZ.stab (n0 := 0) (dQ (Eq.mpr (pO1 _ _ _ _ _ _ _ _) ?_)));refine h3.mono ?_;rintro _ ⟨n1, f1, rfl⟩;refine ⟨n1, f1, _, rfl, (h1 n1 f1).mono ?_⟩;rintro _ ⟨n3, QA, rfl, hQA⟩;refine ⟨n3, false, _, rfl, h4.mono ?_⟩;rintro _ ⟨n4, f4, rfl⟩;refine ⟨n4, f4, _, rfl, (h2 n4 f4).mono ?_⟩;rintro _ ⟨n5, QB, rfl, hQB⟩;refine ⟨n5, false, _, rfl, ?_⟩;have hQA : QA.map (fun q => q.2.2) = dC l := hQA;have hQB : QB.map (fun q => q.2.2) = dC m := hQB;have eA : (QA.map aX).length = (dC l).length := by rw [<- hQA, qc, qc]
 have eB : (QB.map aX).length = (dC m).length := by rw [<- hQB, qc, qc]
 clear h1 h2 h3 h4;refine CodeY.le (e' := [(8, .box 0 0), (6, .pv (.sl true true [])), (7, .pv (.int .i64 0))]) ⟨rfl, rfl, rfl, trivial⟩ ?_;refine CodeY.seq (CodeY.of OutZ.stab (n0 := 0) (dQ (Eq.mpr (pO2 _) ?_)));have w1 : i64.wrap (((dC l).length : Int) + 1) = (((dC l).length + 1 : Nat) : Int) := by rw [aD (by omega) (by omega)]; omega
 have w2 : i64.wrap (((dC m).length : Int) + 1) = (((dC m).length + 1 : Nat) : Int) := by rw [aD (by omega) (by omega)]; omega
 rw [eA, eB, w1, w2];refine ⟨by omega, aH (fun hc => ?_) (fun hc => ?_)⟩
 ·rw [aB, zkr (by omega) (by omega)] at hc;exact .inl ⟨_, .inr ⟨[.sl true true [], .int .i64 7], rfl, rfl⟩, .inr ⟨hc, rfl⟩⟩
 ·rw [aB, zkr (by omega) (by omega), qab] at hc;refine CodeY.le (e' := [(8, .box 0 0)]) ⟨rfl, trivial⟩ ?_;refine CodeY.seq (CodeY.of OutZ.stab (n0 := 0) (dQ (Eq.mpr (pO4 _) ?_)));refine (zvk n3 false n5 false hQA hQB hc (fun c hc => by have := lA c hc; omega)).mono ?_;rintro r h' ⟨L, rfl, rfl, hL⟩;refine ⟨(false, cY L), ⟨rfl, rfl⟩, ⟨trivial, trivial⟩, ?_⟩;refine CodeY.seq (CodeY.of OutZ.stab (n0 := 0) (dQ (Eq.mpr (pO5 _) ?_)));refine CodeY.seq (CodeY.of OutZ.stab (n0 := 0) (dQ (Eq.mpr (pO6 _) ?_)));refine CodeY.nilRaw (d := 9) rfl (CodeY.le (e' := bN (.slice none 0 0) ((0 : Nat) : Int) ((0 : Nat) : Int)) ⟨rfl, rfl, rfl, rfl, trivial⟩ ?_)
  refine CodeY.seq (CodeY.block (CodeY.loop (S := fun u : Nat × Nat × (List DStep × Value) => (bN u.2.2.2 u.1 u.2.1, bI n3 false (QA.map aX) n5 false (QB.map aX) false (cY L))) (A := fun u => u.2.2) (J := JOf (dC l) (dC m) 100000) (μ := fun u => (dC l).length + (dC m).length - (u.1 + u.2.1)) (s0 := (0, 0, ([], .slice none 0 0)))
   ⟨rfl, rfl, rfl, rfl, trivial⟩ rfl rfl ⟨qz _, qz _, ⟨[], rfl, rfl⟩, zvl⟩ fun u hJ => ?_))
  refine (zv2 n3 false n5 false hQA hQB hc (qi _) lA lB hL u hJ).mono fun s x e h hx => ?_;cases x with
  | normal => exact hx
  | ret => exact hx.elim
  | exit k =>
    obtain ⟨rfl, hle, rfl, hs⟩ := hx;show CodeY _ _ _ _ _ _ _ _;refine CodeY.le hle (CodeY.seq (CodeY.region (H := fun _ => none) ?_ hR));rw [zvw];refine CodeY.ret (.inr ⟨rfl, fun nl hnl => ?_⟩);rw [hs] at hnl ⊢;exact ⟨_, .inr ⟨[.sl nl false _, .int .i64 0], rfl, rfl⟩, .inl ⟨hc, nl, hnl, rfl⟩⟩
theorem zv7 (s : DStep) : (aN s).length = 3 := rfl
theorem zv8 (s : DStep) (l : List DStep) : jP (s :: l) = (if s.kind = 0 then 0 else s.n) + jP l := by simp [jP]
theorem zv9 (l : List DStep) (s : DStep) : jP (l ++ [s]) = jP l + (if s.kind = 0 then 0 else s.n) := by simp [jP, List.sum_append]
theorem zcg (M : Nat) : ∀ (l : List DStep), (∀ s ∈ l, 0 <= s.n /\ s.n <= M) -> 0 <= jP l /\ jP l <= (l.length * M : Nat)
 | [], _ => by simp [jP]
 | s :: l, h => by
   have h1 := zcg M l fun x hx => h x (qan _ hx);have h2 := h s qar;rw [zv8, qw, qay, Nat.one_mul];split <;> omega
theorem zwa (n f : Bool) (S : List DStep) (hS : S.length < 100000) (hn : ∀ s ∈ S, 0 <= s.n /\ s.n <= (1000000 : Nat)) : PCall qa 14 [.sl n f (S.map aN)] fun v => v = .int .i64 (jP S) := by
 refine ztz n f (S.map aN) (fun c x => ∃ i : Nat, x = i /\ i <= S.length /\ c = jP (S.take i)) (fun _ x => S.length - x.toNat) ?_;unfold zjq;refine ⟨⟨rfl, 0, rfl, qz _, rfl⟩, ?_⟩;rintro _ _ ⟨i, rfl, hi, rfl⟩;rw [qc];refine aH (fun hc => ?_) (fun hc => ?_)
 ·have hi' : i < S.length := by simp only [aB] at hc; omega
  have hb := zcg 1000000 (S.take (i + 1)) fun s hs => hn s (qt hs);have hb0 := zcg 1000000 (S.take i) fun s hs => hn s (qt hs);have hs := hn S[i] (qo hi');have hl : (S.take (i + 1)).length <= 100000 := by rw [qn]; omega
  have hl0 : (S.take i).length <= 100000 := by rw [qn]; omega
  have hm : (S.take (i + 1)).length * 1000000 <= 100000 * 1000000 := ql _ hl;have hm0 : (S.take i).length * 1000000 <= 100000 * 1000000 := ql _ hl0;have hsn := zv9 (S.take i) S[i];rw [<- eC hi'] at hsn;have wi : i64.wrap ((i : Int) + 1) = ((i + 1 : Nat) : Int) := by rw [aD (by omega) (by omega)]; omega
  rw [qb, c7 hi', wi];refine ⟨c8 zv7 (by omega) (by omega), S[i].kind, rfl, S[i].n, rfl, false, false, aA S[i].text, rfl, ?_⟩;refine aH (fun hk => ?_) (fun hk => ?_)
  ·have hk : ¬ S[i].kind = 0 := by simpa using hk
   rw [if_neg hk] at hsn;rw [aD (by omega) (by omega), <- hsn];exact ⟨rfl, ⟨i + 1, rfl, hi', rfl⟩, by dsimp only; omega⟩
  ·have hk : S[i].kind = 0 := by simpa using hk
   rw [if_pos hk, Int.add_zero] at hsn;rw [<- hsn];exact ⟨rfl, ⟨i + 1, rfl, hi', rfl⟩, by dsimp only; omega⟩
 ·have : i = S.length := by simp only [aB] at hc; omega
  subst this;rw [List.take_length]
theorem zwb : dC [97, 98, 99] = [[97], [98], [99]] := by kernel_rfl
theorem zwc : dC [97, 120, 99] = [[97], [120], [99]] := by kernel_rfl
theorem zwd : mB [[97], [98], [99]] [[97], [120], [99]] = [⟨0, 1, [97]⟩, ⟨1, 1, [98]⟩, ⟨2, 1, [120]⟩, ⟨0, 1, [99]⟩] := by
 have h : cX [[97], [98], [99]] [[97], [120], [99]] = [(0, [97]), (1, [98]), (2, [120]), (0, [99])] := by
  simp [uR, uP, zgo, zD, zC, zA, zB]
 unfold mB;rw [h]; rfl
theorem awake50 : PCall qa 5 [] fun v => v = .bool true := by
 refine zt0 ?_;unfold zjr;refine p42.mono ?_;rintro _ ⟨n, f, rfl⟩;refine ⟨n, f, _, rfl, (zj0 n f).mono fun T hT => ?_⟩;have r1 : R32 [97, 98, 99] := fun x hx => by simp at hx; omega
 have r2 : R32 [97, 120, 99] := fun x hx => by simp at hx; omega
 have := zks hT false true false true [97, 98, 99] [97, 120, 99] r1 r2 (by decide) (by decide);rw [zwb, zwc, zwd] at this;refine this.mono ?_;rintro _ (⟨_, nl, _, rfl⟩ | ⟨h, _⟩)
 ·refine ⟨_, rfl, rfl, _, rfl, nl, false, _, rfl, _, rfl, 0, rfl, cD rfl ⟨⟨by decide, by decide, rfl⟩, 0, rfl, cD rfl ⟨⟨by decide, by decide, rfl⟩, 1, rfl, cD rfl ⟨⟨by decide, by decide, rfl⟩, 2, rfl, cD rfl ?_⟩⟩⟩⟩
  refine (zwa nl false [⟨0, 1, [97]⟩, ⟨1, 1, [98]⟩, ⟨2, 1, [120]⟩, ⟨0, 1, [99]⟩] (by decide) (fun s hs => by
   simp only [List.mem_cons, List.mem_nil_iff, or_false] at hs
   rcases hs with rfl | rfl | rfl | rfl <;> exact ⟨by decide, by decide⟩)).mono ?_
  rintro _ rfl;exact ⟨_, rfl, rfl⟩
 ·exact absurd (by decide) h
def aS (n : Nat) : List Int := qk n 97
theorem zkt (n : Nat) : R32 (aS n) := fun x hx => by rw [List.eq_of_mem_replicate hx]; omega
theorem nR (n : Nat) : (aS n).length = n := qac
theorem zku (n : Nat) : aS n ++ [97] = aS (n + 1) := by unfold aS; rw [List.replicate_succ']
theorem zwe : o7 tab 97 = true := by kernel_rfl
theorem zwf : dT tab [] = [] := by kernel_rfl
theorem zwg : dT tab [97] = [97] := by kernel_rfl
theorem zkv : ∀ n, dT tab (aS n) = aS n
 | 0 => zwf
 | n + 1 => by
   rw [<- zku, zpo zui vK zwe (aS n) [], zkv n, zwg]
theorem zwh (st : SSt) : dU tab st 97 = ⟨true, 0, 0, 0, false⟩ := by
 have h1 : bM tab 97 = 0 := by kernel_rfl
 have h2 : dF tab 5 97 = false := by kernel_rfl
 have h3 : dB tab 97 = 0 := by kernel_rfl
 unfold dU;rw [h1, h2, h3];simp
theorem zwi : mA tab ⟨true, 0, 0, 0, false⟩ 97 = true := by kernel_rfl
theorem zwj (r : Int) : mA tab st0 r = true := rfl
theorem zkw {n i : Nat} (h : i < n) : (aS n).getD i 0 = 97 := by unfold aS; rw [qm, List.getElem?_replicate, if_pos h]; rfl
theorem zwk {n i : Nat} (h : i < n) : fL tab (aS n) i = true := by
 unfold fL;rw [zkw h];cases i with
 | zero => exact zwj _
 | succ i =>
   rw [dJ, Nat.zero_add, zkw (by omega), zwh];exact zwi
theorem zwl {n i : Nat} (h : i < n) : cS tab (aS n) i = i + 1 := by
 unfold cS;rw [nR];by_cases e : i + 1 < n
 ·obtain ⟨k, hk⟩ : ∃ k, n - (i + 1) = k + 1 := ⟨n - (i + 1) - 1, by omega⟩;rw [hk, fY, if_pos (zwk e)]
 ·rw [show n - (i + 1) = 0 by omega]; rfl
theorem clA : ∀ (d n i : Nat), i + d = n -> jO tab (aS n) i = qk d [97]
 | 0, n, i, h => by rw [zgl (by rw [nR]; omega)]; rfl
 | d + 1, n, i, h => by
   have hi : i < n := by omega
   rw [zgm (by rw [nR]; exact hi), zwl hi, clA d n (i + 1) (by omega), List.replicate_succ];congr 1;unfold fW aS;rw [List.take_replicate, List.drop_replicate, show min (i + 1) n - i = 1 by omega]; rfl
theorem zkx (n : Nat) : dC (aS n) = qk n [97] := by
 unfold dC;rw [zkv];exact clA n n 0 (by omega)
theorem zwm (k : Int) : ∃ m : Nat, m <= 7 /\ i64.wrap (((BitVec.ofInt i64.bits k &&& BitVec.ofInt i64.bits (7 : Int)).toNat : Nat) : Int) = m := by
 refine ⟨(BitVec.ofInt i64.bits k &&& BitVec.ofInt i64.bits (7 : Int)).toNat, ?_, ?_⟩
 ·rw [BitVec.toNat_and];exact qai qbb (by decide)
 ·have : (BitVec.ofInt i64.bits k &&& BitVec.ofInt i64.bits (7 : Int)).toNat <= 7 := by
   rw [BitVec.toNat_and];exact qai qbb (by decide)
  exact aD (by omega) (by omega)
theorem zky (n : Nat) : aA (aS n) ++ [[.int .i32 97]] = aA (aS (n + 1)) := by rw [<- zku]; simp [aA]
theorem zwn (k : Int) : PCall qa 3 [.int .i64 k] fun v => v = .bool true := by
 refine zt1 k (fun x c _ s => ∃ (m i : Nat), x = m /\ m <= 7 /\ c = i /\ i <= 1023 /\ s = aA (aS i)) (fun _ c _ _ => 1023 - c.toNat)
  (fun x c _ s _ t => ∃ (m i : Nat), x = m /\ m <= 7 /\ c = i /\ i <= 1020 + m /\ s = aA (aS 1023) /\ t = aA (aS i)) (fun x c _ _ _ _ => 1020 + x.toNat - c.toNat) ?_
 unfold zjs;obtain ⟨m, hm, em⟩ := zwm k;rw [em];refine ⟨⟨rfl, m, 0, rfl, hm, rfl, by omega, rfl⟩, ?_⟩;rintro _ _ n0 _ ⟨m, i, rfl, hm, rfl, hi, rfl⟩;refine aH (fun hc => ?_) (fun hc => ?_)
 ·have hc : i < 1023 := by simp only [aB] at hc; omega
  have wi : i64.wrap ((i : Int) + 1) = ((i + 1 : Nat) : Int) := by rw [aD (by omega) (by omega)]; omega
  rw [wi, zky];exact ⟨⟨fun e he => by cases he; rfl, by rw [dS, nR]; omega⟩, rfl, ⟨m, i + 1, rfl, hm, rfl, by omega, rfl⟩, by dsimp only; omega⟩
 ·have hc : i = 1023 := by simp only [aB] at hc; omega
  subst hc;refine ⟨⟨rfl, m, 0, rfl, hm, rfl, by omega, rfl, rfl⟩, ?_⟩;rintro _ _ n0 _ n1 _ ⟨m, i, rfl, hm, rfl, hi, rfl, rfl⟩;have wm : i64.wrap ((1020 : Int) + (m : Int)) = ((1020 + m : Nat) : Int) := by rw [aD (by omega) (by omega)]; omega
  rw [wm];refine aH (fun hc => ?_) (fun hc => ?_)
  ·have hc : i < 1020 + m := by simp only [aB] at hc; omega
   have wi : i64.wrap ((i : Int) + 1) = ((i + 1 : Nat) : Int) := by rw [aD (by omega) (by omega)]; omega
   rw [wi, zky];exact ⟨⟨fun e he => by cases he; rfl, by rw [dS, nR]; omega⟩, rfl, ⟨m, i + 1, rfl, hm, rfl, by omega, rfl, rfl⟩, by dsimp only; omega⟩
  ·have hc : i = 1020 + m := by simp only [aB] at hc; omega
   subst hc;have fin : PCall qa 5 [] fun v => ∃ b, v = .bool b /\ PV.bool b = .bool true := awake50.mono fun v hv => ⟨true, hv, rfl⟩;refine aH (fun _ => fin) (fun h4 => ?_);have h4 : m = 0 ∨ 4 <= m := by simp only [qd, aB, not_and] at h4; omega
   refine p42.mono ?_;rintro _ ⟨n3, f3, rfl⟩;refine ⟨n3, f3, _, rfl, (zj0 n3 f3).mono fun T hT => ?_⟩;refine (zks hT n0 false n1 false (aS 1023) (aS (1020 + m)) (zkt _) (zkt _) (by rw [nR]; omega) (by rw [nR]; omega)).mono ?_;rw [zkx, zkx, qac, qac];rintro _ (⟨h, nl, _, rfl⟩ | ⟨h, rfl⟩)
   ·have hm0 : m = 0 := by omega
    subst hm0;obtain ⟨t, u, hst⟩ := zpw [97] 1020 3 (by omega) (by omega);have hst : mB (qk 1023 [97]) (qk (1020 + 0) [97]) = [⟨0, (1020 : Nat), t⟩, ⟨1, (3 : Nat), u⟩] := hst;rw [hst];refine ⟨_, rfl, rfl, _, rfl, nl, false, _, rfl, _, rfl, 0, rfl, cJ (by simp) (cD rfl ⟨⟨by decide, by show (0 : Int) < 2; decide, rfl⟩, 1020, rfl, cD rfl ⟨⟨by decide, by show (1 : Int) < 2; decide, rfl⟩, 1, rfl, cD rfl ⟨⟨by decide, by show (1 : Int) < 2; decide, rfl⟩, 3, rfl, cD rfl fin⟩⟩⟩)⟩
   ·have hm4 : 4 <= m := by omega
    exact ⟨_, rfl, rfl, _, rfl, true, true, [], rfl, _, rfl, 7, rfl, cD (by simp only [aB]; omega) (cD rfl fin)⟩
theorem lawDeltaLimit {pvs : List PV} (h : rA qa 8 Try.f3.params.toList pvs) : PCall qa 3 pvs fun v => v = .bool true := by
 obtain ⟨v0, r0, rfl, h0, rfl⟩ : rA qa 8 [3] pvs := h;obtain ⟨k, rfl⟩ := zuw h0;exact zwn k
end Go.Eng
