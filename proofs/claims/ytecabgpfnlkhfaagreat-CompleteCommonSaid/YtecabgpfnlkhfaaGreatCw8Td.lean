/- States run over the code: what each function gives, and what follows. -/
import Derived.Test.YtecabgpfnlkhfaaGreatCw8Tc
open Go.IntKind (i64 i32)
open Go.Proofs.Tryz renaming prog → qa
open List renaming length_map → qb, take_of_length_le → qd, getElem_mem → qe, eq_nil_of_length_eq_zero → qg, length_take → qh, flatten_append → qj, mem_cons_self → qk, mem_cons_of_mem → ql, length → qm, getD_eq_getElem?_getD → qn, drop → qo, mem_of_mem_take → qq, length_append → qr, length_nil → qt, take_zero → qu, take → qv
open Int renaming toNat_natCast → qc
open Bool renaming not_eq_true' → qf, or_eq_true → qp
open Decidable renaming not_not → qi
set_option linter.unusedVariables false
set_option maxRecDepth 100000
set_option linter.constructorNameAsVariable false
namespace Go.Eng
open Go Go.Proofs
section
variable (n f : Bool) (es : LL) (n2 f2 : Bool) (ss : LL)
def zot (R : PV -> Prop) : Prop :=
 PCall qa 64 [PV.sl n f es, PV.sl n2 f2 ss] fun v => ∃ n1 f1 es1, v = PV.sl n1 f1 es1 /\ PCall qa 63 [PV.sl n f es, PV.sl n1 f1 es1] fun v1 => ∃ n3 f3 es2, v1 = PV.sl n3 f3 es2 /\ R (PV.sl n3 f3 es2)
theorem z1r {R : PV -> Prop} (h : zot n f es n2 f2 ss R) : PCall qa 72 [.sl n f es, .sl n2 f2 ss] R :=
 PCall.wz Tryz.func72 aM [0, 1, 4] aX h
end
def zed  (n7 f7 : Bool) (s7 : LL) (n8 f8 : Bool) (s8 : LL) (x9 : Int) : Env × Hp := ([(7, .pv (.sl n7 f7 s7)), (8, .pv (.sl n8 f8 s8)), (9, Y6 x9)], [])
section
variable (n f : Bool) (es : LL) (n2 f2 : Bool) (ss : LL) (n3 f3 : Bool) (s3 : LL) (J : Bool -> Bool -> LL -> Bool -> Bool -> LL -> Int -> Prop) (μ : Bool -> Bool -> LL -> Bool -> Bool -> LL -> Int -> Nat)
def zou (R : PV -> Prop) : Prop :=
 PCall qa 72 [PV.sl n f es, PV.sl n2 f2 ss] fun v => ∃ n1 f1 es1, v = PV.sl n1 f1 es1 /\ PCall qa 72 [PV.sl n f es, PV.sl n3 f3 s3] fun v1 => ∃ n4 f4 es2, v1 = PV.sl n4 f4 es2 /\ if decide ((↑es2.length : Int) > (↑es1.length : Int)) = true then R (Zb false) else (aD (zed n1 f1 es1 n4 f4 es2 (0 : Int)) /\ J n1 f1 es1 n4 f4 es2 (0 : Int)) /\ ∀ (n7 f7 : Bool) (s7 : LL) (n8 f8 : Bool) (s8 : LL) (x9 : Int), J n7 f7 s7 n8 f8 s8 x9 -> if decide (x9 < (↑s8.length : Int)) = true then aH s7 x9 1 /\ ∃ n5 f5 es3, (s7.getD x9.toNat []).head? = some (PV.sl n5 f5 es3) /\ aH s8 x9 1 /\ ∃ n6 f6 es4, (s8.getD x9.toNat []).head? = some (PV.sl n6 f6 es4) /\ PCall qa 22 [PV.sl n5 f5 es3, PV.sl n6 f6 es4] fun v2 => ∃ b, v2 = Zb b /\ if (!b) = true then R (Zb false) else aD (zed n7 f7 s7 n8 f8 s8 (i64.wrap (x9 + 1))) /\ J n7 f7 s7 n8 f8 s8 (i64.wrap (x9 + 1)) /\ μ n7 f7 s7 n8 f8 s8 (i64.wrap (x9 + 1)) < μ n7 f7 s7 n8 f8 s8 x9 else R (Zb true)
theorem z1s {R : PV -> Prop} (h : zou n f es n2 f2 ss n3 f3 s3 J μ R) : PCall qa 29 [.sl n f es, .sl n2 f2 ss, .sl n3 f3 s3] R :=
 PCall.wz Tryz.func29 aM [0, 1, 2, 6, 7, 8, 9, 20, 24, 36] (bU 5 (aZ lE zed J μ (fun e h => (gN e 7, gF e 7, gS e 7, gN e 8, gF e 8, gS e 8, gI e 9)) [] [7, 8, 9] [])) h
end
def zee (n f : Bool) (es : LL) (n2 f2 : Bool) (ss : LL) (n5 f5 : Bool) (s5 : LL) (x7 : Int) (n_0 : Bool) (s_0 : LL) : Env × Hp := ([(0, LV.pv (PV.sl n f es)), (1, LV.pv (PV.sl n2 f2 ss)), (5, .pv (.sl n5 f5 s5)), (6, LV.own 0), (7, Y6 x7)], [.sl (21, 1) true n_0 s_0])
def zef (n f : Bool) (es : LL) (n2 f2 : Bool) (ss : LL) (n5 f5 : Bool) (s5 : LL) (x7 x8 : Int) (n_0 : Bool) (s_0 : LL) : Env × Hp := ([(0, LV.pv (PV.sl n f es)), (1, LV.pv (PV.sl n2 f2 ss)), (5, .pv (.sl n5 f5 s5)), (6, LV.own 0), (7, Y6 x7), (8, Y6 x8)], [.sl (21, 1) true n_0 s_0])
section
variable (n f : Bool) (es : LL) (n2 f2 : Bool) (ss : LL) (J : Bool -> Bool -> LL -> Int -> Bool -> LL -> Prop) (μ : Bool -> Bool -> LL -> Int -> Bool -> LL -> Nat) (J2 : Bool -> Bool -> LL -> Int -> Int -> Bool -> LL -> Bool -> Bool -> LL -> Int -> Int -> Bool -> LL -> Prop) (μ2 : Bool -> Bool -> LL -> Int -> Int -> Bool -> LL -> Nat)
def zov (R : PV -> Prop) : Prop :=
 if ((↑ss.length : Int) == 0) = true then R (PV.sl true true []) else aH ss (0 : Int) 1 /\ ∃ n1 f1 es1, (ss.getD 0 []).head? = some (PV.sl n1 f1 es1) /\ PCall qa 72 [PV.sl n f es, PV.sl n1 f1 es1] fun v => ∃ n3 f3 es2, v = PV.sl n3 f3 es2 /\ (aD (zee n f es n2 f2 ss n3 f3 es2 (0 : Int) true []) /\ J n3 f3 es2 (0 : Int) true []) /\ ∀ (n5 f5 : Bool) (s5 : LL) (x7 : Int) (n_0 : Bool) (s_0 : LL), J n5 f5 s5 x7 n_0 s_0 -> if decide (x7 < (↑s5.length : Int)) = true then (aD (zef n f es n2 f2 ss n5 f5 s5 x7 (1 : Int) n_0 s_0) /\ J2 n5 f5 s5 x7 (1 : Int) n_0 s_0 n5 f5 s5 x7 (1 : Int) n_0 s_0) /\ ∀ (n51 f51 : Bool) (s51 : LL) (x71 x8 : Int) (n_01 : Bool) (s_01 : LL), J2 n5 f5 s5 x7 (1 : Int) n_0 s_0 n51 f51 s51 x71 x8 n_01 s_01 -> if decide (x8 < (↑ss.length : Int)) = true then aH ss x8 1 /\ ∃ n4 f4 es3, (ss.getD x8.toNat []).head? = some (PV.sl n4 f4 es3) /\ PCall qa 72 [PV.sl n f es, PV.sl n4 f4 es3] fun v1 => ∃ n6 f6 es4, v1 = PV.sl n6 f6 es4 /\ if decide (x71 >= (↑es4.length : Int)) = true then R (PV.sl n_01 false s_01) else aH es4 x71 1 /\ ∃ n7 f7 es5, (es4.getD x71.toNat []).head? = some (PV.sl n7 f7 es5) /\ aH s51 x71 1 /\ ∃ n8 f8 es6, (s51.getD x71.toNat []).head? = some (PV.sl n8 f8 es6) /\ PCall qa 22 [PV.sl n7 f7 es5, PV.sl n8 f8 es6] fun v2 => ∃ b, v2 = Zb b /\ if (!b) = true then R (PV.sl n_01 false s_01) else aD (zef n f es n2 f2 ss n51 f51 s51 x71 (i64.wrap (x8 + 1)) n_01 s_01) /\ J2 n5 f5 s5 x7 (1 : Int) n_0 s_0 n51 f51 s51 x71 (i64.wrap (x8 + 1)) n_01 s_01 /\ μ2 n51 f51 s51 x71 (i64.wrap (x8 + 1)) n_01 s_01 < μ2 n51 f51 s51 x71 x8 n_01 s_01 else aH s51 x71 1 /\ ∃ n4 f4 es3, (s51.getD x71.toNat []).head? = some (PV.sl n4 f4 es3) /\ (aR es3 1 /\ (s_01.length + es3.length) * 4 <= 140737488355328) /\ aD (zee n f es n2 f2 ss n51 f51 s51 (i64.wrap (x71 + 1)) (n_01 && es3.isEmpty) (s_01 ++ es3)) /\ J n51 f51 s51 (i64.wrap (x71 + 1)) (n_01 && es3.isEmpty) (s_01 ++ es3) /\ μ n51 f51 s51 (i64.wrap (x71 + 1)) (n_01 && es3.isEmpty) (s_01 ++ es3) < μ n5 f5 s5 x7 n_0 s_0 else R (PV.sl n_0 false s_0)
theorem z1t {R : PV -> Prop} (h : zov n f es n2 f2 ss J μ J2 μ2 R) : PCall qa 28 [.sl n f es, .sl n2 f2 ss] R :=
 PCall.wz Tryz.func28 aM [0, 1, 4, 5, 6, 7, 8, 9, 12, 21, 27, 51] (fX [(6, (aZ cz6 (zee n f es n2 f2 ss) J μ (fun e h => (gN e 5, gF e 5, gS e 5, gI e 7, oN h 0, oS h 0)) [(6, 21, 1)] [0, 1, 5, 6, 7] [])), (9, (fY lE (zef n f es n2 f2 ss) J2 μ2 (fun e h => (gN e 5, gF e 5, gS e 5, gI e 7, gI e 8, oN h 0, oS h 0)) [] [0, 1, 5, 6, 7, 8] []))]) h
end
def zeg (n f : Bool) (es : LL) (n2 f2 : Bool) (ss : LL) (x5 : Int) : Env × Hp := ([(0, LV.pv (PV.sl n f es)), (1, LV.pv (PV.sl n2 f2 ss)), (5, Y6 x5)], [])
section
variable (n f : Bool) (es : LL) (n2 f2 : Bool) (ss : LL) (J : Int -> Prop) (μ : Int -> Nat)
def zow (R : PV -> Prop) : Prop :=
 (aD (zeg n f es n2 f2 ss (0 : Int)) /\ J (0 : Int)) /\ ∀ (x5 : Int), J x5 -> if decide (x5 < (↑es.length : Int)) = true then aH es x5 1 /\ ∃ n1 f1 es1, (es.getD x5.toNat []).head? = some (PV.sl n1 f1 es1) /\ PCall qa 22 [PV.sl n1 f1 es1, PV.sl n2 f2 ss] fun v => ∃ b, v = Zb b /\ if b = true then R (Zb true) else aD (zeg n f es n2 f2 ss (i64.wrap (x5 + 1))) /\ J (i64.wrap (x5 + 1)) /\ μ (i64.wrap (x5 + 1)) < μ x5 else R (Zb false)
theorem z1u {R : PV -> Prop} (h : zow n f es n2 f2 ss J μ R) : PCall qa 77 [.sl n f es, .sl n2 f2 ss] R :=
 PCall.wz Tryz.func77 aM [0, 1, 4, 5, 9, 17] (bU 2 (aZ g9 (zeg n f es n2 f2 ss) J μ (fun e h => (((gI e 5), ()))) [] [0, 1, 5] [])) h
end
def sL (n f : Bool) (es : LL) (n2 f2 : Bool) (ss : LL) (k : Int) (n3 f3 : Bool) (s3 : LL) (x11 x14 : Int) (n_0 : Bool) (s_0 : LL) : Env × Hp := ([(0, LV.pv (PV.sl n f es)), (1, LV.pv (PV.sl n2 f2 ss)), (2, Y6 k), (3, LV.pv (PV.sl n3 f3 s3)), (11, Y6 x11), (13, LV.own 0), (14, Y6 x14)], [.sl (22, 1) true n_0 s_0])
section
variable (n f : Bool) (es : LL) (n2 f2 : Bool) (ss : LL) (k : Int) (n3 f3 : Bool) (s3 : LL) (J : Int -> Int -> Bool -> LL -> Prop) (μ : Int -> Int -> Bool -> LL -> Nat)
def zox (R : PV -> Prop) : Prop :=
 (cZ ss.length none (some k) none /\ aR ss 1) /\ PCall qa 76 [PV.sl n f es, PV.sl n2 (f2 && decide (k = (↑ss.length : Int))) (qo 0 (qv k.toNat ss))] fun v => ∃ n1 f1 es1, v = PV.sl
  n1 f1 es1 /\
 let V1 := (aD (sL n f es n2 f2 ss k n3 f3 s3 k (0 : Int) true []) /\ J k (0 : Int) true []) /\ ∀ (x11 x14 : Int) (n_0 : Bool) (s_0 : LL), J x11 x14 n_0 s_0 ->
 let K7 := fun (y0_ y1_ : Int) (y2_ : Bool) (y3_ : LL) => aD (sL n f es n2 f2 ss k n3 f3 s3 y0_ y1_ y2_ y3_) /\ J y0_ y1_ y2_ y3_ /\ μ y0_ y1_ y2_ y3_ < μ x11 x14 n_0 s_0; if decide (x14 < (↑s3.length : Int)) = true then aH
  s3 x14 1 /\ ∃ n5 f4 es2, (s3.getD x14.toNat []).head? = some (PV.sl n5 f4 es2) /\ PCall qa 64 [PV.sl n f es, PV.sl n5 f4 es2] fun v1 => ∃ n6 f5 es3, v1 = PV.sl n6
  f5 es3 /\ (cZ ss.length (some x11) (some k) none /\ aR ss 1) /\ PCall qa 29 [PV.sl n f es, PV.sl n6 f5 es3, PV.sl n2 (f2 && decide (k = (↑ss.length : Int))) (qo x11.toNat (qv k.toNat ss))] fun v2 => ∃ (b :
  Bool), v2 = Zb b /\
 let V2 := K7 x11 (i64.wrap (x14 + 1)) n_0 s_0; if b = true then PCall qa 77 [PV.sl n_0 false s_0, PV.sl n6 f5 es3] fun v3 => ∃ b1, v3 = Zb b1 /\ true = true /\ if (!b1) = true then (aR [[PV.sl n6 f5 es3]] 1 /\
  (s_0.length + 1) * 24 <= 140737488355328) /\ K7 x11 (i64.wrap (x14 + 1)) (n_0 && false) (s_0 ++ [[PV.sl n6 f5 es3]]) else V2 else V2 else PCall qa 28 [PV.sl n f es, PV.sl n_0 false s_0] fun v1 => ∃ n5, ∃ (f4 :
  Bool), ∃ es2, v1 = PV.sl n5 f4 es2 /\ R (PV.tup [Z6 x11, PV.sl n5 f4 es2, PV.sl n_0 false s_0]); if decide ((↑es1.length : Int) > 0) = true then aH es1 (i64.wrap ((↑es1.length : Int) - 1)) 2 /\ ((0 : Int) <= 1 /\ (1 : Int)
  < (↑2 : Int)) /\ ∃ n4, (qo 1 (es1.getD (i64.wrap ((↑es1.length : Int) - 1)).toNat [])).head? = some (Z6 n4) /\ if (n4 == k) = true then aH es1 (i64.wrap ((↑es1.length : Int) - 1)) 2 /\ ((0 : Int) <= 0 /\ (0 :
  Int) < (↑2 : Int)) /\ ∃ n5, (qo 0 (es1.getD (i64.wrap ((↑es1.length : Int) - 1)).toNat [])).head? = some (Z6 n5) /\ (aD (sL n f es n2 f2 ss k n3 f3 s3 n5 (0 : Int) true []) /\ J n5 (0 : Int) true []) /\ ∀ (x11
  x14 : Int) (n_0 : Bool) (s_0 : LL), J x11 x14 n_0 s_0 ->
 let K7 := fun (y0_ y1_ : Int) (y2_ : Bool) (y3_ : LL) => aD (sL n f es n2 f2 ss k n3 f3 s3 y0_ y1_ y2_ y3_) /\ J y0_ y1_ y2_ y3_ /\ μ y0_ y1_ y2_ y3_ < μ x11 x14 n_0 s_0; if decide (x14 < (↑s3.length : Int)) = true then aH
  s3 x14 1 /\ ∃ n6 f4 es2, (s3.getD x14.toNat []).head? = some (PV.sl n6 f4 es2) /\ PCall qa 64 [PV.sl n f es, PV.sl n6 f4 es2] fun v1 => ∃ n7 f5 es3, v1 = PV.sl n7
  f5 es3 /\ (cZ ss.length (some x11) (some k) none /\ aR ss 1) /\ PCall qa 29 [PV.sl n f es, PV.sl n7 f5 es3, PV.sl n2 (f2 && decide (k = (↑ss.length : Int))) (qo x11.toNat (qv k.toNat ss))] fun v2 => ∃ (b :
  Bool), v2 = Zb b /\
 let V3 := K7 x11 (i64.wrap (x14 + 1)) n_0 s_0; if b = true then PCall qa 77 [PV.sl n_0 false s_0, PV.sl n7 f5 es3] fun v3 => ∃ b1, v3 = Zb b1 /\ true = true /\ if (!b1) = true then (aR [[PV.sl n7 f5 es3]] 1 /\
  (s_0.length + 1) * 24 <= 140737488355328) /\ K7 x11 (i64.wrap (x14 + 1)) (n_0 && false) (s_0 ++ [[PV.sl n7 f5 es3]]) else V3 else V3 else PCall qa 28 [PV.sl n f es, PV.sl n_0 false s_0] fun v1 => ∃ n6, ∃ (f4 :
  Bool), ∃ es2, v1 = PV.sl n6 f4 es2 /\ R (PV.tup [Z6 x11, PV.sl n6 f4 es2, PV.sl n_0 false s_0]) else V1 else V1
theorem z1v {R : PV -> Prop} (h : zox n f es n2 f2 ss k n3 f3 s3 J μ R) : PCall qa 32 [.sl n f es, .sl n2 f2 ss, .int .i64 k, .sl n3 f3 s3] R :=
 PCall.wz Tryz.func32 aM [0, 1, 2, 3, 8, 9, 10, 11, 12, 13, 14, 15, 35, 46, 67] (bU 7 (aZ hE (sL n f es n2 f2 ss k n3 f3 s3) J μ (fun e h => (gI e 11, gI e 14, oN h 0, oS h 0)) [(13, 22, 1)] [0, 1, 2, 3, 11, 13, 14] [])) h
end
def zeh (n f : Bool) (es : LL) (n2 f2 : Bool) (ss : LL) (x5 : Int) : Env × Hp := ([(0, LV.pv (PV.sl n f es)), (1, LV.pv (PV.sl n2 f2 ss)), (5, Y6 x5)], [])
section
variable (n f : Bool) (es : LL) (n2 f2 : Bool) (ss : LL) (J : Int -> Prop) (μ : Int -> Nat)
def zoy (R : PV -> Prop) : Prop :=
 if ((↑es.length : Int) != (↑ss.length : Int)) = true then R (Zb false) else (aD (zeh n f es n2 f2 ss (0 : Int)) /\ J (0 : Int)) /\ ∀ (x5 : Int), J x5 -> if decide (x5 < (↑es.length : Int)) = true then aH es x5 1 /\ ∃ n1 f1 es1, (es.getD x5.toNat []).head? = some (PV.sl n1 f1 es1) /\ aH ss x5 1 /\ ∃ n3 f3 es2, (ss.getD x5.toNat []).head? = some (PV.sl n3 f3 es2) /\ PCall qa 22 [PV.sl n1 f1 es1, PV.sl n3 f3 es2] fun v => ∃ b, v = Zb b /\ if (!b) = true then R (Zb false) else aD (zeh n f es n2 f2 ss (i64.wrap (x5 + 1))) /\ J (i64.wrap (x5 + 1)) /\ μ (i64.wrap (x5 + 1)) < μ x5 else R (Zb true)
theorem z1w {R : PV -> Prop} (h : zoy n f es n2 f2 ss J μ R) : PCall qa 23 [.sl n f es, .sl n2 f2 ss] R :=
 PCall.wz Tryz.func23 aM [0, 1, 4, 5, 10, 14, 26] (bU 4 (aZ g9 (zeh n f es n2 f2 ss) J μ (fun e h => (((gI e 5), ()))) [] [0, 1, 5] [])) h
end
end Go.Eng
set_option linter.unusedSimpArgs false
namespace Go.Eng
open Go Go.Proofs Go.Eng.Rows Go.Eng.Trie Go.Eng.Srt
theorem z1x (n f n2 f2 : Bool) (A B : TxQ) (hA : ∀ q ∈ A, q.2.2.length < 1000000000000) (hl : A.length < 1000000000000) :
 PCall qa 23 [.sl n f (A.map slE), .sl n2 f2 (B.map slE)] fun x => x = .bool (decide (aI A = aI B)) := by
 refine z1w _ _ _ _ _ _ (fun i => (0 <= i /\ i <= A.length) /\ (aI A).take i.toNat = (aI B).take i.toNat) (fun i => A.length - i.toNat) ?_;unfold zoy;have ha : ((A.map slE).length : Int) = A.length := by rw [qb]
 have hb : ((B.map slE).length : Int) = B.length := by rw [qb]
 rw [ha, hb];refine aC (fun hc => ?_) (fun hc => ?_)
 ·simp only [bne_iff_ne, ne_eq] at hc;have : aI A ≠ aI B := fun e => hc (by rw [<- bG, <- bG, e]);simp [this]
 ·simp only [bne_iff_ne, ne_eq, qi] at hc;refine ⟨⟨rfl, ⟨Int.le_refl _, by omega⟩, rfl⟩, ?_⟩;rintro i ⟨⟨i0, i1⟩, he⟩;refine aC (fun h => ?_) (fun h => ?_)
  ·simp only [aB] at h;have hi : i.toNat < A.length := by omega
   have hj : i.toNat < B.length := by omega
   obtain ⟨g1, g2⟩ := sK i0 hi;obtain ⟨k1, k2⟩ := sK i0 hj;refine ⟨g1, _, _, _, by rw [g2]; rfl, k1, _, _, _, by rw [k2]; rfl, ?_⟩;refine (nW _ _ _ _ _ _ (hA _ (qe hi))).mono ?_;rintro _ rfl;refine ⟨_, rfl, aC (fun hx => ?_) (fun hx => ?_)⟩
   ·simp only [qf, bS] at hx;simp [zom hi hj hx]
   ·simp only [qf, bS, qi] at hx;rw [aG (by omega) (by omega)];exact ⟨rfl, ⟨⟨by omega, by omega⟩, by rw [show (i + 1).toNat = i.toNat + 1 by omega]; exact wG hi hj he hx⟩, by dsimp only; omega⟩
  ·simp only [aB] at h;rw [qd (by rw [bG]; omega), qd (by rw [bG]; omega)] at he;simp [he]
theorem z1y (n f n2 f2 : Bool) (Q : TxQ) (s : List Int) (hQ : ∀ q ∈ Q, q.2.2.length < 1000000000000) (hl : Q.length < 1000000000) :
 PCall qa 77 [.sl n f (Q.map slE), .sl n2 f2 (aA s)] fun x => x = .bool (decide (s ∈ aI Q)) := by
 refine z1u _ _ _ _ _ _ (fun x => ∃ i : Nat, x = i /\ i <= Q.length /\ s ∉ (aI Q).take i) (fun x => Q.length - x.toNat) ?_;unfold zow;rw [show ((Q.map slE).length : Int) = Q.length by rw [qb]];refine ⟨⟨rfl, 0, rfl, by omega, by simp⟩, ?_⟩;rintro _ ⟨i, rfl, i1, i2⟩;rw [qc, lU (by omega)];refine aC (fun h => ?_) (fun h => ?_)
 ·simp only [aB] at h;have hi : i < Q.length := by omega
  obtain ⟨g1, g2⟩ := iK hi;refine ⟨g1, _, _, _, by rw [g2]; rfl, (nW _ _ _ _ _ _ (hQ _ (qe hi))).mono ?_⟩;rintro _ rfl;refine ⟨_, rfl, aC (fun h2 => ?_) (fun h2 => ?_)⟩
  ·simp only [aB] at h2;rw [decide_eq_true];exact List.mem_map.2 ⟨_, qe hi, h2⟩
  ·simp only [aB] at h2;refine ⟨rfl, ⟨i + 1, rfl, by omega, ?_⟩, by dsimp only; omega⟩;rw [cJ (by rw [bG]; exact hi)];intro hx;rcases List.mem_append.1 hx with hx | hx
   ·exact i2 hx
   ·rw [List.mem_singleton] at hx;exact h2 (by rw [hx]; simp [aI])
 ·simp only [aB] at h;rw [qd (by rw [bG]; omega)] at i2;rw [decide_eq_false i2]
structure sM (rows : List Row) : Prop extends tbx : lT rows where
 z : ∀ (d : List Int) a, (bN rows d).s = some a -> aF rows 1 a = 0
 l : rows.length < 1000000
theorem z1z {A B : List (List Int)} {i : Nat} (hA : i < A.length) (hB : i < B.length) (h : A.take i <+: B) (e : B.getD i [] = A.getD i []) : A.take (i + 1) <+: B := by
 rw [List.prefix_iff_eq_take, qh, Nat.min_eq_left (by omega)] at h ⊢;rw [cJ hA, cJ hB, h];congr 2;rw [zm1 [] hA, zm1 [] hB] at e;exact e.symm
section
variable {rows : List Row}
theorem wJ (ht : sM rows) (n f n2 f2 : Bool) (L : List Int) (hr : R32 L) (hL : L.length < 100000) :
 PCall qa 72 [.sl n f (bA rows), .sl n2 f2 (aA L)] fun x => ∃ (n f : Bool) (Q : TxQ), x = .sl n f (Q.map slE) /\ aI Q = cC rows L := by
 have hnl := mQ ht.k L;refine z1r _ _ _ _ _ _ ?_; unfold zot;refine (zoc ht.p ht.o ht.k ht.z n f n2 f2 ht.l L hr (by omega)).mono ?_;rintro _ ⟨n1, f1, rfl⟩;refine ⟨_, _, _, rfl, (zy9 ht.s n f n1 f1 ht.l (bW rows L) (sA ht.p ht.o ht.k hr) (by omega) (by omega)).mono ?_⟩;rintro _ ⟨n2, f2, Q, rfl, hQ⟩;exact ⟨_, _, _, rfl, _, _, Q, rfl, hQ⟩
theorem wK (ht : sM rows) (n f n2 f2 n3 f3 : Bool) (a b : List Int) (ra : R32 a) (rb : R32 b) (la : a.length < 100000) (lb : b.length < 100000) :
 PCall qa 29 [.sl n f (bA rows), .sl n2 f2 (aA a), .sl n3 f3 (aA b)] fun x => x = .bool (d0 rows a b) := by
 have ha := pR ht.k a;have hb := pR ht.k b;have hm := fun c (h : c ∈ cC rows a) => zd6 ht.k h;refine z1s _ _ _ _ _ _ _ _ _ (fun _ _ s7 _ _ s8 x => ∃ (i : Nat) (A B : TxQ), x = i /\ s7 = A.map slE /\ aI A = cC rows a /\ s8 = B.map slE /\ aI B = cC rows b /\ B.length <= A.length /\ i <= B.length /\ (aI A).take i = (aI B).take i) (fun _ _ _ _ _ s8 x => s8.length - x.toNat) ?_;unfold zou;refine (wJ ht n f n2 f2 a ra la).mono ?_;rintro _ ⟨n4, f4, A, rfl, hA⟩;refine ⟨_, _, _, rfl, (wJ ht n f n3 f3 b rb lb).mono ?_⟩;rintro _ ⟨n5, f5, B, rfl, hB⟩;refine ⟨_, _, _, rfl, ?_⟩;have hAl : A.length = (cC rows a).length := by rw [<- hA, bG]
 have hBl : B.length = (cC rows b).length := by rw [<- hB, bG]
 refine aC (fun h => ?_) (fun h => ?_)
 ·simp only [qb, aB, gt_iff_lt] at h;unfold d0;rw [decide_eq_false];intro e;have := congrArg qm e;rw [qh] at this; omega
 ·simp only [qb, aB, gt_iff_lt] at h;refine ⟨⟨rfl, 0, A, B, rfl, rfl, hA, rfl, hB, by omega, by omega, rfl⟩, ?_⟩;clear hA hB hAl hBl h;rintro n7 f7 _ n8 f8 _ _ ⟨i, A, B, rfl, rfl, hA, rfl, hB, h, i1, i2⟩;have hAl : A.length = (cC rows a).length := by rw [<- hA, bG]
  have hBl : B.length = (cC rows b).length := by rw [<- hB, bG]
  have hAm := zoo hA hm;rw [qc, lU (by omega), show ((B.map slE).length : Int) = B.length by rw [qb]];refine aC (fun hc => ?_) (fun hc => ?_)
  ·simp only [aB] at hc;have hi : i < A.length := by omega
   have hj : i < B.length := by omega
   obtain ⟨g1, g2⟩ := iK hi;obtain ⟨k1, k2⟩ := iK hj;refine ⟨g1, _, _, _, by rw [g2]; rfl, k1, _, _, _, by rw [k2]; rfl, ?_⟩;refine (nW _ _ _ _ _ _ (by have := hAm _ (qe hi); omega)).mono ?_;rintro _ rfl;refine ⟨_, rfl, aC (fun hx => ?_) (fun hx => ?_)⟩
   ·simp only [qf, bS] at hx;unfold d0;rw [decide_eq_false];intro e;rw [<- hA, <- hB, bG] at e
    have e2 : (aI B).getD i [] = (aI A).getD i [] := by
     rw [<- e, qn, List.getElem?_take, if_pos hj, <- qn]
    rw [jN hi, jN hj] at e2;exact hx e2.symm
   ·simp only [qf, bS, qi] at hx;exact ⟨rfl, ⟨i + 1, A, B, rfl, rfl, hA, rfl, hB, h, by omega, wG hi hj i2 hx⟩, by dsimp only; rw [qb]; omega⟩
  ·simp only [aB] at hc;have hiB : i = B.length := by omega
   rw [hiB, qd (l := aI B) (by rw [bG]; omega), hA, hB, hBl] at i2;unfold d0;rw [decide_eq_true i2]
theorem zoz (ht : sM rows) (n f n2 f2 : Bool) (W : TxQ) {m : Nat} (hW : TsOK m (aI W)) (hm : m < 100000) (hl : W.length < 1000000) :
 PCall qa 28 [.sl n f (bA rows), .sl n2 f2 (W.map slE)] fun x => ∃ n f, x = .sl n f (aA (bL rows (aI W)).flatten) := by
 refine z1t _ _ _ _ _ _
  (fun _ _ s5 x _ s0 => ∃ (i : Nat) (A : TxQ), x = i /\ s5 = A.map slE /\ aI A = cC rows ((aI W).getD 0 []) /\ i <= A.length /\ s0 = aA ((aI A).take i).flatten /\ ∀ s ∈ aI W, (aI A).take i <+: cC rows s) (fun _ _ s5 x _ _ => s5.length - x.toNat)
  (fun _ _ _ x0 _ _ _ _ _ s5 x y _ s0 => ∃ (i : Nat) (A : TxQ) (j : Nat), x = x0 /\ x = i /\ y = j /\ 1 <= j /\ j <= W.length /\ s5 = A.map slE /\ aI A = cC rows ((aI W).getD 0 []) /\ i < A.length /\ s0 = aA ((aI A).take i).flatten /\ (∀ s ∈ aI W, (aI A).take i <+: cC rows s) /\ ∀ s ∈ (aI W).take j, (aI A).take (i + 1) <+: cC rows s)
  (fun _ _ _ _ y _ _ => W.length - y.toNat) ?_
 unfold zov;rw [show ((W.map slE).length : Int) = W.length by rw [qb]];refine aC (fun h => ?_) (fun h => ?_)
 ·simp only [beq_iff_eq] at h;have : W = [] := qg (by omega);subst this;exact ⟨_, _, rfl⟩
 ·simp only [beq_iff_eq] at h;have h0 : 0 < W.length := by omega
  obtain ⟨g1, g2⟩ := iK h0;obtain ⟨wr, wl⟩ := hW.get h0;have hw0 : (aI W).getD 0 [] = W[0].2.2 := jN h0
  obtain ⟨t, T, hT⟩ : ∃ t T, aI W = t :: T := by
   cases hx : aI W with
   | nil => have := congrArg qm hx; rw [bG, qt] at this; omega
   | cons t T => exact ⟨t, T, rfl⟩
  have htw : (aI W).getD 0 [] = t := by rw [hT]; rfl
  have hcl : (cC rows ((aI W).getD 0 [])).length <= 768 * m := by
   rw [hw0]; have := pR ht.k W[0].2.2; omega
  have hfl : (cC rows ((aI W).getD 0 [])).flatten.length <= 768 * m := by
   rw [hw0, wH]; have := mQ ht.k W[0].2.2; omega
  refine ⟨g1, W[0].1, W[0].2.1, aA W[0].2.2, by rw [g2]; rfl, (wJ ht n f _ _ _ wr (by omega)).mono ?_⟩;rintro _ ⟨n3, f3, A, rfl, hA⟩;refine ⟨_, _, _, rfl, ⟨rfl, 0, A, rfl, rfl, by rw [hw0]; exact hA, by omega, rfl, fun s _ => by rw [qu]; exact List.nil_prefix⟩, ?_⟩;clear hA;rintro n5 f5 _ _ n0 _ ⟨i, A, rfl, rfl, hA, i1, rfl, i2⟩;have hAl : A.length = (cC rows ((aI W).getD 0 [])).length := by rw [<- hA, bG]
  rw [show ((A.map slE).length : Int) = A.length by rw [qb]];refine aC (fun hc => ?_) (fun hc => ?_)
  ·simp only [aB] at hc;have hi : i < A.length := by omega
   refine ⟨⟨rfl, i, A, 1, rfl, rfl, rfl, by omega, by omega, rfl, hA, hi, rfl, i2, fun s hs => ?_⟩, ?_⟩
   ·rw [hT] at hs;have : s = t := by simpa using hs
    rw [this, <- htw, <- hA]; exact List.take_prefix _ _
   rintro n51 f51 _ _ _ n01 _ ⟨i', A', j, hxx, rfl, rfl, j0, j1, rfl, hA', hi', rfl, k2, k3⟩;have hii : i' = i := by omega
   subst hii;have hAA : aI A' = aI A := hA'.trans hA.symm;have hAl' : A'.length = A.length := by rw [<- bG, hAA, bG]
   rw [qc, qc, lU (by omega), lU (by omega)]
   have hmem : ∀ {c : List Int}, c ∈ aI A' -> c.length <= 768 * m := fun {c} hc => by
    have := zc7 hc;rw [hA'] at this; omega
   refine aC (fun hx => ?_) (fun hx => ?_)
   ·simp only [aB] at hx;have hj : j < W.length := by omega
    obtain ⟨b1, b2⟩ := iK hj;obtain ⟨vr, vl⟩ := hW.get hj
    have hsT : W[j].2.2 ∈ T := by
     have h1 : (aI W)[j]'(by rw [bG]; exact hj) = W[j].2.2 := by simp [aI]
     obtain ⟨j', rfl⟩ : ∃ j', j = j' + 1 := ⟨j - 1, by omega⟩;simp only [hT, List.getElem_cons_succ] at h1;rw [<- h1]; exact qe _
    have stop : ((cC rows W[j].2.2).length <= i' ∨ (cC rows W[j].2.2).getD i' [] ≠ (cC rows t).getD i' []) -> ∃ (n f : Bool), PV.sl n01 false (aA ((aI A').take i').flatten) = .sl n f (aA (bL rows (aI W)).flatten) := fun hx => ⟨_, _, by
     rw [hT, zza (n := i') (fun s hs => by rw [<- htw, <- hA']; exact k2 s (by rw [hT]; exact ql _ hs)) hsT (by rw [<- htw, <- hA', bG]; exact hi') hx, <- htw, <- hA']⟩
    refine ⟨b1, W[j].1, W[j].2.1, aA W[j].2.2, by rw [b2]; rfl, (wJ ht n f _ _ _ vr (by omega)).mono ?_⟩;rintro _ ⟨n6, f6, B, rfl, hB⟩;have hBl : B.length = (cC rows W[j].2.2).length := by rw [<- hB, bG]
    refine ⟨_, _, _, rfl, ?_⟩;rw [show ((B.map slE).length : Int) = B.length by rw [qb]];refine aC (fun hy => ?_) (fun hy => ?_)
    ·simp only [aB, ge_iff_le] at hy;exact stop (.inl (by omega))
    ·simp only [aB, ge_iff_le] at hy;have hiB : i' < B.length := by omega
     obtain ⟨c1, c2⟩ := iK hiB;obtain ⟨d1, d2⟩ := iK hi';have hlen := zd6 ht.k (rows := rows) (L := W[j].2.2) (c := B[i'].2.2) (by rw [<- hB]; exact List.mem_map.2 ⟨_, qe hiB, rfl⟩);refine ⟨c1, _, _, _, by rw [c2]; rfl, d1, _, _, _, by rw [d2]; rfl, (nW _ _ _ _ _ _ (by omega)).mono ?_⟩;rintro _ rfl;have g3 : (cC rows W[j].2.2).getD i' [] = B[i'].2.2 := by rw [<- hB, jN hiB]
     have g4 : (cC rows t).getD i' [] = A'[i'].2.2 := by rw [<- htw, <- hA', jN hi']
     refine ⟨_, rfl, aC (fun hz => ?_) (fun hz => ?_)⟩
     ·simp only [qf, bS] at hz;exact stop (.inr (by rw [g3, g4]; exact hz))
     ·simp only [qf, bS, qi] at hz;refine ⟨rfl, ⟨i', A', j + 1, hxx, rfl, rfl, by omega, by omega, rfl, hA', hi', rfl, k2, fun s hs => ?_⟩, by dsimp only; omega⟩;rw [cJ (by rw [bG]; exact hj)] at hs;rcases List.mem_append.1 hs with hs | hs
      ·exact k3 s hs
      ·have hs2 : s = W[j].2.2 := by rw [List.mem_singleton.1 hs]; simp [aI]
       rw [hs2];exact z1z (by rw [bG]; exact hi') (by omega) (k2 _ (by rw [hT]; exact ql _ hsT)) (by rw [g3, jN hi', hz])
   ·simp only [aB] at hx;obtain ⟨d1, d2⟩ := iK hi'
    have hpre : ((aI A').take i').flatten.length <= 768 * m := by
     have h1 : (aI A').flatten = ((aI A').take i').flatten ++ ((aI A').drop i').flatten := by rw [<- qj, List.take_append_drop]
     have h2 := congrArg qm h1;rw [qr, hA'] at h2; rw [hA'] ; omega
    refine ⟨d1, A'[i'].1, A'[i'].2.1, aA A'[i'].2.2, by rw [d2]; rfl, ⟨dJ _, ?_⟩, rfl, ⟨i' + 1, A', rfl, rfl, hA', by omega, ?_, fun s hs => k3 s (by rw [qd (by rw [bG]; omega)]; exact hs)⟩, ?_⟩
    ·have := hmem (List.mem_map.2 ⟨_, qe hi', rfl⟩);rw [bF, bF]; omega
    ·rw [cJ (by rw [bG]; exact hi'), qj, iI];simp [aI]
    ·dsimp only; rw [qb, qb, hAl']; omega
  ·simp only [aB] at hc;have hiA : i = A.length := by omega
   rw [hiA, qd (by rw [bG]; omega)] at i2 ⊢;rw [hA, htw] at i2 ⊢;exact ⟨_, _, by rw [hT, zzb fun s hs => i2 s (by rw [hT]; exact ql _ hs)]⟩
theorem z10 (ht : sM rows) (n f n2 f2 n3 f3 : Bool) (L : List Int) (hr : R32 L) (hL : L.length < 10000) (k : Int) (k0 : 0 <= k) (k1 : k <= L.length) (W : TxQ) {m : Nat} (hm : m < 100) (hW : TsOK m (aI W)) (hWl : W.length < 10000) :
 PCall qa 32 [.sl n f (bA rows), .sl n2 f2 (aA L), .int .i64 k, .sl n3 f3 (W.map slE)] fun x => ∃ n f n3 Q, x = .tup [.int .i64 (dL rows L k.toNat : Nat), .sl n f (aA (bL rows (fR rows L k.toNat (aI W))).flatten), .sl n3 false (Q.map slE)] /\ aI Q = fR rows L k.toNat (aI W) := by
 have hfl := zdy (rows := rows) L k.toNat;obtain ⟨hpr, hpl⟩ := zd9 (rows := rows) hr k.toNat
 refine z1v _ _ _ _ _ _ _ _ _ _
  (fun fr x _ s3 => fr = (dL rows L k.toNat : Nat) /\ ∃ (i : Nat) (Q : TxQ), x = i /\ i <= W.length /\ s3 = Q.map slE /\ aI Q = pickW rows (eK rows L k.toNat) [] ((aI W).take i))
  (fun _ x _ _ => W.length - x.toNat) ?_
 unfold zox;rw [bF, show ((W.map slE).length : Int) = W.length by rw [qb]];refine ⟨⟨wD (by omega) (by omega), dJ _⟩, ?_⟩;rw [znz];refine (zz9 ht.s n f _ _ ht.l (L.take k.toNat) (hr.take _) (by rw [qh]; omega)).mono ?_;rintro _ ⟨n1, rfl, _⟩;refine ⟨_, _, _, rfl, ?_⟩;generalize hws : dG rows (L.take k.toNat) 0 = ws at *;have hlen : ((ws.map eJ).length : Int) = ws.length := by rw [qb]
 rw [hlen]
 have bare : ws.getLast? = none ∨ (∃ q, ws.getLast? = some q /\ (q.2 : Int) ≠ k) -> dL rows L k.toNat = k.toNat := fun hx => by
  unfold dL;rw [hws];rcases hx with hx | ⟨q, hx, hq⟩
  ·rw [hx]
  ·rw [hx]; dsimp only; rw [if_neg (by omega)]
 simp only [zea]
 have hlast : ∀ hp : 0 < ws.length, ∃ q, ws.getLast? = some q /\ i64.wrap ((ws.length : Int) - 1) = ((ws.length - 1 : Nat) : Int) /\ (ws.map eJ).getD (ws.length - 1) [] = eJ q /\ aH (ws.map eJ) ((ws.length - 1 : Nat) : Int) 2 := fun hp => by
  refine ⟨ws[ws.length - 1], ?_, ?_, cD (by omega), bQ sG (by omega) (by omega)⟩
  ·rw [List.getLast?_eq_getElem?, List.getElem?_eq_getElem (by omega)]
  ·have : ws.length <= L.length := by
    have h1 := wF (rows := rows) (L := L.take k.toNat) _ 0 (Nat.le_refl _);rw [hws, qh] at h1; omega
   rw [aG (by omega) (by omega)]; omega
 have J0 : ∀ {fr : Int}, fr = (dL rows L k.toNat : Nat) -> (fr = (dL rows L k.toNat : Nat) /\ ∃ (i : Nat) (Q : TxQ), (0 : Int) = i /\ i <= W.length /\ ([] : List (List PV)) = Q.map slE /\ aI Q = pickW rows (eK rows L k.toNat) [] ((aI W).take i)) := fun e =>
  ⟨e, 0, [], rfl, by omega, rfl, by rw [qu, pickW]; rfl⟩
 refine aC (fun hp => ?_) (fun hp => ?_)
 rotate_left
 simp only [aB, gt_iff_lt] at hp;have hw0 : ws = [] := qg (by omega);have hfr : k = (dL rows L k.toNat : Nat) := by rw [bare (.inl (by rw [hw0]; rfl))]; omega
 refine ⟨⟨rfl, J0 hfr⟩, ?_⟩
 rotate_left
 simp only [aB, gt_iff_lt] at hp;obtain ⟨q, q1, q2, q3, q4⟩ := hlast (by omega);rw [q2, qc, q3];refine ⟨q4, ⟨by decide, by decide⟩, _, rfl, aC (fun he => ?_) (fun he => ?_)⟩;simp only [beq_iff_eq] at he
 have hfr : ((q.1 : Nat) : Int) = (dL rows L k.toNat : Nat) := by
  unfold dL;rw [hws, q1]; dsimp only; rw [if_pos (by omega)]
 refine ⟨q4, ⟨by decide, by decide⟩, _, rfl, ⟨rfl, J0 hfr⟩, ?_⟩
 rotate_left
 simp only [beq_iff_eq] at he;have hfr : k = (dL rows L k.toNat : Nat) := by rw [bare (.inr ⟨q, q1, he⟩)]; omega
 refine ⟨⟨rfl, J0 hfr⟩, ?_⟩
 all_goals
  rintro _ _ n0 _ ⟨rfl, i, Q, rfl, i1, rfl, hQ⟩;rw [qc, qc, lU (by omega)];have hpk := zd8 ht.tbx (T := (aI W).take i) (m := m) (fun t h => hW t (qq h)) (eK rows L k.toNat);have hpn := sH (rows := rows) (eK rows L k.toNat) ((aI W).take i) [];rw [<- hQ] at hpk hpn;rw [bG, qh, bG, qt] at hpn;refine aC (fun hc => ?_) (fun hc => ?_)
  ·simp only [aB] at hc;have hi : i < W.length := by omega
   have hi' : i < (aI W).length := by rw [bG]; exact hi
   obtain ⟨g1, g2⟩ := iK hi;obtain ⟨wr, wl⟩ := hW.get hi;have hg : (aI W)[i] = W[i].2.2 := by simp [aI]
   have hs := wE (rows := rows) (eK rows L k.toNat) ((aI W).take i) [] (aI W)[i];rw [<- cJ hi', <- hQ, hg] at hs;have hnl := mQ ht.k W[i].2.2;refine ⟨g1, W[i].1, W[i].2.1, aA W[i].2.2, by rw [g2]; rfl, (zoc ht.p ht.o ht.k ht.z n f _ _ ht.l _ wr (by omega)).mono ?_⟩;rintro _ ⟨n5, f5, rfl⟩;refine ⟨_, _, _, rfl, ⟨zeb (by omega) (by omega) (by omega), dJ _⟩, (wK ht n f _ _ _ _ _ _ (sA ht.p ht.o ht.k wr) hpr (by omega) (by omega)).mono ?_⟩;rintro _ rfl;refine ⟨_, rfl, aC (fun hb => ?_) (fun hb => ?_)⟩
   ·rw [zdw ht.c] at hb;refine (z1y _ _ _ _ Q _ (fun q hq => by have := (hpk q.2.2 (List.mem_map.2 ⟨q, hq, rfl⟩)).2; omega) (by omega)).mono ?_;rintro _ rfl;refine ⟨_, rfl, trivial, aC (fun hx => ?_) (fun hx => ?_)⟩
    ·simp only [qf, bS] at hx;exact ⟨⟨zoq (n5, f5, bW rows W[i].2.2), by rw [qb]; omega⟩, rfl, ⟨rfl, i + 1, Q ++ [(n5, f5, bW rows W[i].2.2)], rfl, by omega, zor Q (n5, f5, bW rows W[i].2.2), by rw [hs, if_pos ⟨hb, hx⟩, zos]⟩, by first | omega | (dsimp only; omega)⟩
    ·simp only [qf, bS, qi] at hx;exact ⟨rfl, ⟨rfl, i + 1, Q, rfl, by omega, rfl, by rw [hs, if_neg fun h => h.2 hx]⟩, by first | omega | (dsimp only; omega)⟩
   ·rw [zdw ht.c] at hb;exact ⟨rfl, ⟨rfl, i + 1, Q, rfl, by omega, rfl, by rw [hs, if_neg fun h => hb h.1]⟩, by first | omega | (dsimp only; omega)⟩
  ·simp only [aB] at hc;rw [qd (by rw [bG]; omega)] at hQ;have hQ' : aI Q = fR rows L k.toNat (aI W) := hQ;rw [<- hQ'];refine (zoz ht n f _ _ Q hpk (by omega) (by omega)).mono ?_;rintro _ ⟨n6, f6, rfl⟩;exact ⟨_, _, _, rfl, _, _, _, Q, rfl, rfl⟩
end
theorem mU : lT tab := ⟨zyb, zce, vL, vM, pL, zzo⟩
theorem sN : sM tab := ⟨mU, z1a, zll⟩
def pS : List Int := [103, 111, 32, 102, 111]
def goW : TxQ := [(false, true, [102, 111, 111]), (false, true, [102, 111, 98]), (false, true, [98, 97, 114])]
theorem z11 : fR tab pS 5 (aI goW) = [[102, 111, 111], [102, 111, 98]] := by kernel_rfl
theorem z12 : dL tab pS 5 = 3 := by kernel_rfl
theorem z13 : (bL tab [[102, 111, 111], [102, 111, 98]]).flatten = [102, 111] := by kernel_rfl
theorem awake44 : PCall qa 30 [] fun v => v = .bool true := by
 refine z0j ?_; unfold zn0;refine p42.mono ?_;rintro _ ⟨n, f, rfl⟩;refine ⟨_, _, _, rfl, ?_⟩;refine (vP n f).mono fun t ht => ?_
 refine (zec mU ht false true false true pS (fun x hx => by simp [pS] at hx; omega) (by simp [pS]) 5 goW (m := 3) (by omega) (fun t h => by
  simp [goW, aI] at h;rcases h with rfl | rfl | rfl
  ·exact ⟨fun x hx => by simp at hx; omega, by simp⟩
  ·exact ⟨fun x hx => by simp at hx; omega, by simp⟩
  ·exact ⟨fun x hx => by simp at hx; omega, by simp⟩) (by simp [goW])).mono ?_
 intro x hx;rw [show (5 : Int).toNat = 5 from rfl, z11, z12, z13, if_pos ⟨⟨by omega, by simp [pS]⟩, by simp⟩] at hx;obtain ⟨n1, f1, n3, Q, rfl, hQ⟩ := hx;have hl : Q.length = 2 := by rw [<- bG, hQ]; rfl
 refine ⟨_, rfl, rfl, _, rfl, _, rfl, rfl, _, rfl, _, rfl, _, _, _, rfl, _, _, _, rfl, _, rfl, _, rfl, bB rfl (bB rfl (bB rfl ?_))⟩;refine (nW n1 f1 false true [102, 111] [102, 111] (by simp)).mono ?_;rintro _ rfl;refine ⟨_, rfl, bB rfl ?_⟩;rw [qb, hl]; rfl
theorem wLL : Tryz.prog.underlying 47 = some (.slice 22) := by kernel_rfl
theorem zei {v : PV} (h : mC qa 8 47 v) : ∃ (nl : Bool) (ls : TxQ), v = .sl nl false (ls.map slE) /\ ∀ q ∈ ls, R32 q.2.2 := by
 obtain ⟨nl, es, e, _, _, h3⟩ := zha wLL (y7 (by kernel_rfl) h);cases e
 obtain ⟨m, rfl, hm⟩ := y6 (f := slE) (Q := fun q => R32 q.2.2) (l := es) fun x hx => by
  obtain ⟨nl, l, e, _, _, hr⟩ := zhb v22 v21 (h3 x hx);exact ⟨(nl, false, l), e, hr⟩
 exact ⟨nl, m, rfl, hm⟩
theorem zej {Q Q' : TxQ} (hQ : ∀ q ∈ Q, R32 q.2.2) (h : Q'.map (fun q => q.2.2) = (Q.take 8).map (fun q => q.2.2.take 12)) : TsOK 12 (aI Q') /\ Q'.length <= 8 := by
 have hl := congrArg qm h;rw [qb, qb, qh] at hl;refine ⟨fun t ht => ?_, by omega⟩;unfold aI at ht;rw [h] at ht;obtain ⟨q, hq, rfl⟩ := List.mem_map.1 ht;exact ⟨(hQ q (qq hq)).take 12, by rw [qh]; omega⟩
theorem z14 {T : List (List Int)} (hT : TsOK 12 T) : (bL tab T).flatten.length <= 9216 := by have := (wI vM hT).1; omega
theorem zo0 {m : Nat} {T : List (List Int)} (hT : TsOK m T) : R32 (bL tab T).flatten := by
 cases T with
 | nil => intro x hx; simp [bL] at hx
 | cons t T =>
   have h1 : bL tab (t :: T) <+: cC tab t := mT qk;obtain ⟨u, hu⟩ := h1;intro x hx;have h2 : x ∈ (cC tab t).flatten := by rw [<- hu, qj]; exact List.mem_append_left _ hx
   rw [wH] at h2;exact sA zce vL vM (hT t qk).1 x h2
theorem z15 (n f : Bool) (Q : TxQ) (hQ : ∀ q ∈ Q, R32 q.2.2) (n0 f0 : Bool) (a : List Int) (ra : R32 a) (n1 f1 : Bool) (b : List Int) (rb : R32 b) : PCall qa 6 [.sl n f (Q.map slE), .sl n0 f0 (aA a), .sl n1 f1 (aA b)] fun v => v = .bool true := by
 refine z0l _ _ _ _ _ _ _ _ _
  (fun _ _ s0 _ _ s1 _ _ s2 _ _ s7 x8 _ _ s9 x10 => ∃ (i : Nat) (W : TxQ), x10 = i /\ i <= W.length /\ s0 = W.map slE /\ TsOK 12 (aI W) /\ W.length <= 8 /\ s1 = aA (a.take 20) /\ s2 = aA (b.take 20) /\ s7 = bA tab /\ c8 tab x8 /\ s9 = aA (bL tab (aI W)).flatten)
  (fun _ _ s0 _ _ _ _ _ _ _ _ _ _ _ _ _ x10 => s0.length - x10.toNat) ?_
 unfold zn2;refine (zdv n f Q).mono ?_;rintro _ ⟨n2, W, rfl, hW, hWn⟩;clear hWn;obtain ⟨hW1, hW2⟩ := zej hQ hW;refine ⟨_, _, _, rfl, (r7 n0 f0 a 20 (by omega)).mono ?_⟩;rintro _ ⟨n3, f3, rfl⟩;refine ⟨_, _, _, rfl, (r7 n1 f1 b 20 (by omega)).mono ?_⟩;rintro _ ⟨n4, f4, rfl⟩;refine ⟨_, _, _, rfl, p42.mono ?_⟩;rintro _ ⟨n5, f5, rfl⟩;refine ⟨_, _, _, rfl, (vP n5 f5).mono fun t ht => ?_⟩;refine (zop mU ht n2 false W hW1 (by omega) (by omega)).mono ?_;rintro _ ⟨n6, f6, rfl⟩;refine ⟨_, _, _, rfl, ⟨rfl, 0, W, rfl, by omega, rfl, hW1, hW2, rfl, rfl, rfl, ht, rfl⟩, ?_⟩;clear hW hW1 hW2 ht W t;rintro n7 f7 _ n8 f8 _ n9 f9 _ n10 f10 _ t n11 f11 _ _ ⟨i, W, rfl, i1, rfl, hW1, hW2, rfl, rfl, rfl, ht, rfl⟩;have hcl := z14 hW1;have hcr := zo0 hW1;have la := vT a 20;have lb := vT b 20;rw [qc, lU (by omega), show ((W.map slE).length : Int) = W.length by rw [qb]];refine aC (fun hc => ?_) (fun hc => ?_)
 ·simp only [aB] at hc;have hi : i < W.length := by omega
  obtain ⟨g1, g2⟩ := iK hi;obtain ⟨wr, wl⟩ := hW1.get hi;refine ⟨g1, W[i].1, W[i].2.1, aA W[i].2.2, by rw [g2]; rfl, (zd7 mU ht _ _ _ _ _ _ wr hcr (by omega) (by omega)).mono ?_⟩;rintro _ rfl;have hb : d0 tab W[i].2.2 (bL tab (aI W)).flatten = true := zng pL (List.mem_map.2 ⟨_, qe hi, rfl⟩);rw [hb];exact ⟨_, rfl, bK (by simp) ⟨rfl, ⟨i + 1, W, rfl, by omega, rfl, hW1, hW2, rfl, rfl, rfl, ht, rfl⟩, by dsimp only; rw [qb]; omega⟩⟩
 ·refine (zoz sN n10 f10 n7 f7 W hW1 (by omega) (by omega)).mono ?_;rintro _ ⟨n12, f12, rfl⟩;refine ⟨_, _, _, rfl, (nW _ _ _ _ _ _ (by omega)).mono ?_⟩;rintro _ rfl;refine ⟨_, rfl, bB (by simp) ?_⟩;refine (zd7 mU ht _ _ _ _ _ _ (ra.take 20) (rb.take 20) (by omega) (by omega)).mono ?_;rintro _ rfl;refine ⟨_, rfl, (wK sN _ _ _ _ _ _ _ _ (ra.take 20) (rb.take 20) (by omega) (by omega)).mono ?_⟩;rintro _ rfl;refine ⟨_, rfl, bB (by simp) (awake44.mono ?_)⟩;rintro _ rfl;exact ⟨_, rfl, rfl⟩
theorem zo1 {L : List Int} {k : Nat} {T : List (List Int)} (hT : TsOK 12 T) : TsOK 9216 (fR tab L k T) /\ (fR tab L k T).length <= T.length /\ (bL tab (fR tab L k T)).flatten.length <= 9216 := by
 have h1 := zd8 mU hT (eK tab L k);have h2 := sH (rows := tab) (eK tab L k) T [];refine ⟨h1, by simpa [fR] using h2, ?_⟩
 cases hx : fR tab L k T with
 | nil => simp [bL]
 | cons t T' =>
   have hm : t ∈ fR tab L k T := by rw [hx]; exact qk
   have h3 : bL tab (t :: T') <+: cC tab t := mT qk
   have h4 : bW tab t = t := by
    rcases sI _ _ _ _ hm with h | ⟨s, _, rfl, _⟩
    ·cases h
    ·exact zlt pL s
   have h5 := (h1 t hm).2;obtain ⟨u, hu⟩ := h3;have h6 := wH (rows := tab) t;rw [<- hu, qj, h4] at h6;have h7 := congrArg qm h6;rw [qr] at h7; omega
theorem z16 (n f : Bool) (l : List Int) (rl : R32 l) (k : Int) (n0 f0 : Bool) (Q : TxQ) (hQ : ∀ q ∈ Q, R32 q.2.2) : PCall qa 7 [.sl n f (aA l), .int .i64 k, .sl n0 f0 (Q.map slE)] fun v => v = .bool true := by
 refine z0m _ _ _ _ _ _ _ ?_; unfold zn3;refine (r7 n f l 30 (by omega)).mono ?_;rintro _ ⟨n1, f1, rfl⟩;have la := vT l 30;have ra := rl.take 30;generalize l.take 30 = L at *;refine ⟨_, _, _, rfl, (zdv n0 f0 Q).mono ?_⟩;rintro _ ⟨n2, W, rfl, hW, hWn⟩;clear hWn;obtain ⟨hW1, hW2⟩ := zej hQ hW;refine ⟨_, _, _, rfl, p42.mono ?_⟩;rintro _ ⟨n3, f3, rfl⟩;refine ⟨_, _, _, rfl, (vP n3 f3).mono fun t ht => ?_⟩;refine (zec mU ht n1 f1 n2 false L ra (by omega) k W (m := 12) (by omega) hW1 (by omega)).mono fun x hx => ?_;have aw : PCall qa 30 [] fun v5 => ∃ b1, v5 = Zb b1 /\ PV.bool b1 = .bool true := awake44.mono fun x hx => ⟨true, hx, rfl⟩;rw [bF];by_cases hk : 0 <= k /\ k <= L.length
 ·obtain ⟨hl1, hl2, hl3⟩ := zo1 (L := L) (k := k.toNat) hW1;rw [bG] at hl2;have key := z10 sN n3 f3 n1 f1 n2 false L ra (by omega) k hk.1 hk.2 W (m := 12) (by omega) hW1 (by omega);by_cases hw : fR tab L k.toNat (aI W) = []
  ·rw [if_neg fun h => h.2 hw] at hx;subst hx;refine ⟨_, rfl, rfl, _, rfl, _, rfl, rfl, _, rfl, _, rfl, _, _, _, rfl, _, _, _, rfl, _, rfl, _, rfl, bK (by simp only [qp, aB]; omega) ?_⟩;refine key.mono ?_;rintro _ ⟨n4, f4, n5, Q', rfl, hQ'⟩;have hl : Q'.length = 0 := by rw [<- bG, hQ', hw]; rfl
   exact ⟨_, rfl, rfl, _, rfl, _, rfl, _, rfl, _, _, _, rfl, _, rfl, _, _, _, rfl, bB (by rw [qb, hl]; rfl) (bB rfl (bB rfl (bB rfl (bB rfl (bB rfl aw)))))⟩
  ·rw [if_pos ⟨hk, hw⟩] at hx;obtain ⟨n4, f4, n5, Q', rfl, hQ'⟩ := hx;refine ⟨_, rfl, rfl, _, rfl, _, rfl, rfl, _, rfl, _, rfl, _, _, _, rfl, _, _, _, rfl, _, rfl, _, rfl, bK (by simp only [qp, aB]; omega) ?_⟩;refine key.mono ?_;rintro _ ⟨n6, f6, n7, Q2, rfl, hQ2⟩;have hne : Q2.length ≠ 0 := fun e => hw (by rw [<- hQ2]; have := qg e; rw [this]; rfl);refine ⟨_, rfl, rfl, _, rfl, _, rfl, _, rfl, _, _, _, rfl, _, rfl, _, _, _, rfl, bK (by rw [qb]; simp only [beq_iff_eq]; omega) (bB rfl (bB (by simp) (bB (by simp) ?_)))⟩;refine (nW _ _ _ _ _ _ (by omega)).mono ?_;rintro _ rfl;refine ⟨_, rfl, bB (by simp) ?_⟩;refine (z1x _ _ _ _ _ _ (fun q hq => ?_) ?_).mono ?_
   ·have := (hl1 q.2.2 (by rw [<- hQ']; exact List.mem_map.2 ⟨q, hq, rfl⟩)).2; omega
   ·rw [<- bG, hQ']; omega
   rintro _ rfl;refine ⟨_, rfl, bB (by rw [hQ', hQ2]; simp) aw⟩
 ·rw [if_neg fun h => hk h.1] at hx;subst hx;exact ⟨_, rfl, rfl, _, rfl, _, rfl, rfl, _, rfl, _, rfl, _, _, _, rfl, _, _, _, rfl, _, rfl, _, rfl, bB (by simp only [qp, aB]; omega) (bB rfl (bB rfl (bB rfl aw)))⟩
theorem z17 (n f : Bool) (l : List Int) (rl : R32 l) (k : Int) (n0 f0 : Bool) (Q : TxQ) (hQ : ∀ q ∈ Q, R32 q.2.2) : PCall qa 8 [.sl n f (aA l), .int .i64 k, .sl n0 f0 (Q.map slE)] fun v => v = .bool true := by
 refine z0n _ _ _ _ _ _ _
  (fun _ _ s0 _ _ s7 x a b _ _ t _ _ ws => ∃ (i : Nat) (A : TxQ), x = i /\ i <= A.length /\ s0 = aA (l.take 30) /\ s7 = bA tab /\ a = (dL tab (l.take 30) k.toNat : Nat) /\ b = k /\ (0 <= k /\ k <= (l.take 30).length) /\ t = aA (bL tab (aI A)).flatten /\ ws = A.map slE /\ aI A ≠ [] /\ TsOK 9216 (aI A) /\ A.length <= 8 /\ (bL tab (aI A)).flatten.length <= 9216 /\ ∀ t ∈ aI A, d0 tab t (eK tab (l.take 30) k.toNat) = true)
  (fun _ _ _ _ _ _ x _ _ _ _ _ _ _ ws => ws.length - x.toNat) ?_
 unfold zn4;refine (r7 n f l 30 (by omega)).mono ?_;rintro _ ⟨n1, f1, rfl⟩;have la := vT l 30;have ra := rl.take 30;generalize l.take 30 = L at *;refine ⟨_, _, _, rfl, (zdv n0 f0 Q).mono ?_⟩;rintro _ ⟨n2, W, rfl, hW, hWn⟩;clear hWn;obtain ⟨hW1, hW2⟩ := zej hQ hW;refine ⟨_, _, _, rfl, p42.mono ?_⟩;rintro _ ⟨n3, f3, rfl⟩;refine ⟨_, _, _, rfl, (vP n3 f3).mono fun t ht => ?_⟩;refine (zec mU ht n1 f1 n2 false L ra (by omega) k W (m := 12) (by omega) hW1 (by omega)).mono fun x hx => ?_;have aw : PCall qa 30 [] fun v5 => ∃ b1, v5 = Zb b1 /\ PV.bool b1 = .bool true := awake44.mono fun x hx => ⟨true, hx, rfl⟩;by_cases hw : (0 <= k /\ k <= L.length) /\ fR tab L k.toNat (aI W) ≠ []
 ·rw [if_pos hw] at hx;obtain ⟨hk, hw⟩ := hw;obtain ⟨hl1, hl2, hl3⟩ := zo1 (L := L) (k := k.toNat) hW1;rw [bG] at hl2;obtain ⟨n4, f4, n5, A, rfl, hA⟩ := hx;have hAl : A.length <= 8 := by rw [<- bG, hA]; omega
  refine ⟨_, rfl, rfl, _, rfl, _, rfl, rfl, _, rfl, _, rfl, _, _, _, rfl, _, _, _, rfl, _, rfl, _, rfl, bK (by simp) ?_⟩;refine ⟨⟨rfl, 0, A, rfl, by omega, rfl, rfl, rfl, rfl, hk, by rw [hA], rfl, by rw [hA]; exact hw, by rw [hA]; exact hl1, hAl, by rw [hA]; exact hl3, fun t h => z0o pL (by rw [hA] at h; exact h)⟩, ?_⟩;clear hA hAl hl1 hl2 hl3 hw A;rintro n6 f6 _ n7 f7 _ _ _ kb n8 f8 _ n9 f9 _ ⟨i, A, rfl, i1, rfl, rfl, rfl, hkb, hk, rfl, rfl, hne, hT, hAl, hcl, hb⟩;have hkb := hkb.symm;subst hkb;have hcr := zo0 hT;obtain ⟨pr, pl⟩ := zd9 (rows := tab) ra k.toNat;have hfl := zdy (rows := tab) L k.toNat;rw [qc, qc, lU (by omega), show ((A.map slE).length : Int) = A.length by rw [qb]];refine aC (fun hc => ?_) (fun hc => ?_)
  ·simp only [aB] at hc;have hi : i < A.length := by omega
   obtain ⟨g1, g2⟩ := iK hi;obtain ⟨wr, wl⟩ := hT.get hi;refine ⟨g1, A[i].1, A[i].2.1, aA A[i].2.2, by rw [g2]; rfl, (wK sN _ _ _ _ _ _ _ _ wr hcr (by omega) (by omega)).mono ?_⟩;rintro _ rfl;have hb2 : d0 tab A[i].2.2 (bL tab (aI A)).flatten = true := zng pL (List.mem_map.2 ⟨_, qe hi, rfl⟩);rw [hb2];exact ⟨_, rfl, bK (by simp) ⟨rfl, ⟨i + 1, A, rfl, by omega, rfl, rfl, rfl, rfl, hk, rfl, rfl, hne, hT, hAl, hcl, hb⟩, by dsimp only; rw [qb]; omega⟩⟩
  ·rw [bF, zea];refine ⟨⟨zeb (by omega) (by omega) (by omega), dJ _⟩, (wK sN _ _ _ _ _ _ _ _ hcr pr (by omega) (by omega)).mono ?_⟩;rintro _ rfl
   have hpos : 0 < A.length := by
    rcases Nat.eq_zero_or_pos A.length with h | h
    ·exact absurd (by rw [qg h]; rfl) hne
    ·exact h
   refine ⟨_, rfl, bB (zzg pL hne hb) (bB (by simp only [aB, gt_iff_lt]; omega) aw)⟩
 ·rw [if_neg hw] at hx;subst hx;exact ⟨_, rfl, rfl, _, rfl, _, rfl, rfl, _, rfl, _, rfl, _, _, _, rfl, _, _, _, rfl, _, rfl, _, rfl, bB rfl aw⟩
theorem lawCompleteCommon {pvs : List PV} (h : lF qa 8 Tryz.f6.params.toList pvs) : PCall qa 6 pvs fun v => v = .bool true := by
 obtain ⟨v0, r0, rfl, h0, v1, r1, rfl, h1, v2, r2, rfl, h2, rfl⟩ : lF qa 8 [47, 22, 22] pvs := h;obtain ⟨nl, ls, rfl, hr⟩ := zei h0;obtain ⟨nl1, l1, rfl, hr1⟩ := vS h1;obtain ⟨nl2, l2, rfl, hr2⟩ := vS h2;exact z15 _ _ ls hr _ _ l1 hr1 _ _ l2 hr2
theorem lawCompleteWords {pvs : List PV} (h : lF qa 8 Tryz.f7.params.toList pvs) : PCall qa 7 pvs fun v => v = .bool true := by
 obtain ⟨v0, r0, rfl, h0, v1, r1, rfl, h1, v2, r2, rfl, h2, rfl⟩ : lF qa 8 [22, 3, 47] pvs := h;obtain ⟨nl, l, rfl, hr⟩ := vS h0;obtain ⟨k, rfl⟩ := zl4 h1;obtain ⟨nl2, ls, rfl, hr2⟩ := zei h2;exact z16 _ _ l hr k _ _ ls hr2
theorem lawCompleteGrows {pvs : List PV} (h : lF qa 8 Tryz.f8.params.toList pvs) : PCall qa 8 pvs fun v => v = .bool true := by
 obtain ⟨v0, r0, rfl, h0, v1, r1, rfl, h1, v2, r2, rfl, h2, rfl⟩ : lF qa 8 [22, 3, 47] pvs := h;obtain ⟨nl, l, rfl, hr⟩ := vS h0;obtain ⟨k, rfl⟩ := zl4 h1;obtain ⟨nl2, ls, rfl, hr2⟩ := zei h2;exact z17 _ _ l hr k _ _ ls hr2
end Go.Eng
