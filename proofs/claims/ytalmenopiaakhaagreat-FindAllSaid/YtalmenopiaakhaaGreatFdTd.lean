/- States run over the code: what each function gives, and what follows. -/
import Derived.Test.YtalmenopiaakhaaGreatFdTc
open Go.IntKind (i64 i32)
set_option linter.unusedVariables false
set_option maxRecDepth 100000
set_option linter.constructorNameAsVariable false
namespace Go.Eng
open Go Go.Proofs
def zal (tc tg tj tf tp : PV) (M S : List (PV × PV)) (n f : Bool) (es : LL) (n2 f2 : Bool) (ss : LL) (x8 : Int) (n_0 : Bool) (s_0 : LL) : Env × Hp := ([(0, LV.pv (PV.ptr [tc, tg, tj, tf, tp, PV.mp M, PV.mp S])), (1, LV.pv (PV.sl n f es)), (2, LV.pv (PV.sl n2 f2 ss)), (7, LV.own 0), (8, Y6 x8)], [.sl (53, 2) true n_0 s_0])
def zim (tc tg tj tf tp : PV) (M S : List (PV × PV)) (n f : Bool) (es : LL) (n2 f2 : Bool) (ss : LL) (J : Int -> Bool -> LL -> Prop) (μ : Int -> Bool -> LL -> Nat) (R : PV -> Prop) : Prop :=
 if ((↑ss.length : Int) == 0) = true then R (PV.sl true true []) else (aB (zal tc tg tj tf tp M S n f es n2 f2 ss (0 : Int) true []) /\ J (0 : Int) true []) /\ ∀ (x8 : Int) (n_0 : Bool) (s_0 : LL), J x8 n_0 s_0 -> (dE es.length (some x8)
 none none /\ aM es 1) /\ PCall Tryz.prog 64 [PV.ptr [tc, tg, tj, tf, tp, PV.mp M, PV.mp S], PV.sl n (f && decide ((↑es.length : Int) = (↑es.length : Int))) (List.drop x8.toNat (List.take (↑es.length : Int).toNat es)), PV.sl n2 f2 ss] fun (v
 : PV) => ∃ vs, v = PV.tup vs /\ vs.length = 3 /\ ∃ x, vs.head? = some x /\ ∃ n1, x = Z6 n1 /\ ∃ x1, vs.tail.head? = some x1 /\ ∃ n3, x1 = Z6 n3 /\ ∃ x2, vs.tail.tail.head? = some x2 /\ ∃ (b : Bool),
 x2 = Zb b /\ if (!b) = true then R (PV.sl n_0 false s_0) else (aM [[Z6 (i64.wrap (x8 + n1)), Z6 (i64.wrap (x8 + n3))]] 2 /\ (s_0.length + 1) * 16 <= 140737488355328) /\ aB (zal tc tg tj tf tp M S n f es n2 f2 ss
 (i64.wrap (x8 + n3)) (n_0 && false) (s_0 ++ [[Z6 (i64.wrap (x8 + n1)), Z6 (i64.wrap (x8 + n3))]])) /\ J (i64.wrap (x8 + n3)) (n_0 && false) (s_0 ++ [[Z6 (i64.wrap (x8 + n1)), Z6 (i64.wrap (x8 +
 n3))]]) /\ μ (i64.wrap (x8 + n3)) (n_0 && false) (s_0 ++ [[Z6 (i64.wrap (x8 + n1)), Z6 (i64.wrap (x8 + n3))]]) < μ x8 n_0 s_0
theorem zs7 (tc tg tj tf tp : PV) (M S : List (PV × PV)) (n f : Bool) (es : LL) (n2 f2 : Bool) (ss : LL) (J : Int -> Bool -> LL -> Prop) (μ : Int -> Bool -> LL -> Nat) {R : PV -> Prop} (h : zim tc tg tj tf tp M S n f es n2 f2 ss J μ R) : PCall Tryz.prog 26 [.ptr [tc, tg, tj, tf, tp, .mp M, .mp S], .sl n f es, .sl n2 f2 ss] R :=
 PCall.of Tryz.func26 (by kernel_rfl) (by kernel_rfl) (zl (by kernel_rfl)) (Eq.mpr (by kernel_rfl : aQ Tryz.prog (fun _ => none) Tryz.f26 [0, 1, 2, 6, 7, 8, 9, 10, 11, 14, 26] (fun zz_ => match zz_ with | 5 => some ⟨Int × Bool × LL, fun s => zal tc tg tj tf tp M S n f es n2 f2 ss s.1 s.2.1 s.2.2, fun _ s => J s.1 s.2.1 s.2.2, fun s => μ s.1 s.2.1 s.2.2, fun e h => (gI e 8, oN h 0, oS h 0), [(7, 53, 2)], [0, 1, 2, 7, 8], [], fun p => ∀ (x8 : Int) (n_0 : Bool) (s_0 : LL), p (x8, n_0, s_0), fun p h s => h s.1 s.2.1 s.2.2⟩ | _ => none) (Tryz.f26.body.getD .skip) [.ptr [tc, tg, tj, tf, tp, .mp M, .mp S], .sl n f es, .sl n2 f2 ss] R = _) h)

def zam (tc tg tj tf tp : PV) (M S : List (PV × PV)) (n f : Bool) (es : LL) (n2 f2 : Bool) (ss : LL) (n3 f3 : Bool) (s3 : LL) (x11 : Int) (n12 f12 : Bool) (s12 : LL) (n19 f19 : Bool) (s19 : LL) (x20 x21 : Int) (n_0 : Bool) (s_0 : LL) : Env × Hp := ([(0, LV.pv (PV.ptr [tc, tg, tj, tf, tp, PV.mp M, PV.mp S])), (1, LV.pv (PV.sl n f es)), (3, LV.pv (PV.sl n3 f3 s3)), (10, LV.own 0), (11, Y6 x11), (12, .pv (.sl n12 f12 s12)), (19, .pv (.sl n19 f19 s19)), (20, Y6 x20), (21, Y6 x21)], [.sl (21, 1) true n_0 s_0])
def zin (tc tg tj tf tp : PV) (M S : List (PV × PV)) (n f : Bool) (es : LL) (n2 f2 : Bool) (ss : LL) (n3 f3 : Bool) (s3 : LL) (J : Int -> Bool -> Bool -> LL -> Bool -> Bool -> LL -> Int -> Int -> Bool -> LL -> Prop) (μ : Int -> Bool -> Bool -> LL -> Bool -> Bool -> LL -> Int -> Int -> Bool -> LL -> Nat) (R : PV -> Prop) : Prop :=
 PCall Tryz.prog 26 [PV.ptr [tc, tg, tj, tf, tp, PV.mp M, PV.mp S], PV.sl n f es, PV.sl n2 f2 ss] fun v => ∃ n1 f1 es1, v = PV.sl n1 f1 es1 /\ (aB (zam tc tg tj tf tp M S n f es n2 f2 ss n3 f3 s3 (0 :
 Int) n1 f1 es1 n1 f1 es1 (↑es1.length : Int) (0 : Int) true []) /\ J (0 : Int) n1 f1 es1 n1 f1 es1 (↑es1.length : Int) (0 : Int) true []) /\ ∀ (x11 : Int) (n12 f12 : Bool) (s12 : LL) (n19 f19 : Bool) (s19 : LL) (x20 x21 : Int) (n_0 : Bool)
 (s_0 : LL), J x11 n12 f12 s12 n19 f19 s19 x20 x21 n_0 s_0 -> if decide (x21 < x20) = true then aK s19 x21 2 /\ ∃ n4, (s19.getD x21.toNat []).head? = some (Z6 n4) /\ ∃ n5, (s19.getD x21.toNat []).tail.head? = some (Z6 n5) /\
 (2 = 2 /\ 2 <= 2) /\ ((0 : Int) <= 0 /\ (0 : Int) < (↑2 : Int)) /\ ∃ n6, some (Z6 n4) = some (Z6 n6) /\ (dE es.length (some x11) (some n6) none /\ aM es 1) /\ (aM (List.drop x11.toNat (List.take n6.toNat es)) 1 /\ (s_0.length +
 (List.drop x11.toNat (List.take n6.toNat es)).length) * 4 <= 140737488355328) /\ (aM s3 1 /\ ((s_0 ++ List.drop x11.toNat (List.take n6.toNat es)).length + s3.length) * 4 <= 140737488355328) /\ ((0 : Int) <= 1 /\ (1 : Int) < (↑2 : Int)) /\ ∃ (n7
 : Int), some (Z6 n5) = some (Z6 n7) /\ aB (zam tc tg tj tf tp M S n f es n2 f2 ss n3 f3 s3 n7 n12 f12 s12 n19 f19 s19 x20 (i64.wrap (x21 + 1)) (n_0 && (List.drop x11.toNat (List.take n6.toNat es)).isEmpty && s3.isEmpty) (s_0 ++
 List.drop x11.toNat (List.take n6.toNat es) ++ s3)) /\ J n7 n12 f12 s12 n19 f19 s19 x20 (i64.wrap (x21 + 1)) (n_0 && (List.drop x11.toNat (List.take n6.toNat es)).isEmpty && s3.isEmpty) (s_0 ++ List.drop x11.toNat (List.take n6.toNat
 es) ++ s3) /\ μ n7 n12 f12 s12 n19 f19 s19 x20 (i64.wrap (x21 + 1)) (n_0 && (List.drop x11.toNat (List.take n6.toNat es)).isEmpty && s3.isEmpty) (s_0 ++ List.drop x11.toNat (List.take n6.toNat es) ++ s3) < μ x11 n12 f12 s12 n19 f19
 s19 x20 x21 n_0 s_0 else (dE es.length (some x11) none none /\ aM es 1) /\ (aM (List.drop x11.toNat (List.take (↑es.length : Int).toNat es)) 1 /\ (s_0.length + (List.drop x11.toNat (List.take (↑es.length : Int).toNat es)).length) * 4 <=
 140737488355328) /\ PCall Tryz.prog 65 [PV.ptr [tc, tg, tj, tf, tp, PV.mp M, PV.mp S], PV.sl (n_0 && (List.drop x11.toNat (List.take (↑es.length : Int).toNat es)).isEmpty) false (s_0 ++ List.drop x11.toNat (List.take (↑es.length : Int).toNat
 es))] fun v1 => ∃ n4 f4 es2, v1 = PV.sl n4 f4 es2 /\ R (PV.tup [PV.sl n4 f4 es2, Z6 (↑s12.length : Int)])
theorem zs8 (tc tg tj tf tp : PV) (M S : List (PV × PV)) (n f : Bool) (es : LL) (n2 f2 : Bool) (ss : LL) (n3 f3 : Bool) (s3 : LL) (J : Int -> Bool -> Bool -> LL -> Bool -> Bool -> LL -> Int -> Int -> Bool -> LL -> Prop) (μ : Int -> Bool -> Bool -> LL -> Bool -> Bool -> LL -> Int -> Int -> Bool -> LL -> Nat) {R : PV -> Prop} (h : zin tc tg tj tf tp M S n f es n2 f2 ss n3 f3 s3 J μ R) : PCall Tryz.prog 28 [.ptr [tc, tg, tj, tf, tp, .mp M, .mp S], .sl n f es, .sl n2 f2 ss, .sl n3 f3 s3] R :=
 PCall.of Tryz.func28 (by kernel_rfl) (by kernel_rfl) (zl (by kernel_rfl)) (Eq.mpr (by kernel_rfl : aQ Tryz.prog (fun _ => none) Tryz.f28 [0, 1, 2, 3, 8, 9, 10, 11, 12, 14, 19, 20, 21, 22] (fun zz_ => match zz_ with | 5 => some ⟨Int × Bool × Bool × LL × Bool × Bool × LL × Int × Int × Bool × LL, fun s => zam tc tg tj tf tp M S n f es n2 f2 ss n3 f3 s3 s.1 s.2.1 s.2.2.1 s.2.2.2.1 s.2.2.2.2.1 s.2.2.2.2.2.1 s.2.2.2.2.2.2.1 s.2.2.2.2.2.2.2.1 s.2.2.2.2.2.2.2.2.1 s.2.2.2.2.2.2.2.2.2.1 s.2.2.2.2.2.2.2.2.2.2, fun _ s => J s.1 s.2.1 s.2.2.1 s.2.2.2.1 s.2.2.2.2.1 s.2.2.2.2.2.1 s.2.2.2.2.2.2.1 s.2.2.2.2.2.2.2.1 s.2.2.2.2.2.2.2.2.1 s.2.2.2.2.2.2.2.2.2.1 s.2.2.2.2.2.2.2.2.2.2, fun s => μ s.1 s.2.1 s.2.2.1 s.2.2.2.1 s.2.2.2.2.1 s.2.2.2.2.2.1 s.2.2.2.2.2.2.1 s.2.2.2.2.2.2.2.1 s.2.2.2.2.2.2.2.2.1 s.2.2.2.2.2.2.2.2.2.1 s.2.2.2.2.2.2.2.2.2.2, fun e h => (gI e 11, gN e 12, gF e 12, gS e 12, gN e 19, gF e 19, gS e 19, gI e 20, gI e 21, oN h 0, oS h 0), [(10, 21, 1)], [0, 1, 3, 10, 11, 12, 19, 20, 21], [], fun p => ∀ (x11 : Int) (n12 f12 : Bool) (s12 : LL) (n19 f19 : Bool) (s19 : LL) (x20 x21 : Int) (n_0 : Bool) (s_0 : LL), p (x11, n12, f12, s12, n19, f19, s19, x20, x21, n_0, s_0), fun p h s => h s.1 s.2.1 s.2.2.1 s.2.2.2.1 s.2.2.2.2.1 s.2.2.2.2.2.1 s.2.2.2.2.2.2.1 s.2.2.2.2.2.2.2.1 s.2.2.2.2.2.2.2.2.1 s.2.2.2.2.2.2.2.2.2.1 s.2.2.2.2.2.2.2.2.2.2⟩ | _ => none) (Tryz.f28.body.getD .skip) [.ptr [tc, tg, tj, tf, tp, .mp M, .mp S], .sl n f es, .sl n2 f2 ss, .sl n3 f3 s3] R = _) h)

def zan (n f : Bool) (es : LL) (n2 f2 : Bool) (ss : LL) (n3 f3 : Bool) (s3 : LL) (x8 : Int) (n_0 : Bool) (s_0 : LL) : Env × Hp := ([(0, LV.pv (PV.sl n f es)), (1, LV.pv (PV.sl n2 f2 ss)), (2, LV.pv (PV.sl n3 f3 s3)), (7, LV.own 0), (8, Y6 x8)], [.sl (53, 2) true n_0 s_0])
def zio (n f : Bool) (es : LL) (n2 f2 : Bool) (ss : LL) (n3 f3 : Bool) (s3 : LL) (J : Int -> Bool -> LL -> Prop) (μ : Int -> Bool -> LL -> Nat) (R : PV -> Prop) : Prop :=
 (aB (zan n f es n2 f2 ss n3 f3 s3 (0 : Int) true []) /\ J (0 : Int) true []) /\ ∀ (x8 : Int) (n_0 : Bool) (s_0 : LL), J x8 n_0 s_0 -> if decide ((↑s3.length : Int) > 0) = true then (dE ss.length (some x8) none none /\ aM ss 1) /\ PCall
 Tryz.prog 19 [PV.sl n f es, PV.sl n2 (f2 && decide ((↑ss.length : Int) = (↑ss.length : Int))) (List.drop x8.toNat (List.take (↑ss.length : Int).toNat ss)), PV.sl n3 f3 s3] fun v => ∃ vs, v = PV.tup vs /\ vs.length = 3 /\ ∃
 (x : PV), vs.head? = some x /\ ∃ n1, x = Z6 n1 /\ ∃ x1, vs.tail.head? = some x1 /\ ∃ n4, x1 = Z6 n4 /\ ∃ x2, vs.tail.tail.head? = some x2 /\ ∃ b, x2 = Zb b /\ if (!b) = true then R (PV.sl n_0 false s_0) else
 (aM [[Z6 (i64.wrap (x8 + n1)), Z6 (i64.wrap (x8 + n4))]] 2 /\ (s_0.length + 1) * 16 <= 140737488355328) /\ aB (zan n f es n2 f2 ss n3 f3 s3 (i64.wrap (x8 + n4)) (n_0 && false) (s_0 ++ [[Z6 (i64.wrap (x8 +
 n1)), Z6 (i64.wrap (x8 + n4))]])) /\ J (i64.wrap (x8 + n4)) (n_0 && false) (s_0 ++ [[Z6 (i64.wrap (x8 + n1)), Z6 (i64.wrap (x8 + n4))]]) /\ μ (i64.wrap (x8 + n4)) (n_0 && false) (s_0 ++ [[Z6
 (i64.wrap (x8 + n1)), Z6 (i64.wrap (x8 + n4))]]) < μ x8 n_0 s_0 else R (PV.sl n_0 false s_0)
theorem zs9 (n f : Bool) (es : LL) (n2 f2 : Bool) (ss : LL) (n3 f3 : Bool) (s3 : LL) (J : Int -> Bool -> LL -> Prop) (μ : Int -> Bool -> LL -> Nat) {R : PV -> Prop} (h : zio n f es n2 f2 ss n3 f3 s3 J μ R) : PCall Tryz.prog 27 [.sl n f es, .sl n2 f2 ss, .sl n3 f3 s3] R :=
 PCall.of Tryz.func27 (by kernel_rfl) (by kernel_rfl) (zl (by kernel_rfl)) (Eq.mpr (by kernel_rfl : aQ Tryz.prog (fun _ => none) Tryz.f27 [0, 1, 2, 6, 7, 8, 9, 10, 11, 14, 26] (fun zz_ => match zz_ with | 3 => some ⟨Int × Bool × LL, fun s => zan n f es n2 f2 ss n3 f3 s3 s.1 s.2.1 s.2.2, fun _ s => J s.1 s.2.1 s.2.2, fun s => μ s.1 s.2.1 s.2.2, fun e h => (gI e 8, oN h 0, oS h 0), [(7, 53, 2)], [0, 1, 2, 7, 8], [], fun p => ∀ (x8 : Int) (n_0 : Bool) (s_0 : LL), p (x8, n_0, s_0), fun p h s => h s.1 s.2.1 s.2.2⟩ | _ => none) (Tryz.f27.body.getD .skip) [.sl n f es, .sl n2 f2 ss, .sl n3 f3 s3] R = _) h)

def nS (n f : Bool) (es : LL) (n2 f2 : Bool) (ss : LL) (n3 f3 : Bool) (s3 : LL) (n4 f4 : Bool) (s4 : LL) (n9 f9 : Bool) (s9 : LL) (x11 : Int) (n_0 : Bool) (s_0 : LL) : Env × Hp := ([(0, LV.pv (PV.sl n f es)), (1, LV.pv (PV.sl n2 f2 ss)), (3, LV.pv (PV.sl n4 f4 s4)), (9, .pv (.sl n9 f9 s9)), (10, LV.own 0), (11, Y6 x11)], [.sl (21, 1) true n_0 s_0])
def zao (n f : Bool) (es : LL) (n2 f2 : Bool) (ss : LL) (n3 f3 : Bool) (s3 : LL) (n4 f4 : Bool) (s4 : LL) (n9 f9 : Bool) (s9 : LL) (x11 x12 : Int) (n_0 : Bool) (s_0 : LL) : Env × Hp := ([(0, LV.pv (PV.sl n f es)), (1, LV.pv (PV.sl n2 f2 ss)), (3, LV.pv (PV.sl n4 f4 s4)), (9, .pv (.sl n9 f9 s9)), (10, LV.own 0), (11, Y6 x11), (12, Y6 x12)], [.sl (21, 1) true n_0 s_0])
def ziq (n f : Bool) (es : LL) (n2 f2 : Bool) (ss : LL) (n3 f3 : Bool) (s3 : LL) (n4 f4 : Bool) (s4 : LL) (J : Bool -> Bool -> LL -> Int -> Bool -> LL -> Prop) (μ : Bool -> Bool -> LL -> Int -> Bool -> LL -> Nat) (J2 : Bool -> Bool -> LL -> Int -> Int -> Bool -> LL -> Bool -> Bool -> LL -> Int -> Int -> Bool -> LL -> Prop) (μ2 : Bool -> Bool -> LL -> Int -> Int -> Bool -> LL -> Nat) (R : PV -> Prop) : Prop :=
 PCall Tryz.prog 27 [PV.sl n f es, PV.sl n2 f2 ss, PV.sl n3 f3 s3] fun v => ∃ n1 f1 es1, v = PV.sl n1 f1 es1 /\ (aB (nS n f es n2 f2 ss n3 f3 s3 n4 f4 s4 n1 f1 es1 (0 : Int) true []) /\ J n1 f1 es1 (0
 : Int) true []) /\ ∀ (n9 f9 : Bool) (s9 : LL) (x11 : Int) (n_0 : Bool) (s_0 : LL), J n9 f9 s9 x11 n_0 s_0 -> if decide (x11 < (↑ss.length : Int)) = true then (aB (zao n f es n2 f2 ss n3 f3 s3 n4 f4 s4 n9 f9 s9 x11 (0 : Int) n_0 s_0) /\ J2
 n9 f9 s9 x11 (0 : Int) n_0 s_0 n9 f9 s9 x11 (0 : Int) n_0 s_0) /\ ∀ (n91 f91 : Bool) (s91 : LL) (x111 x12 : Int) (n_01 : Bool) (s_01 : LL), J2 n9 f9 s9 x11 (0 : Int) n_0 s_0 n91 f91 s91 x111 x12 n_01 s_01 -> if decide (x12 < (↑s91.length :
 Int)) = true then aK s91 x12 2 /\ ((0 : Int) <= 0 /\ (0 : Int) < (↑2 : Int)) /\ ∃ n5, (List.drop 0 (s91.getD x12.toNat [])).head? = some (Z6 n5) /\ if (n5 != x111) = true then aB (zao n f es n2 f2 ss n3 f3 s3 n4 f4 s4 n91 f91 s91
 x111 (i64.wrap (x12 + 1)) n_01 s_01) /\ J2 n9 f9 s9 x11 (0 : Int) n_0 s_0 n91 f91 s91 x111 (i64.wrap (x12 + 1)) n_01 s_01 /\ μ2 n91 f91 s91 x111 (i64.wrap (x12 + 1)) n_01 s_01 < μ2 n91 f91 s91 x111 x12 n_01 s_01 else
 if decide (x12 < (↑s91.length : Int)) = true then (aM s4 1 /\ (s_01.length + s4.length) * 4 <= 140737488355328) /\ aK s91 x12 2 /\ ((0 : Int) <= 1 /\ (1 : Int) < (↑2 : Int)) /\ ∃ n6, (List.drop 1 (s91.getD x12.toNat [])).head? = some
 (Z6 n6) /\ aB (nS n f es n2 f2 ss n3 f3 s3 n4 f4 s4 n91 f91 s91 n6 (n_01 && s4.isEmpty) (s_01 ++ s4)) /\ J n91 f91 s91 n6 (n_01 && s4.isEmpty) (s_01 ++ s4) /\ μ n91 f91 s91 n6 (n_01 && s4.isEmpty) (s_01 ++ s4) < μ n9 f9 s9 x11 n_0 s_0
 else aK ss x111 1 /\ ∃ n6, (ss.getD x111.toNat []).head? = some (Z3 n6) /\ (aM [[Z3 n6]] 1 /\ (s_01.length + 1) * 4 <= 140737488355328) /\ aB (nS n f es n2 f2 ss n3 f3 s3 n4 f4 s4 n91 f91 s91 (i64.wrap (x111 + 1))
 (n_01 && false) (s_01 ++ [[Z3 n6]])) /\ J n91 f91 s91 (i64.wrap (x111 + 1)) (n_01 && false) (s_01 ++ [[Z3 n6]]) /\ μ n91 f91 s91 (i64.wrap (x111 + 1)) (n_01 && false) (s_01 ++ [[Z3 n6]]) < μ n9 f9 s9 x11 n_0 s_0 else if decide
 (x12 < (↑s91.length : Int)) = true then (aM s4 1 /\ (s_01.length + s4.length) * 4 <= 140737488355328) /\ aK s91 x12 2 /\ ((0 : Int) <= 1 /\ (1 : Int) < (↑2 : Int)) /\ ∃ n5, (List.drop 1 (s91.getD x12.toNat [])).head? = some (Z6 n5) /\
 aB (nS n f es n2 f2 ss n3 f3 s3 n4 f4 s4 n91 f91 s91 n5 (n_01 && s4.isEmpty) (s_01 ++ s4)) /\ J n91 f91 s91 n5 (n_01 && s4.isEmpty) (s_01 ++ s4) /\ μ n91 f91 s91 n5 (n_01 && s4.isEmpty) (s_01 ++ s4) < μ n9 f9 s9 x11 n_0 s_0 else aK
 ss x111 1 /\ ∃ n5, (ss.getD x111.toNat []).head? = some (Z3 n5) /\ (aM [[Z3 n5]] 1 /\ (s_01.length + 1) * 4 <= 140737488355328) /\ aB (nS n f es n2 f2 ss n3 f3 s3 n4 f4 s4 n91 f91 s91 (i64.wrap (x111 + 1)) (n_01 && false)
 (s_01 ++ [[Z3 n5]])) /\ J n91 f91 s91 (i64.wrap (x111 + 1)) (n_01 && false) (s_01 ++ [[Z3 n5]]) /\ μ n91 f91 s91 (i64.wrap (x111 + 1)) (n_01 && false) (s_01 ++ [[Z3 n5]]) < μ n9 f9 s9 x11 n_0 s_0 else PCall Tryz.prog 34 [PV.sl
 n f es, PV.sl n_0 false s_0] fun v1 => ∃ n5 f5 es2, v1 = PV.sl n5 f5 es2 /\ R (PV.sl n5 f5 es2)
theorem zta (n f : Bool) (es : LL) (n2 f2 : Bool) (ss : LL) (n3 f3 : Bool) (s3 : LL) (n4 f4 : Bool) (s4 : LL) (J : Bool -> Bool -> LL -> Int -> Bool -> LL -> Prop) (μ : Bool -> Bool -> LL -> Int -> Bool -> LL -> Nat) (J2 : Bool -> Bool -> LL -> Int -> Int -> Bool -> LL -> Bool -> Bool -> LL -> Int -> Int -> Bool -> LL -> Prop) (μ2 : Bool -> Bool -> LL -> Int -> Int -> Bool -> LL -> Nat) {R : PV -> Prop} (h : ziq n f es n2 f2 ss n3 f3 s3 n4 f4 s4 J μ J2 μ2 R) : PCall Tryz.prog 29 [.sl n f es, .sl n2 f2 ss, .sl n3 f3 s3, .sl n4 f4 s4] R :=
 PCall.of Tryz.func29 (by kernel_rfl) (by kernel_rfl) (zl (by kernel_rfl)) (Eq.mpr (by kernel_rfl : aQ Tryz.prog (fun _ => none) Tryz.f29 [0, 1, 2, 3, 8, 9, 10, 11, 12, 20, 33, 39] (fun zz_ => match zz_ with | 4 => some ⟨Bool × Bool × LL × Int × Bool × LL, fun s => nS n f es n2 f2 ss n3 f3 s3 n4 f4 s4 s.1 s.2.1 s.2.2.1 s.2.2.2.1 s.2.2.2.2.1 s.2.2.2.2.2, fun _ s => J s.1 s.2.1 s.2.2.1 s.2.2.2.1 s.2.2.2.2.1 s.2.2.2.2.2, fun s => μ s.1 s.2.1 s.2.2.1 s.2.2.2.1 s.2.2.2.2.1 s.2.2.2.2.2, fun e h => (gN e 9, gF e 9, gS e 9, gI e 11, oN h 0, oS h 0), [(10, 21, 1)], [0, 1, 3, 9, 10, 11], [], fun p => ∀ (n9 f9 : Bool) (s9 : LL) (x11 : Int) (n_0 : Bool) (s_0 : LL), p (n9, f9, s9, x11, n_0, s_0), fun p h s => h s.1 s.2.1 s.2.2.1 s.2.2.2.1 s.2.2.2.2.1 s.2.2.2.2.2⟩ | 6 => some ⟨Bool × Bool × LL × Int × Int × Bool × LL, fun s => zao n f es n2 f2 ss n3 f3 s3 n4 f4 s4 s.1 s.2.1 s.2.2.1 s.2.2.2.1 s.2.2.2.2.1 s.2.2.2.2.2.1 s.2.2.2.2.2.2, fun t s => J2 t.1 t.2.1 t.2.2.1 t.2.2.2.1 t.2.2.2.2.1 t.2.2.2.2.2.1 t.2.2.2.2.2.2 s.1 s.2.1 s.2.2.1 s.2.2.2.1 s.2.2.2.2.1 s.2.2.2.2.2.1 s.2.2.2.2.2.2, fun s => μ2 s.1 s.2.1 s.2.2.1 s.2.2.2.1 s.2.2.2.2.1 s.2.2.2.2.2.1 s.2.2.2.2.2.2, fun e h => (gN e 9, gF e 9, gS e 9, gI e 11, gI e 12, oN h 0, oS h 0), [], [0, 1, 3, 9, 10, 11, 12], [], fun p => ∀ (n9 f9 : Bool) (s9 : LL) (x11 x12 : Int) (n_0 : Bool) (s_0 : LL), p (n9, f9, s9, x11, x12, n_0, s_0), fun p h s => h s.1 s.2.1 s.2.2.1 s.2.2.2.1 s.2.2.2.2.1 s.2.2.2.2.2.1 s.2.2.2.2.2.2⟩ | _ => none) (Tryz.f29.body.getD .skip) [.sl n f es, .sl n2 f2 ss, .sl n3 f3 s3, .sl n4 f4 s4] R = _) h)

def zap (n f : Bool) (es : LL) (n2 f2 : Bool) (ss : LL) (n3 f3 : Bool) (s3 : LL) (n0 f0 : Bool) (s0 : LL) (n1 f1 : Bool) (s1 : LL) (n2 f2 : Bool) (s2 : LL) (n7 f7 : Bool) (s7 : LL) (x8 : PV) (n9 f9 : Bool) (s9 : LL) (n10 f10 : Bool) (s10 : LL) (x11 : Int) : Env × Hp := ([(0, .pv (.sl n0 f0 s0)), (1, .pv (.sl n1 f1 s1)), (2, .pv (.sl n2 f2 s2)), (7, .pv (.sl n7 f7 s7)), (8, .pv x8), (9, .pv (.sl n9 f9 s9)), (10, .pv (.sl n10 f10 s10)), (11, Y6 x11)], [])
def zir (n f : Bool) (es : LL) (n2 f2 : Bool) (ss : LL) (n3 f3 : Bool) (s3 : LL) (J : Bool -> Bool -> LL -> Bool -> Bool -> LL -> Bool -> Bool -> LL -> Bool -> Bool -> LL -> PV -> Bool -> Bool -> LL -> Bool -> Bool -> LL -> Int -> Prop) (μ : Bool -> Bool -> LL -> Bool -> Bool -> LL -> Bool -> Bool -> LL -> Bool -> Bool -> LL -> PV -> Bool -> Bool -> LL -> Bool -> Bool -> LL -> Int -> Nat) (R : PV -> Prop) : Prop :=
 PCall Tryz.prog 13 [PV.sl n f es, Z6 14] fun v => ∃ n1 f1 es1, v = PV.sl n1 f1 es1 /\ PCall Tryz.prog 13 [PV.sl n2 f2 ss, Z6 5] fun v1 => ∃ n4 f4 es2, v1 = PV.sl n4 f4
 es2 /\ PCall Tryz.prog 13 [PV.sl n3 f3 s3, Z6 10] fun v2 => ∃ n5 f5 es3, v2 = PV.sl n5 f5 es3 /\ PCall Tryz.prog 15 [] fun v3 => ∃ n6 f6 es4, v3 = PV.sl n6 f6 es4 /\
 PCall Tryz.prog 16 [PV.sl n6 f6 es4] fun v4 => PCall Tryz.prog 26 [v4, PV.sl n1 f1 es1, PV.sl n4 f4 es2] fun v5 => ∃ n7 f7 es5, v5 = PV.sl n7 f7 es5 /\ PCall Tryz.prog 27 [PV.sl n6 f6 es4, PV.sl n1
 f1 es1, PV.sl n4 f4 es2] fun v6 => ∃ n8 f8 es6, v6 = PV.sl n8 f8 es6 /\ if ((↑es5.length : Int) != (↑es6.length : Int)) = true then R (Zb false) else (aB (zap n f es n2 f2 ss n3 f3 s3 n1 f1 es1 n4 f4
 es2 n5 f5 es3 n6 f6 es4 v4 n7 f7 es5 n8 f8 es6 (0 : Int)) /\ J n1 f1 es1 n4 f4 es2 n5 f5 es3 n6 f6 es4 v4 n7 f7 es5 n8 f8 es6 (0 : Int)) /\ ∀ (n0 f0 : Bool) (s0 : LL) (n11 f11 : Bool) (s1 : LL) (n21 f21 : Bool) (s2 : LL) (n71 f71 : Bool) (s7
 : LL) (x8 : PV) (n9 f9 : Bool) (s9 : LL) (n10 f10 : Bool) (s10 : LL) (x11 : Int), J n0 f0 s0 n11 f11 s1 n21 f21 s2 n71 f71 s7 x8 n9 f9 s9 n10 f10 s10 x11 -> if decide (x11 < (↑s9.length : Int)) = true then aK s9 x11 2 /\ ∃ (n12 : Int),
 (s9.getD x11.toNat []).head? = some (Z6 n12) /\ ∃ n13, (s9.getD x11.toNat []).tail.head? = some (Z6 n13) /\ aK s10 x11 2 /\ ∃ n14, (s10.getD x11.toNat []).head? = some (Z6 n14) /\ ∃ n15, (s10.getD x11.toNat
 []).tail.head? = some (Z6 n15) /\ if (bif false then n12 == n14 && (n13 == n15 && true) else !(n12 == n14 && (n13 == n15 && true))) = true then R (Zb false) else aB (zap n f es n2 f2 ss n3 f3 s3 n0 f0 s0 n11 f11 s1 n21 f21 s2 n71 f71 s7
 x8 n9 f9 s9 n10 f10 s10 (i64.wrap (x11 + 1))) /\ J n0 f0 s0 n11 f11 s1 n21 f21 s2 n71 f71 s7 x8 n9 f9 s9 n10 f10 s10 (i64.wrap (x11 + 1)) /\ μ n0 f0 s0 n11 f11 s1 n21 f21 s2 n71 f71 s7 x8 n9 f9 s9 n10 f10 s10 (i64.wrap
 (x11 + 1)) < μ n0 f0 s0 n11 f11 s1 n21 f21 s2 n71 f71 s7 x8 n9 f9 s9 n10 f10 s10 x11 else PCall Tryz.prog 28 [x8, PV.sl n0 f0 s0, PV.sl n11 f11 s1, PV.sl n21 f21 s2] fun v7 => ∃ vs, v7 = PV.tup vs /\ vs.length = 2 /\ ∃ (x :
 PV), vs.head? = some x /\ ∃ n12 f12 es7, x = PV.sl n12 f12 es7 /\ ∃ x1, vs.tail.head? = some x1 /\ ∃ n13, x1 = Z6 n13 /\ if (n13 == (↑s9.length : Int)) = true then PCall Tryz.prog 29 [PV.sl n71 f71
 s7, PV.sl n0 f0 s0, PV.sl n11 f11 s1, PV.sl n21 f21 s2] fun v8 => ∃ n14 f13 es8, v8 = PV.sl n14 f13 es8 /\ PCall Tryz.prog 25 [PV.sl n12 f12 es7, PV.sl n14 f13 es8] fun v9 => ∃ b, v9 = Zb b
 /\ if b = true then PCall Tryz.prog 30 [] fun v10 => ∃ b1, v10 = Zb b1 /\ R (Zb b1) else R (Zb false) else R (Zb false)
theorem ztb (n f : Bool) (es : LL) (n2 f2 : Bool) (ss : LL) (n3 f3 : Bool) (s3 : LL) (J : Bool -> Bool -> LL -> Bool -> Bool -> LL -> Bool -> Bool -> LL -> Bool -> Bool -> LL -> PV -> Bool -> Bool -> LL -> Bool -> Bool -> LL -> Int -> Prop) (μ : Bool -> Bool -> LL -> Bool -> Bool -> LL -> Bool -> Bool -> LL -> Bool -> Bool -> LL -> PV -> Bool -> Bool -> LL -> Bool -> Bool -> LL -> Int -> Nat) {R : PV -> Prop} (h : zir n f es n2 f2 ss n3 f3 s3 J μ R) : PCall Tryz.prog 6 [.sl n f es, .sl n2 f2 ss, .sl n3 f3 s3] R :=
 PCall.of Tryz.func6 (by kernel_rfl) (by kernel_rfl) (zl (by kernel_rfl)) (Eq.mpr (by kernel_rfl : aQ Tryz.prog (fun _ => none) Tryz.f6 [0, 1, 2, 6, 7, 8, 9, 10, 11, 12, 13, 35, 39, 50] (fun zz_ => match zz_ with | 11 => some ⟨Bool × Bool × LL × Bool × Bool × LL × Bool × Bool × LL × Bool × Bool × LL × PV × Bool × Bool × LL × Bool × Bool × LL × Int, fun s => zap n f es n2 f2 ss n3 f3 s3 s.1 s.2.1 s.2.2.1 s.2.2.2.1 s.2.2.2.2.1 s.2.2.2.2.2.1 s.2.2.2.2.2.2.1 s.2.2.2.2.2.2.2.1 s.2.2.2.2.2.2.2.2.1 s.2.2.2.2.2.2.2.2.2.1 s.2.2.2.2.2.2.2.2.2.2.1 s.2.2.2.2.2.2.2.2.2.2.2.1 s.2.2.2.2.2.2.2.2.2.2.2.2.1 s.2.2.2.2.2.2.2.2.2.2.2.2.2.1 s.2.2.2.2.2.2.2.2.2.2.2.2.2.2.1 s.2.2.2.2.2.2.2.2.2.2.2.2.2.2.2.1 s.2.2.2.2.2.2.2.2.2.2.2.2.2.2.2.2.1 s.2.2.2.2.2.2.2.2.2.2.2.2.2.2.2.2.2.1 s.2.2.2.2.2.2.2.2.2.2.2.2.2.2.2.2.2.2.1 s.2.2.2.2.2.2.2.2.2.2.2.2.2.2.2.2.2.2.2, fun _ s => J s.1 s.2.1 s.2.2.1 s.2.2.2.1 s.2.2.2.2.1 s.2.2.2.2.2.1 s.2.2.2.2.2.2.1 s.2.2.2.2.2.2.2.1 s.2.2.2.2.2.2.2.2.1 s.2.2.2.2.2.2.2.2.2.1 s.2.2.2.2.2.2.2.2.2.2.1 s.2.2.2.2.2.2.2.2.2.2.2.1 s.2.2.2.2.2.2.2.2.2.2.2.2.1 s.2.2.2.2.2.2.2.2.2.2.2.2.2.1 s.2.2.2.2.2.2.2.2.2.2.2.2.2.2.1 s.2.2.2.2.2.2.2.2.2.2.2.2.2.2.2.1 s.2.2.2.2.2.2.2.2.2.2.2.2.2.2.2.2.1 s.2.2.2.2.2.2.2.2.2.2.2.2.2.2.2.2.2.1 s.2.2.2.2.2.2.2.2.2.2.2.2.2.2.2.2.2.2.1 s.2.2.2.2.2.2.2.2.2.2.2.2.2.2.2.2.2.2.2, fun s => μ s.1 s.2.1 s.2.2.1 s.2.2.2.1 s.2.2.2.2.1 s.2.2.2.2.2.1 s.2.2.2.2.2.2.1 s.2.2.2.2.2.2.2.1 s.2.2.2.2.2.2.2.2.1 s.2.2.2.2.2.2.2.2.2.1 s.2.2.2.2.2.2.2.2.2.2.1 s.2.2.2.2.2.2.2.2.2.2.2.1 s.2.2.2.2.2.2.2.2.2.2.2.2.1 s.2.2.2.2.2.2.2.2.2.2.2.2.2.1 s.2.2.2.2.2.2.2.2.2.2.2.2.2.2.1 s.2.2.2.2.2.2.2.2.2.2.2.2.2.2.2.1 s.2.2.2.2.2.2.2.2.2.2.2.2.2.2.2.2.1 s.2.2.2.2.2.2.2.2.2.2.2.2.2.2.2.2.2.1 s.2.2.2.2.2.2.2.2.2.2.2.2.2.2.2.2.2.2.1 s.2.2.2.2.2.2.2.2.2.2.2.2.2.2.2.2.2.2.2, fun e h => (gN e 0, gF e 0, gS e 0, gN e 1, gF e 1, gS e 1, gN e 2, gF e 2, gS e 2, gN e 7, gF e 7, gS e 7, gP e 8, gN e 9, gF e 9, gS e 9, gN e 10, gF e 10, gS e 10, gI e 11), [], [0, 1, 2, 7, 8, 9, 10, 11], [], fun p => ∀ (n0 f0 : Bool) (s0 : LL) (n1 f1 : Bool) (s1 : LL) (n2 f2 : Bool) (s2 : LL) (n7 f7 : Bool) (s7 : LL) (x8 : PV) (n9 f9 : Bool) (s9 : LL) (n10 f10 : Bool) (s10 : LL) (x11 : Int), p (n0, f0, s0, n1, f1, s1, n2, f2, s2, n7, f7, s7, x8, n9, f9, s9, n10, f10, s10, x11), fun p h s => h s.1 s.2.1 s.2.2.1 s.2.2.2.1 s.2.2.2.2.1 s.2.2.2.2.2.1 s.2.2.2.2.2.2.1 s.2.2.2.2.2.2.2.1 s.2.2.2.2.2.2.2.2.1 s.2.2.2.2.2.2.2.2.2.1 s.2.2.2.2.2.2.2.2.2.2.1 s.2.2.2.2.2.2.2.2.2.2.2.1 s.2.2.2.2.2.2.2.2.2.2.2.2.1 s.2.2.2.2.2.2.2.2.2.2.2.2.2.1 s.2.2.2.2.2.2.2.2.2.2.2.2.2.2.1 s.2.2.2.2.2.2.2.2.2.2.2.2.2.2.2.1 s.2.2.2.2.2.2.2.2.2.2.2.2.2.2.2.2.1 s.2.2.2.2.2.2.2.2.2.2.2.2.2.2.2.2.2.1 s.2.2.2.2.2.2.2.2.2.2.2.2.2.2.2.2.2.2.1 s.2.2.2.2.2.2.2.2.2.2.2.2.2.2.2.2.2.2.2⟩ | _ => none) (Tryz.f6.body.getD .skip) [.sl n f es, .sl n2 f2 ss, .sl n3 f3 s3] R = _) h)

end Go.Eng


set_option linter.unusedSimpArgs false
namespace Go.Eng
open Go Go.Proofs Go.Eng.Rows Go.Eng.Trie Go.Eng.Srt
def dX (q : Nat × Nat) : List PV := [.int .i64 q.1, .int .i64 q.2]
theorem zis (q : Nat × Nat) : (dX q).length = 2 := rfl
def jV (rows : List Row) (P l : List Int) : Option (Nat × Nat) := findL rows l (bG rows P)
def bV (rows : List Row) (P L : List Int) : List (Nat × Nat) := if P = [] then [] else kW (jV rows P) L 0
section
variable {rows : List Row} {v : PV}
theorem ztc (hk : cT rows) {P : List Int} (h : P ≠ []) : bG rows P ≠ [] := fun e => by
 cases P with
 | nil => exact h rfl
 | cons r P =>
   obtain ⟨x, hx⟩ := List.exists_mem_of_ne_nil _ (yT rows 8 r)
   have := (zhe hk (l := r :: P) (x := x)).2 ⟨r, by simp, hx⟩
   rw [e] at this; cases this
theorem zaq (hk : cT rows) {P : List Int} (h : P ≠ []) : uD (jV rows P) := fun l a b hq => by
 have hs := zrw (rows := rows) (L := l) (want := bG rows P)
 unfold jV at hq
 rw [hq] at hs
 obtain ⟨h1, h2, h3, _⟩ := hs
 refine ⟨?_, h2⟩
 rcases Nat.lt_or_eq_of_le h1 with h4 | h4
 ·exact h4
 ·rw [<- h4, zhy (ztc hk h)] at h3; cases h3
theorem nT (hk : cT rows) (P L : List Int) : Inc L.length 0 (bV rows P L) := by
 unfold bV
 split
 ·exact Nat.zero_le _
 ·rename_i h; exact zil (zaq hk h) _ 0 (Nat.zero_le _)
theorem zit (q : Nat × Nat) : aM [dX q] 2 := pR (enc := dX) zis [q]
theorem R32.dr {l : List Int} (h : R32 l) (k : Nat) : R32 (l.drop k) := fun x hx => h x (List.mem_of_mem_drop hx)
theorem zar (l : List Int) (k : Nat) : (l.drop k).length <= l.length := by rw [List.length_drop]; omega
theorem zas (L : List Int) (k : Nat) : List.drop k (List.take ((aA L).length : Int).toNat (aA L)) = aA (L.drop k) := by
 rw [Int.toNat_natCast, List.take_of_length_le (Nat.le_refl _)]; simp [aA]
theorem zat {len : Nat} {i : Int} (h0 : 0 <= i) (h2 : i <= len) : dE len (some i) none none := ⟨h0, h2, Int.le_refl _, trivial⟩
theorem ziu (hp : bT rows) (hk : cT rows) (hv : fQ rows v) (n f n2 f2 : Bool) (L P : List Int) (hr : R32 L) (hL : L.length < 100000) (hr2 : R32 P) (hL2 : P.length < 1000000) :
 PCall Tryz.prog 26 [v, .sl n f (aA L), .sl n2 f2 (aA P)] fun x => ∃ n f, x = .sl n f ((bV rows P L).map dX) := by
 have hv' := hv
 obtain ⟨tc, tg, tj, tf, tp, made, sec, rfl, ht, hm⟩ := hv
 refine zs7 _ _ _ _ _ _ _ _ _ _ _ _ _ (fun x _ s => ∃ (i : Nat) (out : List (Nat × Nat)), x = i /\ s = out.map dX /\ i <= L.length /\ out ++ kW (jV rows P) L i = bV rows P L) (fun x _ _ => L.length - x.toNat) ?_
 unfold zim
 refine aF (fun hc => ?_) (fun hc => ?_)
 ·simp only [beq_iff_eq, aU] at hc
  have : P = [] := List.eq_nil_of_length_eq_zero (by omega)
  unfold bV; rw [if_pos this]; exact ⟨_, _, rfl⟩
 simp only [beq_iff_eq, aU] at hc
 have hP : P ≠ [] := fun e => by rw [e] at hc; exact hc rfl
 have hok := zaq hk hP
 have hlen := (nT (rows := rows) hk P L).len
 refine ⟨⟨rfl, 0, [], rfl, rfl, Nat.zero_le _, by unfold bV; rw [if_neg hP]; rfl⟩, ?_⟩
 rintro _ n0 _ ⟨i, out, rfl, rfl, hi, hout⟩
 rw [Int.toNat_natCast, zas]
 refine ⟨⟨zat (by omega) (by rw [aU]; omega), cR _⟩, ?_⟩
 have hdl := zar L i
 refine (zaj hp hk hv' _ _ n2 f2 (L.drop i) P (hr.dr i) (by omega) hr2 hL2).mono ?_
 rintro _ rfl
 cases hq : findL rows (L.drop i) (bG rows P) with
 | none =>
   refine ⟨_, rfl, rfl, _, rfl, _, rfl, _, rfl, _, rfl, _, rfl, _, rfl, bE rfl ?_⟩
   rw [zij (p := jV rows P) hq, List.append_nil] at hout
   rw [hout]; exact ⟨_, _, rfl⟩
 | some q =>
   obtain ⟨a, b⟩ := q
   have hab := hok _ _ _ hq
   rw [List.length_drop] at hab
   have hw1 : i64.wrap ((i : Int) + (a : Int)) = ((i + a : Nat) : Int) := by rw [aD (by omega) (by omega)]; omega
   have hw2 : i64.wrap ((i : Int) + (b : Int)) = ((i + b : Nat) : Int) := by rw [aD (by omega) (by omega)]; omega
   refine ⟨_, rfl, rfl, _, rfl, _, rfl, _, rfl, _, rfl, _, rfl, _, rfl, bD (by simp) ?_⟩
   rw [hw1, hw2]
   rw [zik (p := jV rows P) hok hq] at hout
   have hol : out.length <= L.length := by
    have := congrArg List.length hout
    rw [List.length_append] at this; omega
   refine ⟨⟨zit (i + a, i + b), by rw [List.length_map]; omega⟩, rfl, ⟨i + b, out ++ [(i + a, i + b)], rfl, by rw [List.map_append]; rfl, by omega, by rw [List.append_assoc]; exact hout⟩, by dsimp only; omega⟩
theorem ziv (hp : bT rows) (hk : cT rows) (n f n2 f2 n3 f3 : Bool) (hl : rows.length < 1000000) (L P : List Int) (hr : R32 L) (hL : L.length < 100000) (hr2 : R32 P) (hL2 : P.length < 1000000) :
 PCall Tryz.prog 27 [.sl n f (a7 rows), .sl n2 f2 (aA L), .sl n3 f3 (aA P)] fun x => ∃ n f, x = .sl n f ((bV rows P L).map dX) := by
 refine zs9 _ _ _ _ _ _ _ _ _ (fun x _ s => ∃ (i : Nat) (out : List (Nat × Nat)), x = i /\ s = out.map dX /\ i <= L.length /\ out ++ (if P = [] then [] else kW (jV rows P) L i) = bV rows P L) (fun x _ _ => L.length - x.toNat) ?_
 unfold zio
 have hlen := (nT (rows := rows) hk P L).len
 refine ⟨⟨rfl, 0, [], rfl, rfl, Nat.zero_le _, rfl⟩, ?_⟩
 rintro _ n0 _ ⟨i, out, rfl, rfl, hi, hout⟩
 refine aF (fun hc => ?_) (fun hc => ?_)
 ·simp only [decide_eq_true_eq, aU, gt_iff_lt] at hc
  have hP : P ≠ [] := fun e => by rw [e] at hc; exact absurd hc (by simp)
  have hok := zaq hk hP
  rw [if_neg hP] at hout
  rw [Int.toNat_natCast, zas]
  refine ⟨⟨zat (by omega) (by rw [aU]; omega), cR _⟩, ?_⟩
  have hdl := zar L i
  refine (zsg hp hk _ _ _ _ n3 f3 hl (L.drop i) P (hr.dr i) (by omega) hr2 hL2).mono ?_
  rintro _ rfl
  cases hq : findL rows (L.drop i) (bG rows P) with
  | none =>
    refine ⟨_, rfl, rfl, _, rfl, _, rfl, _, rfl, _, rfl, _, rfl, _, rfl, bE rfl ?_⟩
    rw [zij (p := jV rows P) hq, List.append_nil] at hout
    rw [hout]; exact ⟨_, _, rfl⟩
  | some q =>
    obtain ⟨a, b⟩ := q
    have hab := hok _ _ _ hq
    rw [List.length_drop] at hab
    have hw1 : i64.wrap ((i : Int) + (a : Int)) = ((i + a : Nat) : Int) := by rw [aD (by omega) (by omega)]; omega
    have hw2 : i64.wrap ((i : Int) + (b : Int)) = ((i + b : Nat) : Int) := by rw [aD (by omega) (by omega)]; omega
    refine ⟨_, rfl, rfl, _, rfl, _, rfl, _, rfl, _, rfl, _, rfl, _, rfl, bD (by simp) ?_⟩
    rw [hw1, hw2]
    rw [zik (p := jV rows P) hok hq] at hout
    have hol : out.length <= L.length := by
     have := congrArg List.length hout
     rw [List.length_append] at this; omega
    refine ⟨⟨zit (i + a, i + b), by rw [List.length_map]; omega⟩, rfl, ⟨i + b, out ++ [(i + a, i + b)], rfl, by rw [List.map_append]; rfl, by omega, by rw [if_neg hP, List.append_assoc]; exact hout⟩, by dsimp only; omega⟩
 ·simp only [decide_eq_true_eq, aU, gt_iff_lt] at hc
  have hP : P = [] := List.eq_nil_of_length_eq_zero (by omega)
  rw [if_pos hP, List.append_nil] at hout
  rw [hout]; exact ⟨_, _, rfl⟩
theorem zau {L w : List Int} : ∀ {ps : List (Nat × Nat)} {i : Nat}, ∀ x ∈ cE L w i ps, x ∈ L ∨ x ∈ w
 | [], i, x, h => .inl (List.mem_of_mem_drop h)
 | (a, b) :: ps, i, x, h => by
   rw [cE] at h
   rcases List.mem_append.1 h with h | h
   ·exact .inl (List.mem_of_mem_take (List.mem_of_mem_drop h))
   ·rcases List.mem_append.1 h with h | h
    ·exact .inr h
    ·exact zau x h
theorem zav {A : List (Nat × Nat)} {i : Nat} (h : i < A.length) : aK (A.map dX) (i : Int) 2 /\ (A.map dX).getD (i : Int).toNat [] = dX A[i] := by
 refine ⟨bQ (enc := dX) zis (by omega) (by omega), ?_⟩
 rw [Int.toNat_natCast]; exact cG h
theorem ztd {A : List (Nat × Nat)} {i : Nat} (h : i < A.length) : A.drop i = A[i] :: A.drop (i + 1) := List.drop_eq_getElem_cons h
theorem zte {len : Nat} {i j : Int} (h0 : 0 <= i) (h1 : i <= j) (h2 : j <= len) : dE len (some i) (some j) none := ⟨h0, h1, h2, trivial⟩
theorem ztf (L : List Int) (i j : Nat) : List.drop i (List.take j (aA L)) = aA (cW L i j) := by simp [aA, cW]
theorem zaw {a b : Nat} (ha : a < 1000) (hb : b < 1000) : a * (b + 1) < 1000000 := by
 have : a * (b + 1) <= 999 * 1000 := Nat.mul_le_mul (by omega) (by omega)
 omega
theorem ztg (hp : bT rows) (h1 : dP rows) (hk : cT rows) (hv : fQ rows v) (n f n2 f2 n3 f3 : Bool) (L P W : List Int) (hr : R32 L) (hL : L.length < 1000) (hr2 : R32 P) (hL2 : P.length < 1000) (hr3 : R32 W) (hL3 : W.length < 1000) :
 PCall Tryz.prog 28 [v, .sl n f (aA L), .sl n2 f2 (aA P), .sl n3 f3 (aA W)] fun x => ∃ n f, x = .tup [.sl n f (aA (qH rows (cE L W 0 (bV rows P L)))), .int .i64 (bV rows P L).length] := by
 have hv' := hv
 obtain ⟨tc, tg, tj, tf, tp, made, sec, rfl, ht, hm⟩ := hv
 have hinc := nT (rows := rows) hk P L
 refine zs8 _ _ _ _ _ _ _ _ _ _ _ _ _ _ _ _
  (fun x11 _ _ s12 _ _ s19 x20 x21 _ s => s12 = (bV rows P L).map dX /\ s19 = (bV rows P L).map dX /\ x20 = (bV rows P L).length /\ ∃ (a i : Nat) (out : List Int), x11 = a /\ x21 = i /\ i <= (bV rows P L).length /\ s = aA out /\ Inc L.length a ((bV rows P L).drop i) /\ out ++ cE L W a ((bV rows P L).drop i) = cE L W 0 (bV rows P L))
  (fun _ _ _ _ _ _ _ _ x21 _ _ => (bV rows P L).length - x21.toNat) ?_
 unfold zin
 refine (ziu hp hk hv' n f n2 f2 L P hr (by omega) hr2 (by omega)).mono ?_
 rintro _ ⟨n1, f1, rfl⟩
 generalize bV rows P L = A at *
 have hbd : (cE L W 0 A).length < 1000000 := Nat.lt_of_le_of_lt (uE hinc) (zaw (by omega) (by omega))
 have hal := hinc.len
 refine ⟨_, _, _, rfl, ⟨rfl, rfl, rfl, by rw [List.length_map], 0, 0, [], rfl, rfl, Nat.zero_le _, rfl, hinc, rfl⟩, ?_⟩
 rintro _ n12 f12 _ n19 f19 _ _ _ n0 _ ⟨rfl, rfl, rfl, a, i, out, rfl, rfl, hi, rfl, hin, hout⟩
 have hol : out.length < 1000000 := by
  have := congrArg List.length hout
  rw [List.length_append] at this; omega
 refine aF (fun hc => ?_) (fun hc => ?_)
 ·simp only [decide_eq_true_eq] at hc
  have hi' : i < A.length := by omega
  obtain ⟨g1, g2⟩ := zav hi'
  rw [ztd hi'] at hin hout
  rcases hA : A[i] with ⟨p, q⟩
  rw [hA] at hin hout
  obtain ⟨i1, i2, i3⟩ := hin
  have := i3.le
  have hw : i64.wrap ((i : Int) + 1) = ((i + 1 : Nat) : Int) := by rw [aD (by omega) (by omega)]; omega
  have e1 : List.drop (a : Int).toNat (List.take (p : Int).toNat (aA L)) = aA (cW L a p) := by rw [Int.toNat_natCast, Int.toNat_natCast, ztf]
  have hsl := zad L a p
  rw [cE, <- List.append_assoc, <- List.append_assoc] at hout
  refine ⟨g1, p, by rw [g2, hA]; rfl, q, by rw [g2, hA]; rfl, ⟨rfl, by omega⟩, ⟨by omega, by decide⟩, p, rfl, ⟨zte (by omega) (by omega) (by rw [aU]; omega), cR _⟩, ?_⟩
  rw [e1, hw]
  refine ⟨⟨cR _, by rw [aU, aU]; omega⟩, ⟨cR _, by rw [List.length_append, aU, aU, aU]; omega⟩, ⟨by omega, by decide⟩, q, rfl, rfl, ⟨rfl, rfl, rfl, q, i + 1, out ++ cW L a p ++ W, rfl, rfl, hi', by rw [eJ, eJ], i3, hout⟩, by dsimp only; omega⟩
 ·simp only [decide_eq_true_eq] at hc
  have hie : A.drop i = [] := List.drop_eq_nil_of_le (by omega)
  rw [hie, cE] at hout
  rw [hie] at hin
  have hal2 : a <= L.length := hin
  rw [Int.toNat_natCast, zas]
  have hdl := zar L a
  refine ⟨⟨zat (by omega) (by rw [aU]; omega), cR _⟩, ⟨cR _, by rw [aU, aU]; omega⟩, ?_⟩
  rw [<- eJ, hout]
  refine (zru hp h1 hk hv' _ _ (cE L W 0 A) (fun x hx => (zau x hx).elim (hr x) (hr3 x)) hbd).mono ?_
  rintro _ ⟨n5, f5, rfl⟩
  exact ⟨_, _, _, rfl, n5, f5, by rw [List.length_map]⟩
theorem zth (hp : bT rows) (h1 : dP rows) (hk : cT rows) (hs0 : ∀ (d : List Int) a, (bC rows d).s = some a -> aC rows 1 a = 0) (n f n2 f2 n3 f3 n4 f4 : Bool) (hl : rows.length < 1000000) (L P W : List Int) (hr : R32 L) (hL : L.length < 1000) (hr2 : R32 P) (hL2 : P.length < 1000) (hr3 : R32 W) (hL3 : W.length < 1000) :
 PCall Tryz.prog 29 [.sl n f (a7 rows), .sl n2 f2 (aA L), .sl n3 f3 (aA P), .sl n4 f4 (aA W)] fun x => ∃ n f, x = .sl n f (aA (qH rows (cE L W 0 (bV rows P L)))) := by
 have hinc := nT (rows := rows) hk P L
 refine zta _ _ _ _ _ _ _ _ _ _ _ _
  (fun _ _ s9 x _ s => s9 = (bV rows P L).map dX /\ ∃ (i : Nat) (out : List Int) (done ps : List (Nat × Nat)), x = i /\ s = aA out /\ bV rows P L = done ++ ps /\ (∀ q ∈ done, q.1 < i) /\ Inc L.length i ps /\ out ++ cE L W i ps = cE L W 0 (bV rows P L)) (fun _ _ _ x _ _ => L.length - x.toNat)
  (fun _ _ _ y _ _ t _ _ s9 x k _ s => y = x /\ t = s /\ s9 = (bV rows P L).map dX /\ 0 <= x /\ x < L.length /\ 0 <= k /\ k <= (bV rows P L).length /\ ∀ (j : Nat) (h : j < (bV rows P L).length), j < k.toNat -> ((bV rows P L)[j].1 : Int) ≠ x) (fun _ _ _ _ k _ _ => (bV rows P L).length - k.toNat) ?_
 unfold ziq
 refine (ziv hp hk n f n2 f2 n3 f3 hl L P hr (by omega) hr2 (by omega)).mono ?_
 rintro _ ⟨n1, f1, rfl⟩
 generalize bV rows P L = A at *
 have hbd : (cE L W 0 A).length < 1000000 := Nat.lt_of_le_of_lt (uE hinc) (zaw (by omega) (by omega))
 have hal := hinc.len
 refine ⟨_, _, _, rfl, ⟨rfl, rfl, 0, [], [], A, rfl, rfl, rfl, (fun q hq => by cases hq), hinc, rfl⟩, ?_⟩
 rintro n9 f9 _ _ n0 _ ⟨rfl, i, out, done, ps, rfl, rfl, hA, hdone, hin, hout⟩
 have hol : out.length < 1000000 := by
  have := congrArg List.length hout
  rw [List.length_append] at this; omega
 refine aF (fun hc => ?_) (fun hc => ?_)
 ·simp only [decide_eq_true_eq, aU] at hc
  refine ⟨⟨rfl, rfl, rfl, rfl, by omega, hc, Int.le_refl _, by omega, fun j _ hj => absurd hj (by simp)⟩, ?_⟩
  rintro n91 f91 _ _ k n01 _ ⟨rfl, rfl, rfl, _, _, k0, k1, hno⟩
  have hlm : (((A.map dX).length : Nat) : Int) = A.length := by rw [List.length_map]
  rw [hlm]
  obtain ⟨k, rfl⟩ := Int.eq_ofNat_of_zero_le k0
  rw [Int.toNat_natCast] at hno
  have hlast : ∀ hk' : k < A.length, A[k].1 = i -> ∃ b ps', ps = (i, b) :: ps' /\ A[k] = (i, b) /\ (∀ q ∈ done ++ [(i, b)], q.1 < b) /\ Inc L.length b ps' /\ i < b := fun hk' he => by
   have hkd : done.length <= k := by
    rcases Nat.lt_or_ge k done.length with h | h
    ·have h2 : A[k] ∈ done := by simp only [hA]; rw [List.getElem_append_left h]; exact List.getElem_mem h
     have := hdone _ h2; omega
    ·exact h
   have hps : A[k] = ps[k - done.length]'(by rw [hA, List.length_append] at hk'; omega) := by simp only [hA]; rw [List.getElem_append_right hkd]
   cases ps with
   | nil => rw [hA, List.append_nil] at hk'; omega
   | cons q ps' =>
     obtain ⟨x, b⟩ := q
     obtain ⟨j1, j2, j3⟩ := hin
     have hz : k - done.length = 0 := by
      cases hz : k - done.length with
      | zero => rfl
      | succ z =>
        have e2 : A[k] = ps'[z]'(by rw [hA, List.length_append, List.length_cons] at hk'; omega) := by rw [hps]; simp only [hz, List.getElem_cons_succ]
        have := (j3.above _ (List.getElem_mem (l := ps') (n := z) (by rw [hA, List.length_append, List.length_cons] at hk'; omega))).1
        rw [<- e2] at this; omega
     have e3 : A[k] = (x, b) := by rw [hps]; simp only [hz, List.getElem_cons_zero]
     rw [e3] at he
     have he' : x = i := he
     subst he'
     refine ⟨b, ps', rfl, e3, fun q hq => ?_, j3, j2⟩
     rcases List.mem_append.1 hq with hq | hq
     ·have := hdone q hq; omega
     ·rw [List.mem_singleton.1 hq]; exact j2
  have hgo : ∀ (hk' : k < A.length), A[k].1 = i -> ∃ b ps', A[k] = (i, b) /\ A = (done ++ [(i, b)]) ++ ps' /\ (∀ q ∈ done ++ [(i, b)], q.1 < b) /\ Inc L.length b ps' /\ (out ++ W) ++ cE L W b ps' = cE L W 0 A /\ i < b := fun hk' he => by
   obtain ⟨b, ps', e1, e2, e3, e4, e5⟩ := hlast hk' he
   refine ⟨b, ps', e2, by rw [hA, e1, List.append_assoc]; rfl, e3, e4, ?_, e5⟩
   rw [e1, cE, zs5] at hout
   rw [List.append_assoc]; exact hout
  have hstop : ¬ k < A.length -> Inc L.length (i + 1) ps /\ (out ++ [L.getD i 0]) ++ cE L W (i + 1) ps = cE L W 0 A := fun hk' => by
   have hinc' : Inc L.length (i + 1) ps := by
    cases ps with
    | nil => exact (by omega : i + 1 <= L.length)
    | cons q ps' =>
      obtain ⟨x, b⟩ := q
      obtain ⟨j1, j2, j3⟩ := hin
      have hlt : done.length < A.length := by rw [hA, List.length_append, List.length_cons]; omega
      have := hno done.length hlt (by omega)
      have e : A[done.length] = (x, b) := by simp only [hA]; rw [List.getElem_append_right (Nat.le_refl _)]; simp only [Nat.sub_self, List.getElem_cons_zero]
      rw [e] at this
      have : (x : Int) ≠ i := this
      exact ⟨by omega, j2, j3⟩
   refine ⟨hinc', ?_⟩
   rw [zs6 (by omega) hinc'] at hout
   rw [List.append_assoc]; exact hout
  have hwi : i64.wrap ((i : Int) + 1) = ((i + 1 : Nat) : Int) := by rw [aD (by omega) (by omega)]; omega
  have hwk : i64.wrap ((k : Int) + 1) = ((k + 1 : Nat) : Int) := by rw [aD (by omega) (by omega)]; omega
  rw [hwi, hwk]
  refine aF (fun hc2 => ?_) (fun hc2 => ?_)
  ·simp only [decide_eq_true_eq] at hc2
   have hk' : k < A.length := by omega
   obtain ⟨g1, g2⟩ := zav hk'
   refine ⟨g1, ⟨by omega, by decide⟩, A[k].1, by rw [g2]; rfl, aF (fun hc3 => ?_) (fun hc3 => ?_)⟩
   ·simp only [bne_iff_ne, ne_eq] at hc3
    refine ⟨rfl, ⟨rfl, rfl, rfl, by omega, hc, by omega, by omega, fun j hj hj2 => ?_⟩, by dsimp only; omega⟩
    rw [Int.toNat_natCast] at hj2
    rcases Nat.lt_or_ge j k with h | h
    ·exact hno j hj h
    ·have : j = k := by omega
     subst this; exact hc3
   ·have hc3 : ((A[k].1 : Nat) : Int) = i := by simpa using hc3
    obtain ⟨b, ps', e1, e2, e3, e4, e5, e6⟩ := hgo hk' (by omega)
    refine bE (by simpa using hc2) ⟨⟨cR _, by rw [aU, aU]; omega⟩, g1, ⟨by omega, by decide⟩, b, by rw [g2, e1]; rfl, rfl, ⟨rfl, b, out ++ W, done ++ [(i, b)], ps', rfl, by rw [eJ], e2, e3, e4, e5⟩, ?_⟩
    dsimp only
    have := e4.le
    omega
  ·simp only [decide_eq_true_eq] at hc2
   obtain ⟨f1', f2'⟩ := hstop (by omega)
   obtain ⟨g1, g2⟩ := eW (l := L) (i := (i : Int)) (by omega) (by omega)
   have eg : L.getD i 0 = L[(i : Int).toNat]'(by omega) := by simp [List.getD, show i < L.length by omega]
   refine bD (by simpa using hc2) ⟨g1, L.getD i 0, by rw [g2, eg]; rfl, ⟨cR [L.getD i 0], by rw [aU]; omega⟩, rfl, ⟨rfl, i + 1, out ++ [L.getD i 0], done, ps, rfl, by rw [eJ]; rfl, hA, fun q hq => by have := hdone q hq; omega, f1', f2'⟩, by dsimp only; omega⟩
 ·simp only [decide_eq_true_eq, aU] at hc
  have hil := hin.le
  have hps : ps = [] := by
   cases ps with
   | nil => rfl
   | cons q ps' => obtain ⟨x, b⟩ := q; obtain ⟨j1, j2, j3⟩ := hin; have := j3.le; omega
  rw [hps, cE, List.drop_eq_nil_of_le (by omega), List.append_nil] at hout
  rw [hout]
  refine (zsz hp h1 hk hs0 _ _ _ _ hl (cE L W 0 A) (fun x hx => (zau x hx).elim (hr x) (hr3 x)) hbd).mono ?_
  rintro _ ⟨n5, f5, rfl⟩
  exact ⟨_, _, _, rfl, n5, f5, rfl⟩
end
theorem zti (n f : Bool) (l : List Int) (hr : R32 l) (n2 f2 : Bool) (p : List Int) (hr2 : R32 p) (n3 f3 : Bool) (w : List Int) (hr3 : R32 w) : PCall Tryz.prog 6 [.sl n f (aA l), .sl n2 f2 (aA p), .sl n3 f3 (aA w)] fun v => v = .bool true := by
 refine ztb _ _ _ _ _ _ _ _ _ (fun _ _ s0 _ _ s1 _ _ s2 _ _ s7 x8 _ _ s9 _ _ s10 x11 => s0 = aA (l.take 14) /\ s1 = aA (p.take 5) /\ s2 = aA (w.take 10) /\ s7 = a7 tab /\ fQ tab x8 /\ s9 = (bV tab (p.take 5) (l.take 14)).map dX /\ s10 = (bV tab (p.take 5) (l.take 14)).map dX /\ 0 <= x11 /\ x11 <= (bV tab (p.take 5) (l.take 14)).length) (fun _ _ _ _ _ _ _ _ _ _ _ _ _ _ _ _ _ _ _ x11 => (bV tab (p.take 5) (l.take 14)).length - x11.toNat) ?_
 unfold zir
 refine (zN n f l 14 (by omega)).mono ?_
 rintro _ ⟨n1, f1, rfl⟩
 refine ⟨_, _, _, rfl, ?_⟩
 refine (zN n2 f2 p 5 (by omega)).mono ?_
 rintro _ ⟨n4, f4, rfl⟩
 refine ⟨_, _, _, rfl, ?_⟩
 refine (zN n3 f3 w 10 (by omega)).mono ?_
 rintro _ ⟨n5, f5, rfl⟩
 refine ⟨_, _, _, rfl, ?_⟩
 refine p42.mono ?_
 rintro _ ⟨n6, f6, rfl⟩
 refine ⟨_, _, _, rfl, ?_⟩
 refine (zhh n6 f6).mono fun t ht => ?_
 have ll := zac l 14
 have lp := zac p 5
 have lw := zac w 10
 have rl := hr.take 14
 have rp := hr2.take 5
 have rw' := hr3.take 10
 generalize l.take 14 = l at *
 generalize p.take 5 = p at *
 generalize w.take 10 = w at *
 have hlen := (nT (rows := tab) jS p l).len
 refine (ziu mF jS ht _ _ _ _ l p rl (by omega) rp (by omega)).mono ?_
 rintro _ ⟨n7, f7, rfl⟩
 refine ⟨_, _, _, rfl, ?_⟩
 refine (ziv mF jS _ _ _ _ _ _ zQ l p rl (by omega) rp (by omega)).mono ?_
 rintro _ ⟨n8, f8, rfl⟩
 refine ⟨_, _, _, rfl, bD (by simp) ⟨⟨rfl, rfl, rfl, rfl, rfl, ht, rfl, rfl, Int.le_refl _, by omega⟩, ?_⟩⟩
 clear ht t
 rintro m0 g0 _ m1 g1 _ m2 g2 _ m7 g7 _ t m9 g9 _ m10 g10 _ i ⟨rfl, rfl, rfl, rfl, ht, rfl, rfl, i0, i1⟩
 refine aF (fun hc => ?_) (fun hc => ?_)
 ·simp only [decide_eq_true_eq, List.length_map] at hc
  obtain ⟨i, rfl⟩ := Int.eq_ofNat_of_zero_le i0
  obtain ⟨h1, h2⟩ := zav (A := bV tab p l) (i := i) (by omega)
  have hw : i64.wrap ((i : Int) + 1) = (i : Int) + 1 := aD (by omega) (by omega)
  rw [hw]
  refine ⟨h1, _, by rw [h2]; rfl, _, by rw [h2]; rfl, h1, _, by rw [h2]; rfl, _, by rw [h2]; rfl, bD (by simp) ⟨rfl, ⟨rfl, rfl, rfl, rfl, ht, rfl, rfl, by omega, by omega⟩, by dsimp only; omega⟩⟩
 ·refine (ztg mF zL jS ht _ _ _ _ _ _ l p w rl (by omega) rp (by omega) rw' (by omega)).mono ?_
  rintro _ ⟨n9, f9, rfl⟩
  refine ⟨_, rfl, rfl, _, rfl, _, _, _, rfl, _, rfl, _, rfl, bE (by simp) ?_⟩
  refine (zth mF zL jS zs3 _ _ _ _ _ _ _ _ zQ l p w rl (by omega) rp (by omega) rw' (by omega)).mono ?_
  rintro _ ⟨n10, f10, rfl⟩
  refine ⟨_, _, _, rfl, ?_⟩
  have hbd := uE (w := w) (nT (rows := tab) jS p l)
  have hm : (l.length - 0) * (w.length + 1) < 1000000 := zaw (by omega) (by omega)
  have hnc := zrv jS (cE l w 0 (bV tab p l))
  refine (zr2 _ _ _ _ _ _ (by omega)).mono ?_
  rintro _ rfl
  refine ⟨_, rfl, bE (by simp) ?_⟩
  refine awake21.mono ?_
  rintro _ rfl
  exact ⟨_, rfl, rfl⟩
theorem lawFindAll {pvs : List PV} (h : pQ Tryz.prog 8 Tryz.f6.params.toList pvs) : PCall Tryz.prog 6 pvs fun v => v = .bool true := by
 obtain ⟨v0, r0, rfl, h0, v1, r1, rfl, h1, v2, r2, rfl, h2, rfl⟩ : pQ Tryz.prog 8 [23, 23, 23] pvs := h
 obtain ⟨nl, l, rfl, hr⟩ := z7 h0
 obtain ⟨nl2, p, rfl, hr2⟩ := z7 h1
 obtain ⟨nl3, w, rfl, hr3⟩ := z7 h2
 exact zti _ _ l hr _ _ p hr2 _ _ w hr3
end Go.Eng


