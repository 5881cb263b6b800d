/- States run over the code: what each function gives, and what follows. -/
import Derived.Test.YtalmenopiaakhaaGreatLdTc
open Go.IntKind (i64 i32)
set_option linter.unusedVariables false
set_option maxRecDepth 100000
set_option linter.constructorNameAsVariable false
namespace Go.Eng
open Go Go.Proofs
def zi3 (a b : Int) (R : PV -> Prop) : Prop :=
 if (decide (a >= 4352) && decide (a <= 4370) && decide (b >= 4449) && decide (b <= 4469)) = true then R (PV.tup [Z3 (i32.wrap (i64.wrap (i64.wrap ((44032 : Int) + i64.wrap (i64.wrap (i64.wrap a -
 4352) * 588)) + i64.wrap (i64.wrap (i64.wrap b - 4449) * 28)))), Zb true]) else ACall Tryz.prog 126 [LV.pv (Z3 a)] [] fun (r : LV) (h' : Hp) => (∃ (t : Bool × LL), (r = LV.own 0 /\ h' = [Ob.sl (21, 1) true t.fst
 t.snd]) /\ True /\ if ((↑t.snd.length : Int) == 2 && decide (b >= 4520) && decide (b <= 4546)) = true then R (PV.tup [Z3 (i32.wrap (a + i32.wrap (b - 4519))), Zb true]) else R (PV.tup [Z3 0, Zb false])) ∨ ∃ (t : Bool × LL), (r =
 LV.pv (PV.sl t.fst true t.snd) /\ h' = []) /\ True /\ if ((↑t.snd.length : Int) == 2 && decide (b >= 4520) && decide (b <= 4546)) = true then R (PV.tup [Z3 (i32.wrap (a + i32.wrap (b - 4519))), Zb true]) else R (PV.tup [Z3 0, Zb
 false])
theorem ztp (a b : Int) {R : PV -> Prop} (h : zi3 a b R) : PCall Tryz.prog 123 [.int .i32 a, .int .i32 b] R :=
 PCall.of Tryz.func123 (by kernel_rfl) (by kernel_rfl) (zl (by kernel_rfl)) (Eq.mpr (by kernel_rfl : aQ Tryz.prog (fun zz_ => match zz_ with | 126 => some ⟨Bool × LL, fun _ hs t => (.own hs.length, hs ++ [.sl (21, 1) true t.1 t.2]), some ⟨Bool × LL, fun _ hs t => (.pv (.sl t.1 true t.2), hs)⟩⟩ | _ => none) Tryz.f123 [0, 1, 4, 5, 6, 20, 44] (fun _ => none) (Tryz.f123.body.getD .skip) [.int .i32 a, .int .i32 b] R = _) h)

def lC (n f : Bool) (es : LL) (a b : Int) (x8 : Int) (x9 : Bool) (x10 : Int) : Env × Hp := ([(0, LV.pv (PV.sl n f es)), (1, LV.pv (PV.int i32 a)), (2, LV.pv (PV.int i32 b)), (8, .pv (.int i32 x8)), (9, .pv (.bool x9)), (10, Y6 x10)], [])
def zi4 (n f : Bool) (es : LL) (a b : Int) (J : Int -> Bool -> Int -> Prop) (μ : Int -> Bool -> Int -> Nat) (R : PV -> Prop) : Prop :=
 (aB (lC n f es a b (0 : Int) false (0 : Int)) /\ J (0 : Int) false (0 : Int)) /\ ∀ (x8 : Int) (x9 : Bool) (x10 : Int), J x8 x9 x10 -> if decide (x10 < (↑es.length : Int)) = true then aJ es x10 5 /\ ∃ n1, (List.drop 0 (es.getD
 x10.toNat [])).head? = some (Z6 n1) /\ if (n1 != 2) = true then aB (lC n f es a b x8 x9 (i64.wrap (x10 + 1))) /\ J x8 x9 (i64.wrap (x10 + 1)) /\ μ x8 x9 (i64.wrap (x10 + 1)) < μ x8 x9 x10 else aJ es x10 5 /\ ∃
 (n2 : Int), (List.drop 3 (es.getD x10.toNat [])).head? = some (Z6 n2) /\ if (n2 != i64.wrap a) = true then aB (lC n f es a b x8 x9 (i64.wrap (x10 + 1))) /\ J x8 x9 (i64.wrap (x10 + 1)) /\ μ x8 x9
 (i64.wrap (x10 + 1)) < μ x8 x9 x10 else aJ es x10 5 /\ ∃ n3, (List.drop 4 (es.getD x10.toNat [])).head? = some (Z6 n3) /\ if (n3 != i64.wrap b || b == 0) = true then aB (lC n f es a b x8 x9 (i64.wrap
 (x10 + 1))) /\ J x8 x9 (i64.wrap (x10 + 1)) /\ μ x8 x9 (i64.wrap (x10 + 1)) < μ x8 x9 x10 else aJ es x10 5 /\ ∃ n4, (List.drop 1 (es.getD x10.toNat [])).head? = some (Z6 n4) /\ PCall Tryz.prog 127 [PV.sl n f es, Z3
 (i32.wrap n4)] fun v => ∃ vs, v = PV.tup vs /\ vs.length = 3 /\ ∃ x, vs.head? = some x /\ ∃ n5, x = Z3 n5 /\ ∃ x1, vs.tail.head? = some x1 /\ ∃ n6, x1 = Z3 n6 /\ ∃ (x2 : PV),
 vs.tail.tail.head? = some x2 /\ ∃ b1, x2 = Zb b1 /\ if (b1 && n5 == a && n6 == b) = true then PCall Tryz.prog 147 [PV.sl n f es, Z3 (i32.wrap n4)] fun v1 => ∃ b2, v1 = Zb b2 /\ if (!b2 && (!x9 || decide
 (i32.wrap n4 < x8))) = true then aB (lC n f es a b (i32.wrap n4) true (i64.wrap (x10 + 1))) /\ J (i32.wrap n4) true (i64.wrap (x10 + 1)) /\ μ (i32.wrap n4) true (i64.wrap (x10 +
 1)) < μ x8 x9 x10 else aB (lC n f es a b x8 x9 (i64.wrap (x10 + 1))) /\ J x8 x9 (i64.wrap (x10 + 1)) /\ μ x8 x9 (i64.wrap (x10 + 1)) < μ x8 x9 x10 else aB (lC n f es a b x8 x9 (i64.wrap (x10 +
 1))) /\ J x8 x9 (i64.wrap (x10 + 1)) /\ μ x8 x9 (i64.wrap (x10 + 1)) < μ x8 x9 x10 else R (PV.tup [Z3 x8, Zb x9])
theorem ztq (n f : Bool) (es : LL) (a b : Int) (J : Int -> Bool -> Int -> Prop) (μ : Int -> Bool -> Int -> Nat) {R : PV -> Prop} (h : zi4 n f es a b J μ R) : PCall Tryz.prog 124 [.sl n f es, .int .i32 a, .int .i32 b] R :=
 PCall.of Tryz.func124 (by kernel_rfl) (by kernel_rfl) (zl (by kernel_rfl)) (Eq.mpr (by kernel_rfl : aQ Tryz.prog (fun _ => none) Tryz.f124 [0, 1, 2, 6, 7, 8, 9, 10, 11, 12, 13, 14, 18, 50, 89] (fun zz_ => match zz_ with | 4 => some ⟨Int × Bool × Int, fun s => lC n f es a b s.1 s.2.1 s.2.2, fun _ s => J s.1 s.2.1 s.2.2, fun s => μ s.1 s.2.1 s.2.2, fun e h => (gI e 8, gB e 9, gI e 10), [], [0, 1, 2, 8, 9, 10], [], fun p => ∀ (x8 : Int) (x9 : Bool) (x10 : Int), p (x8, x9, x10), fun p h s => h s.1 s.2.1 s.2.2⟩ | _ => none) (Tryz.f124.body.getD .skip) [.sl n f es, .int .i32 a, .int .i32 b] R = _) h)

def zi5 (n f : Bool) (es : LL) (a b : Int) (R : PV -> Prop) : Prop :=
 PCall Tryz.prog 123 [Z3 a, Z3 b] fun v => ∃ vs, v = PV.tup vs /\ vs.length = 2 /\ ∃ x, vs.head? = some x /\ ∃ n1, x = Z3 n1 /\ ∃ x1, vs.tail.head? = some x1 /\ ∃ b1, x1 = Zb b1 /\ if b1 = true then
 R (PV.tup [Z3 n1, Zb true]) else PCall Tryz.prog 124 [PV.sl n f es, Z3 a, Z3 b] fun v1 => ∃ vs1, v1 = PV.tup vs1 /\ vs1.length = 2 /\ ∃ x2, vs1.head? = some x2 /\ ∃ n2, x2 = Z3 n2 /\ ∃ x3, vs1.tail.head?
 = some x3 /\ ∃ b2, x3 = Zb b2 /\ R (PV.tup [Z3 n2, Zb b2])
theorem ztr (n f : Bool) (es : LL) (a b : Int) {R : PV -> Prop} (h : zi5 n f es a b R) : PCall Tryz.prog 102 [.sl n f es, .int .i32 a, .int .i32 b] R :=
 PCall.of Tryz.func102 (by kernel_rfl) (by kernel_rfl) (zl (by kernel_rfl)) (Eq.mpr (by kernel_rfl : aQ Tryz.prog (fun _ => none) Tryz.f102 [0, 1, 2, 6, 7, 8, 9, 16] (fun _ => none) (Tryz.f102.body.getD .skip) [.sl n f es, .int .i32 a, .int .i32 b] R = _) h)

def zay (n f : Bool) (es : LL) (n2 f2 : Bool) (ss : LL) (x5 : Int) : Env × Hp := ([(0, LV.pv (PV.sl n f es)), (1, LV.pv (PV.sl n2 f2 ss)), (5, Y6 x5)], [])
def zi6 (n f : Bool) (es : LL) (n2 f2 : Bool) (ss : LL) (J : Int -> Prop) (μ : Int -> Nat) (R : PV -> Prop) : Prop :=
 (aB (zay n f es n2 f2 ss (i64.wrap ((↑ss.length : Int) - 1))) /\ J (i64.wrap ((↑ss.length : Int) - 1))) /\ ∀ (x5 : Int), J x5 -> if decide (x5 >= 0) = true then aJ ss x5 1 /\ ∃ n1, (ss.getD x5.toNat []).head? =
 some (Z3 n1) /\ PCall Tryz.prog 121 [PV.sl n f es, Z3 n1] fun v => ∃ n3, v = Z6 n3 /\ if (n3 == 0) = true then R (Z6 x5) else aB (zay n f es n2 f2 ss (i64.wrap (x5 - 1))) /\ J (i64.wrap (x5 - 1)) /\ μ
 (i64.wrap (x5 - 1)) < μ x5 else R (Z6 (-1 : Int))
theorem zts (n f : Bool) (es : LL) (n2 f2 : Bool) (ss : LL) (J : Int -> Prop) (μ : Int -> Nat) {R : PV -> Prop} (h : zi6 n f es n2 f2 ss J μ R) : PCall Tryz.prog 100 [.sl n f es, .sl n2 f2 ss] R :=
 PCall.of Tryz.func100 (by kernel_rfl) (by kernel_rfl) (zl (by kernel_rfl)) (Eq.mpr (by kernel_rfl : aQ Tryz.prog (fun _ => none) Tryz.f100 [0, 1, 4, 5, 10, 19] (fun zz_ => match zz_ with | 2 => some ⟨Int × Unit, fun s => zay n f es n2 f2 ss s.1, fun _ s => J s.1, fun s => μ s.1, fun e h => (((gI e 5), ())), [], [0, 1, 5], [], fun p => ∀ (x5 : Int), p (x5, ()), fun p h s => h s.1⟩ | _ => none) (Tryz.f100.body.getD .skip) [.sl n f es, .sl n2 f2 ss] R = _) h)

def zi7 (n f : Bool) (es : LL) (n2 f2 : Bool) (ss : LL) (k r : Int) (R : PV -> Prop) : Prop :=
 if (k == i64.wrap ((↑ss.length : Int) - 1)) = true then R (Zb true) else aJ ss (i64.wrap ((↑ss.length : Int) - 1)) 1 /\ ∃ n1, (ss.getD (i64.wrap ((↑ss.length : Int) - 1)).toNat []).head? = some (Z3 n1) /\
 PCall Tryz.prog 121 [PV.sl n f es, Z3 n1] fun v => ∃ n3, v = Z6 n3 /\ PCall Tryz.prog 121 [PV.sl n f es, Z3 r] fun v1 => ∃ n4, v1 = Z6 n4 /\ R (Zb (decide (n3 < n4)))
theorem ztt (n f : Bool) (es : LL) (n2 f2 : Bool) (ss : LL) (k r : Int) {R : PV -> Prop} (h : zi7 n f es n2 f2 ss k r R) : PCall Tryz.prog 101 [.sl n f es, .sl n2 f2 ss, .int .i64 k, .int .i32 r] R :=
 PCall.of Tryz.func101 (by kernel_rfl) (by kernel_rfl) (zl (by kernel_rfl)) (Eq.mpr (by kernel_rfl : aQ Tryz.prog (fun _ => none) Tryz.f101 [0, 1, 2, 3, 8, 13] (fun _ => none) (Tryz.f101.body.getD .skip) [.sl n f es, .sl n2 f2 ss, .int .i64 k, .int .i32 r] R = _) h)

def nW (n f : Bool) (es : LL) (n2 f2 : Bool) (ss : LL) (x6 : Int) (n_0 : Bool) (s_0 : LL) : Env × Hp := ([(0, LV.pv (PV.sl n f es)), (1, LV.pv (PV.sl n2 f2 ss)), (5, LV.own 0), (6, Y6 x6)], [.sl (21, 1) true n_0 s_0])
def zi8 (n f : Bool) (es : LL) (n2 f2 : Bool) (ss : LL) (J : Int -> Bool -> LL -> Prop) (μ : Int -> Bool -> LL -> Nat) (R : PV -> Prop) : Prop :=
 (aB (nW n f es n2 f2 ss (0 : Int) true []) /\ J (0 : Int) true []) /\ ∀ (x6 : Int) (n_0 : Bool) (s_0 : LL), J x6 n_0 s_0 -> if decide (x6 < (↑ss.length : Int)) = true then PCall Tryz.prog 100 [PV.sl n f es, PV.sl n_0 false s_0] fun (v :
 PV) => ∃ n1, v = Z6 n1 /\ true = true /\ if decide (n1 >= 0) = true then aJ ss x6 1 /\ ∃ n3, (ss.getD x6.toNat []).head? = some (Z3 n3) /\ PCall Tryz.prog 101 [PV.sl n f es, PV.sl n_0 false s_0, Z6 n1, Z3 n3] fun v1 => ∃
 (b : Bool), v1 = Zb b /\ true = true /\ if b = true then aJ s_0 n1 1 /\ ∃ n4, (List.drop 0 (s_0.getD n1.toNat [])).head? = some (Z3 n4) /\ aJ ss x6 1 /\ ∃ n5, (ss.getD x6.toNat []).head? = some (Z3 n5) /\ PCall Tryz.prog 102
 [PV.sl n f es, Z3 n4, Z3 n5] fun v2 => ∃ vs, v2 = PV.tup vs /\ vs.length = 2 /\ ∃ x, vs.head? = some x /\ ∃ n6, x = Z3 n6 /\ ∃ x1, vs.tail.head? = some x1 /\ ∃ b1, x1 = Zb b1 /\ if b1 = true then
 aJ s_0 n1 1 /\ (1 = 1 /\ 1 <= (s_0.getD n1.toNat []).length) /\ aB (nW n f es n2 f2 ss (i64.wrap (x6 + 1)) n_0 (s_0.set n1.toNat (Z3 n6 :: zq (List.drop 1 (s_0.getD n1.toNat []))))) /\ J
 (i64.wrap (x6 + 1)) n_0 (s_0.set n1.toNat (Z3 n6 :: zq (List.drop 1 (s_0.getD n1.toNat [])))) /\ μ (i64.wrap (x6 + 1)) n_0 (s_0.set n1.toNat (Z3 n6 :: zq (List.drop 1
 (s_0.getD n1.toNat [])))) < μ x6 n_0 s_0 else aJ ss x6 1 /\ ∃ n7, (ss.getD x6.toNat []).head? = some (Z3 n7) /\ (aM [[Z3 n7]] 1 /\ (s_0.length + 1) * 4 <= 140737488355328) /\ aB (nW n f es n2 f2 ss (i64.wrap (x6 + 1))
 (n_0 && false) (s_0 ++ [[Z3 n7]])) /\ J (i64.wrap (x6 + 1)) (n_0 && false) (s_0 ++ [[Z3 n7]]) /\ μ (i64.wrap (x6 + 1)) (n_0 && false) (s_0 ++ [[Z3 n7]]) < μ x6 n_0 s_0 else aJ ss x6 1 /\ ∃ n4, (ss.getD x6.toNat
 []).head? = some (Z3 n4) /\ (aM [[Z3 n4]] 1 /\ (s_0.length + 1) * 4 <= 140737488355328) /\ aB (nW n f es n2 f2 ss (i64.wrap (x6 + 1)) (n_0 && false) (s_0 ++ [[Z3 n4]])) /\ J (i64.wrap (x6 + 1)) (n_0 && false) (s_0 ++ [[Z3
 n4]]) /\ μ (i64.wrap (x6 + 1)) (n_0 && false) (s_0 ++ [[Z3 n4]]) < μ x6 n_0 s_0 else aJ ss x6 1 /\ ∃ n3, (ss.getD x6.toNat []).head? = some (Z3 n3) /\ (aM [[Z3 n3]] 1 /\ (s_0.length + 1) * 4 <= 140737488355328) /\ aB
 (nW n f es n2 f2 ss (i64.wrap (x6 + 1)) (n_0 && false) (s_0 ++ [[Z3 n3]])) /\ J (i64.wrap (x6 + 1)) (n_0 && false) (s_0 ++ [[Z3 n3]]) /\ μ (i64.wrap (x6 + 1)) (n_0 && false) (s_0 ++ [[Z3 n3]]) < μ x6 n_0 s_0 else R
 (PV.sl n_0 false s_0)
theorem ztu (n f : Bool) (es : LL) (n2 f2 : Bool) (ss : LL) (J : Int -> Bool -> LL -> Prop) (μ : Int -> Bool -> LL -> Nat) {R : PV -> Prop} (h : zi8 n f es n2 f2 ss J μ R) : PCall Tryz.prog 72 [.sl n f es, .sl n2 f2 ss] R :=
 PCall.of Tryz.func72 (by kernel_rfl) (by kernel_rfl) (zl (by kernel_rfl)) (Eq.mpr (by kernel_rfl : aQ Tryz.prog (fun _ => none) Tryz.f72 [0, 1, 4, 5, 6, 7, 8, 9, 13, 30, 44] (fun zz_ => match zz_ with | 3 => some ⟨Int × Bool × LL, fun s => nW n f es n2 f2 ss s.1 s.2.1 s.2.2, fun _ s => J s.1 s.2.1 s.2.2, fun s => μ s.1 s.2.1 s.2.2, fun e h => (gI e 6, oN h 0, oS h 0), [(5, 21, 1)], [0, 1, 5, 6], [], fun p => ∀ (x6 : Int) (n_0 : Bool) (s_0 : LL), p (x6, n_0, s_0), fun p h s => h s.1 s.2.1 s.2.2⟩ | _ => none) (Tryz.f72.body.getD .skip) [.sl n f es, .sl n2 f2 ss] R = _) h)

def zi9 (n f : Bool) (es : LL) (n2 f2 : Bool) (ss : LL) (R : PV -> Prop) : Prop :=
 PCall Tryz.prog 73 [PV.sl n f es, PV.sl n2 f2 ss] fun v => ∃ n1 f1 es1, v = PV.sl n1 f1 es1 /\ PCall Tryz.prog 72 [PV.sl n f es, PV.sl n1 f1 es1] fun v1 => ∃ n3 f3, ∃ (es2 :
 LL), v1 = PV.sl n3 f3 es2 /\ R (PV.sl n3 f3 es2)
theorem ztv (n f : Bool) (es : LL) (n2 f2 : Bool) (ss : LL) {R : PV -> Prop} (h : zi9 n f es n2 f2 ss R) : PCall Tryz.prog 34 [.sl n f es, .sl n2 f2 ss] R :=
 PCall.of Tryz.func34 (by kernel_rfl) (by kernel_rfl) (zl (by kernel_rfl)) (Eq.mpr (by kernel_rfl : aQ Tryz.prog (fun _ => none) Tryz.f34 [0, 1, 4] (fun _ => none) (Tryz.f34.body.getD .skip) [.sl n f es, .sl n2 f2 ss] R = _) h)

end Go.Eng


set_option linter.unusedSimpArgs false
namespace Go.Eng
open Go Go.Proofs Go.Eng.Rows Go.Eng.Trie Go.Eng.Srt
theorem ztw {r : Int} (hs : bG r = false) : ACall Tryz.prog 126 [.pv (.int .i32 r)] [] fun r1 h' => r1 = .pv (.sl true true []) /\ h' = [] := by
 refine zd9 _ ?_; unfold xL
 refine (pIs r).mono ?_
 rintro _ rfl
 refine ⟨_, rfl, ?_⟩
 rw [hs]
 exact a8 rfl ⟨rfl, rfl⟩
theorem ztx {a b : Int} (ha : -2147483648 <= a /\ a <= 2147483647) (hb : -2147483648 <= b /\ b <= 2147483647) : PCall Tryz.prog 123 [.int .i32 a, .int .i32 b] fun v => v = i6 (dP a b) := by
 refine ztp _ _ ?_; unfold zi3
 have wa : i64.wrap a = a := aD (by omega) (by omega)
 have wb : i64.wrap b = b := aD (by omega) (by omega)
 rw [wa, wb]
 refine aF (fun hc => ?_) (fun hc => ?_)
 ·simp only [Bool.and_eq_true, decide_eq_true_eq, ge_iff_le] at hc
  have w1 : i64.wrap (a - 4352) = a - 4352 := aD (by omega) (by omega)
  have w2 : i64.wrap ((a - 4352) * 588) = (a - 4352) * 588 := aD (by omega) (by omega)
  have w3 : i64.wrap (44032 + (a - 4352) * 588) = 44032 + (a - 4352) * 588 := aD (by omega) (by omega)
  have w4 : i64.wrap (b - 4449) = b - 4449 := aD (by omega) (by omega)
  have w5 : i64.wrap ((b - 4449) * 28) = (b - 4449) * 28 := aD (by omega) (by omega)
  rw [w1, w2, w3, w4, w5]
  have w6 : i64.wrap (44032 + (a - 4352) * 588 + (b - 4449) * 28) = 44032 + (a - 4352) * 588 + (b - 4449) * 28 := aD (by omega) (by omega)
  rw [w6]
  have w7 : i32.wrap (44032 + (a - 4352) * 588 + (b - 4449) * 28) = 44032 + (a - 4352) * 588 + (b - 4449) * 28 := cS (by omega) (by omega)
  rw [w7]
  unfold dP
  rw [if_pos (by omega)]
  simp only [i6]
  rw [show 44032 + (a - 4352) * 588 + (b - 4449) * 28 = 44032 + ((a - 4352) * 21 + (b - 4449)) * 28 by omega]
 ·simp only [Bool.and_eq_true, decide_eq_true_eq, ge_iff_le] at hc
  have hn : ¬ ((4352 <= a /\ a < 4371) /\ 4449 <= b /\ b < 4470) := by omega
  have fin : ∀ (l : List (List PV)), (((l.length : Int) = 2 ↔ (bG a = true /\ (a - 44032) % 28 = 0))) -> (if (((l.length : Int)) == 2 && decide (b >= 4520) && decide (b <= 4546)) = true then (PV.tup [.int .i32 (i32.wrap (a + i32.wrap (b - 4519))), .bool true] : PV) = i6 (dP a b) else (PV.tup [.int .i32 0, .bool false] : PV) = i6 (dP a b)) := fun l hl => by
   refine aF (fun h2 => ?_) (fun h2 => ?_)
   ·simp only [Bool.and_eq_true, decide_eq_true_eq, beq_iff_eq, ge_iff_le] at h2
    have hs := hl.1 h2.1.1
    have hr := hs.1
    simp only [bG, Bool.and_eq_true, decide_eq_true_eq] at hr
    have w1 : i32.wrap (b - 4519) = b - 4519 := cS (by omega) (by omega)
    have w2 : i32.wrap (a + (b - 4519)) = a + (b - 4519) := cS (by omega) (by omega)
    rw [w1, w2]
    unfold dP; rw [if_neg hn, if_pos ⟨hs, by omega, by omega⟩]; rfl
   ·simp only [Bool.and_eq_true, decide_eq_true_eq, beq_iff_eq, ge_iff_le] at h2
    unfold dP; rw [if_neg hn, if_neg (fun h => h2 ⟨⟨hl.2 h.1, by omega⟩, by omega⟩)]; rfl
  cases hs : bG a with
  | false =>
    refine (ztw hs).mono ?_
    rintro _ _ ⟨rfl, rfl⟩
    exact .inr ⟨(true, []), ⟨rfl, rfl⟩, trivial, fin [] (by rw [hs]; simp)⟩
  | true =>
    have hl : ((aA (dO a)).length : Int) = 2 ↔ (bG a = true /\ (a - 44032) % 28 = 0) := by
     rw [aX, hs]
     unfold dO
     split <;> simp [*]
    refine (zO hs).mono ?_
    rintro r1 h' (⟨nl, rfl, rfl⟩ | ⟨rfl, rfl⟩)
    ·exact .inl ⟨(nl, _), ⟨rfl, rfl⟩, trivial, fin _ hl⟩
    ·exact .inr ⟨(false, _), ⟨rfl, rfl⟩, trivial, fin _ hl⟩
section
variable {rows : List Row}
def nX (o : Option Int) : Int := o.getD 0
theorem zty (hp : bP rows) (h1 : cN rows) (n f : Bool) {a b : Int} (hl : rows.length < 1000000) (ha : -2147483648 <= a /\ a <= 2147483647) (hb : -2147483648 <= b /\ b <= 2147483647) :
 PCall Tryz.prog 124 [.sl n f (aY rows), .int .i32 a, .int .i32 b] fun v => v = i6 (jY rows a b) := by
 refine ztq _ _ _ _ _ (fun x8 x9 i => (0 <= i /\ i <= rows.length) /\ x8 = nX ((rows.take i.toNat).foldl (Rows.cmpS rows a b) none) /\ x9 = ((rows.take i.toNat).foldl (Rows.cmpS rows a b) none).isSome) (fun _ _ i => rows.length - i.toNat) ?_
 unfold zi4
 refine ⟨⟨rfl, ⟨Int.le_refl _, by omega⟩, rfl, rfl⟩, ?_⟩
 rintro x8 x9 i ⟨⟨i0, i1⟩, h8, h9⟩
 have wa : i64.wrap a = a := aD (by omega) (by omega)
 have wb : i64.wrap b = b := aD (by omega) (by omega)
 rw [wa, wb]
 refine aF (fun hc => ?_) (fun hc => ?_)
 ·simp only [decide_eq_true_eq, fF] at hc
  have hi : i.toNat < rows.length := by omega
  have hw : i64.wrap (i + 1) = i + 1 := aD (by omega) (by omega)
  have hg : (aY rows).getD i.toNat [] = kK rows[i.toNat] := cJ hi
  have hix : aJ (aY rows) i 5 := bU l6 i0 (by omega)
  have hmem := List.getElem_mem hi
  have hst : (rows.take (i + 1).toNat).foldl (Rows.cmpS rows a b) none = Rows.cmpS rows a b ((rows.take i.toNat).foldl (Rows.cmpS rows a b) none) rows[i.toNat] := by
   rw [show (i + 1).toNat = i.toNat + 1 by omega, c9 hi, List.foldl_append]; rfl
  rw [hw]
  generalize (rows.take i.toNat).foldl (Rows.cmpS rows a b) none = o at *
  generalize rows[i.toNat] = x at *
  have skip : dQ rows a b x = false -> (0 <= i + 1 /\ i + 1 <= rows.length) /\ x8 = nX ((rows.take (i + 1).toNat).foldl (Rows.cmpS rows a b) none) /\ x9 = ((rows.take (i + 1).toNat).foldl (Rows.cmpS rows a b) none).isSome := fun h => by
   rw [hst]; unfold Rows.cmpS; rw [h]; exact ⟨⟨by omega, by omega⟩, h8, h9⟩
  have hmu : rows.length - (i + 1).toNat < rows.length - i.toNat := by omega
  refine ⟨hix, x.kind, by rw [hg]; rfl, aF (fun c1 => ?_) (fun c1 => ?_)⟩
  ·simp only [bne_iff_ne, ne_eq] at c1
   exact ⟨rfl, skip (by simp [dQ, c1]), hmu⟩
  simp only [bne_iff_ne, ne_eq, Decidable.not_not] at c1
  refine ⟨hix, x.a, by rw [hg]; rfl, aF (fun c2 => ?_) (fun c2 => ?_)⟩
  ·simp only [bne_iff_ne, ne_eq] at c2
   exact ⟨rfl, skip (by simp [dQ, c2]), hmu⟩
  simp only [bne_iff_ne, ne_eq, Decidable.not_not] at c2
  refine ⟨hix, x.b, by rw [hg]; rfl, aF (fun c3 => ?_) (fun c3 => ?_)⟩
  ·simp only [Bool.or_eq_true, bne_iff_ne, ne_eq, beq_iff_eq] at c3
   refine ⟨rfl, skip ?_, hmu⟩
   rcases c3 with c3 | c3
   ·simp [dQ, c3]
   ·simp [dQ, c3]
  simp only [Bool.or_eq_true, bne_iff_ne, ne_eq, beq_iff_eq, not_or, Decidable.not_not] at c3
  obtain ⟨hpx, hfr⟩ := uL h1 hmem c1
  have wf : i32.wrap x.fr = x.fr := cS (by omega) (by omega)
  refine ⟨hix, x.fr, by rw [hg]; rfl, ?_⟩
  rw [wf]
  refine (tY hp n f x.fr hl (by omega)).mono ?_
  rintro _ rfl
  rw [hpx, c2, c3.1]
  refine ⟨_, rfl, rfl, _, rfl, _, rfl, _, rfl, _, rfl, _, rfl, _, rfl, a8 (by simp [c3.2]) ?_⟩
  refine (zao hp n f x.fr hl (by omega)).mono ?_
  rintro _ rfl
  refine ⟨_, rfl, ?_⟩
  cases ho : dA rows x.fr with
  | true => exact bC (by simp) ⟨rfl, skip (by simp [dQ, ho]), hmu⟩
  | false =>
    have hcb : dQ rows a b x = true := by simp [dQ, c1, c2, c3.1, c3.2, ho]
    cases o with
    | none =>
      simp only [Option.isSome] at h9
      refine a8 (by rw [h9]; rfl) ⟨rfl, ⟨⟨by omega, by omega⟩, ?_, ?_⟩, hmu⟩
      ·rw [hst]; simp [Rows.cmpS, hcb, nX]
      ·rw [hst]; simp [Rows.cmpS, hcb]
    | some r =>
      simp only [Option.isSome] at h9
      simp only [nX, Option.getD] at h8
      refine aF (fun c4 => ?_) (fun c4 => ?_)
      ·rw [h9, h8] at c4
       simp at c4
       refine ⟨rfl, ⟨⟨by omega, by omega⟩, ?_, ?_⟩, hmu⟩
       ·rw [hst]; simp [Rows.cmpS, hcb, nX, c4]
       ·rw [hst]; simp [Rows.cmpS, hcb, c4]
      ·rw [h9, h8] at c4
       simp at c4
       refine ⟨rfl, ⟨⟨by omega, by omega⟩, ?_, ?_⟩, hmu⟩
       ·have hlt : ¬ x.fr < r := by omega
        rw [hst, h8]; simp [Rows.cmpS, hcb, nX, hlt]
       ·rw [hst, h9]; simp [Rows.cmpS, hcb]; split <;> rfl
 ·simp only [decide_eq_true_eq, fF] at hc
  rw [List.take_of_length_le (by omega)] at h8 h9
  unfold jY
  rw [h8, h9]
  cases rows.foldl (Rows.cmpS rows a b) none <;> rfl
theorem ztz (hp : bP rows) (h1 : cN rows) (n f : Bool) {a b : Int} (hl : rows.length < 1000000) (ha : -2147483648 <= a /\ a <= 2147483647) (hb : -2147483648 <= b /\ b <= 2147483647) :
 PCall Tryz.prog 102 [.sl n f (aY rows), .int .i32 a, .int .i32 b] fun v => v = i6 (dX rows a b) := by
 refine ztr _ _ _ _ _ ?_; unfold zi5
 refine (ztx ha hb).mono ?_
 rintro _ rfl
 unfold dX
 cases dP a b with
 | some r => exact ⟨_, rfl, rfl, _, rfl, _, rfl, _, rfl, _, rfl, a8 rfl rfl⟩
 | none =>
   refine ⟨_, rfl, rfl, _, rfl, _, rfl, _, rfl, _, rfl, bC (by simp) ?_⟩
   refine (zty hp h1 n f hl ha hb).mono ?_
   rintro _ rfl
   cases jY rows a b with
   | none => exact ⟨_, rfl, rfl, _, rfl, _, rfl, _, rfl, _, rfl, rfl⟩
   | some r => exact ⟨_, rfl, rfl, _, rfl, _, rfl, _, rfl, _, rfl, rfl⟩
theorem zt0 {st : CSt} (h0 : st.s = none -> st.P = []) (h1 : ∀ a, st.s = some a -> aC rows 1 a = 0) (h2 : ∀ m ∈ st.M, aC rows 1 m ≠ 0) :
 (cU st = -1 /\ ∀ k (h : k < st.out.length), aC rows 1 st.out[k] ≠ 0) ∨ (∃ k : Nat, cU st = (k : Int) /\ ∃ h : k < st.out.length, aC rows 1 st.out[k] = 0 /\ ∀ j (hj : j < st.out.length), k < j -> aC rows 1 st.out[j] ≠ 0) := by
 cases hs : st.s with
 | none =>
   have hP := h0 hs
   have ho : st.out = st.M := by simp [CSt.out, hs, hP]
   refine .inl ⟨by simp [cU, hs], fun k hk => h2 _ ?_⟩
   have := List.getElem_mem hk
   rw [<- ho]; exact this
 | some a =>
   have ho : st.out = st.P ++ a :: st.M := by simp [CSt.out, hs]
   refine .inr ⟨st.P.length, by simp [cU, hs], by rw [ho]; simp, ?_, fun j hj hlt => h2 _ ?_⟩
   ·simp only [ho, List.getElem_append_right (Nat.le_refl _), Nat.sub_self, List.getElem_cons_zero]; exact h1 a hs
   ·simp only [ho]
    rw [List.getElem_append_right (by omega), List.getElem_cons]
    rw [dif_neg (by omega)]
    exact List.getElem_mem _
theorem zt1 (n f n2 f2 : Bool) (hl : rows.length < 1000000) (L : List Int) (hr : R32 L) (hL : L.length < 1000000000000) :
 PCall Tryz.prog 100 [.sl n f (aY rows), .sl n2 f2 (aA L)] fun v => ∃ x : Int, v = .int .i64 x /\ ((x = -1 /\ ∀ k (h : k < L.length), aC rows 1 L[k] ≠ 0) ∨ (∃ k : Nat, x = (k : Int) /\ ∃ h : k < L.length, aC rows 1 L[k] = 0 /\ ∀ j (hj : j < L.length), k < j -> aC rows 1 L[j] ≠ 0)) := by
 refine zts _ _ _ _ _ _ (fun x => (-1 <= x /\ x < L.length) /\ ∀ j (hj : j < L.length), x < j -> aC rows 1 L[j] ≠ 0) (fun x => (x + 1).toNat) ?_
 unfold zi6
 have hw : i64.wrap ((aA L).length - 1) = L.length - 1 := by rw [aX]; exact aD (by omega) (by omega)
 rw [hw]
 refine ⟨⟨rfl, ⟨by omega, by omega⟩, fun j hj h => by omega⟩, ?_⟩
 rintro x ⟨⟨x0, x1⟩, hx⟩
 refine aF (fun hc => ?_) (fun hc => ?_)
 ·simp only [decide_eq_true_eq, ge_iff_le] at hc
  have hi : x.toNat < L.length := by omega
  obtain ⟨g1, g2⟩ := eL hc hi
  have hw1 : i64.wrap (x - 1) = x - 1 := aD (by omega) (by omega)
  refine ⟨g1, L[x.toNat], by rw [g2]; rfl, ?_⟩
  refine (nP n f _ hl (hr _ (List.getElem_mem hi))).mono ?_
  rintro _ rfl
  refine ⟨_, rfl, ?_⟩
  rw [hw1]
  refine aF (fun h0 => ?_) (fun h0 => ?_)
  ·simp only [beq_iff_eq] at h0
   exact ⟨x, rfl, .inr ⟨x.toNat, by omega, hi, h0, fun j hj hlt => hx j hj (by omega)⟩⟩
  ·simp only [beq_iff_eq] at h0
   refine ⟨rfl, ⟨⟨by omega, by omega⟩, fun j hj hlt => ?_⟩, by dsimp only; omega⟩
   by_cases he : j = x.toNat
   ·subst he; exact h0
   ·exact hx j hj (by omega)
 ·simp only [decide_eq_true_eq, ge_iff_le] at hc
  exact ⟨-1, rfl, .inl ⟨rfl, fun k hk => hx k hk (by omega)⟩⟩
theorem zt2 (n f n2 f2 : Bool) (hl : rows.length < 1000000) (L : List Int) (hr : R32 L) (hL : L.length < 1000000000000) (h0 : 0 < L.length) (k : Int) {r : Int} (hx : -2147483648 <= r /\ r <= 2147483647) :
 PCall Tryz.prog 101 [.sl n f (aY rows), .sl n2 f2 (aA L), .int .i64 k, .int .i32 r] fun v => v = .bool (decide (k = L.length - 1) || decide (dC (aC rows 1) L < aC rows 1 r)) := by
 refine ztt _ _ _ _ _ _ _ _ ?_; unfold zi7
 have hw : i64.wrap ((aA L).length - 1) = L.length - 1 := by rw [aX]; exact aD (by omega) (by omega)
 rw [hw]
 refine aF (fun hc => ?_) (fun hc => ?_)
 ·simp only [beq_iff_eq] at hc; simp [hc]
 ·simp only [beq_iff_eq] at hc
  have hi : ((L.length : Int) - 1).toNat < L.length := by omega
  obtain ⟨g1, g2⟩ := eL (l := L) (i := (L.length : Int) - 1) (by omega) hi
  refine ⟨g1, L[((L.length : Int) - 1).toNat], by rw [g2]; rfl, ?_⟩
  refine (nP n f _ hl (hr _ (List.getElem_mem hi))).mono ?_
  rintro _ rfl
  refine ⟨_, rfl, ?_⟩
  refine (nP n f _ hl hx).mono ?_
  rintro _ rfl
  refine ⟨_, rfl, ?_⟩
  have : dC (aC rows 1) L = aC rows 1 L[((L.length : Int) - 1).toNat] := by
   unfold dC
   rw [List.getLast?_eq_getElem?, List.getElem?_eq_getElem (by omega)]
   simp only
   congr 2
   omega
  rw [this]; simp [hc]
theorem zt3 (hp : bP rows) (h1 : cN rows) (hs0 : ∀ (d : List Int) a, (bB rows d).s = some a -> aC rows 1 a = 0) (n f n2 f2 : Bool) (hl : rows.length < 1000000) (L : List Int) (hr : R32 L) (hL : L.length < 1000000000000) :
 PCall Tryz.prog 72 [.sl n f (aY rows), .sl n2 f2 (aA L)] fun x => ∃ n f, x = .sl n f (aA (dR rows L)) := by
 refine ztu _ _ _ _ _ _ (fun i _ s => (0 <= i /\ i <= L.length) /\ s = aA (bB rows (L.take i.toNat)).out) (fun i _ _ => L.length - i.toNat) ?_
 unfold zi8
 refine ⟨⟨rfl, ⟨Int.le_refl _, by omega⟩, rfl⟩, ?_⟩
 rintro i n0 _ ⟨⟨i0, i1⟩, rfl⟩
 refine aF (fun hc => ?_) (fun hc => ?_)
 ·simp only [decide_eq_true_eq, aX] at hc
  have hi : i.toNat < L.length := by omega
  obtain ⟨g1, g2⟩ := eL i0 hi
  have hx := hr _ (List.getElem_mem hi)
  have hw : i64.wrap (i + 1) = i + 1 := aD (by omega) (by omega)
  rw [hw]
  have hlen := zaj rows (L.take i.toNat)
  have hrng := zak h1 (L.take i.toNat)
  have hnz := zh4 (rows := rows) (d := L.take i.toNat)
  have hnP := qK (rows := rows) (d := L.take i.toNat)
  have hsk := hs0 (L.take i.toNat)
  rw [List.length_take] at hlen
  unfold dR at hlen hrng
  have next : ∀ st2, bL rows (bB rows (L.take i.toNat)) L[i.toNat] = st2 -> (0 <= i + 1 /\ i + 1 <= L.length) /\ aA st2.out = aA (bB rows (L.take (i + 1).toNat)).out := fun st2 he => by
   rw [show (i + 1).toNat = i.toNat + 1 by omega, c9 hi, fH, he]; exact ⟨⟨by omega, by omega⟩, rfl⟩
  generalize bB rows (L.take i.toNat) = st at *
  have hmu : L.length - (i + 1).toNat < L.length - i.toNat := by omega
  have hr2 : R32 st.out := fun y hy => by
   rcases hrng y hy with h | h
   ·exact hr y (List.mem_of_mem_take h)
   ·omega
  have hsz : aM [[PV.int .i32 L[i.toNat]]] 1 /\ ((aA st.out).length + 1) * 4 <= 140737488355328 := ⟨cA [_], by rw [aX]; omega⟩
  have app : bL rows st L[i.toNat] = bX (aC rows 1) st L[i.toNat] -> (0 <= i + 1 /\ i + 1 <= L.length) /\ aA st.out ++ [[PV.int .i32 L[i.toNat]]] = aA (bB rows (L.take (i + 1).toNat)).out := fun he => by
   obtain ⟨k1, k2⟩ := next _ he
   rw [lB, fG] at k2
   exact ⟨k1, k2⟩
  refine (zt1 n f n0 false hl st.out hr2 (by omega)).mono ?_
  rintro _ ⟨x, rfl, hst⟩
  have hxs : x = cU st := by
   rcases zt0 hnP hsk hnz with ⟨e, h⟩ | ⟨k, e, hk, h, h'⟩
   ·rcases hst with ⟨e2, _⟩ | ⟨k2, e2, hk2, q, _⟩
    ·omega
    ·exact absurd q (h k2 hk2)
   ·rcases hst with ⟨e2, q⟩ | ⟨k2, e2, hk2, q, q'⟩
    ·exact absurd h (q k hk)
    ·rcases Nat.lt_trichotomy k k2 with hlt | rfl | hlt
     ·exact absurd q (h' k2 hk2 hlt)
     ·omega
     ·exact absurd h (q' k hk hlt)
  clear hst
  subst hxs
  refine ⟨_, rfl, rfl, aF (fun hf => ?_) (fun hf => ?_)⟩
  ·simp only [decide_eq_true_eq, ge_iff_le] at hf
   cases hs : st.s with
   | none => simp [cU, hs] at hf
   | some a =>
     have hsi : cU st = st.P.length := by simp [cU, hs]
     have hol : st.out.length = st.P.length + 1 + st.M.length := by simp [CSt.out, hs]; omega
     refine ⟨g1, L[i.toNat], by rw [g2]; rfl, ?_⟩
     refine (zt2 n f n0 false hl st.out hr2 (by omega) (by omega) (cU st) hx).mono ?_
     rintro _ rfl
     have hfree : (decide (cU st = st.out.length - 1) || decide (dC (aC rows 1) st.out < aC rows 1 L[i.toNat])) = true ↔ (st.M = [] ∨ dC (aC rows 1) st.M < aC rows 1 L[i.toNat]) := by
      simp only [Bool.or_eq_true, decide_eq_true_eq]
      by_cases hM : st.M = []
      ·refine ⟨fun _ => .inl hM, fun _ => .inl ?_⟩
       rw [hsi, hol, hM]; simp
      ·obtain ⟨D, m, hDm⟩ := (List.eq_nil_or_concat _).resolve_left hM
       have e : dC (aC rows 1) st.out = dC (aC rows 1) st.M := by
        have e2 : st.out = (st.P ++ a :: D) ++ [m] := by simp [CSt.out, hDm, hs]
        rw [e2, hDm, List.concat_eq_append, qJ, qJ]
       rw [e]
       refine or_congr ⟨fun h => ?_, fun h => absurd h hM⟩ Iff.rfl
       rw [hsi, hol] at h
       exact List.eq_nil_of_length_eq_zero (by omega)
     refine ⟨_, rfl, rfl, aF (fun hfr => ?_) (fun hfr => ?_)⟩
     ·have hfr := hfree.1 hfr
      have hat : st.out[st.P.length]'(by omega) = a := by simp [CSt.out, hs]
      obtain ⟨k1, k2⟩ := eL (l := st.out) (i := cU st) (by omega) (by omega)
      have hta : (cU st).toNat = st.P.length := by omega
      have k3 : (aA st.out).getD (cU st).toNat [] = [PV.int .i32 a] := by
       rw [k2]; simp only [hta, hat]
      have ha : -2147483648 <= a /\ a <= 2147483647 := hr2 a (by simp [CSt.out, hs])
      refine ⟨k1, a, by rw [k3]; rfl, g1, L[i.toNat], by rw [g2]; rfl, ?_⟩
      refine (ztz hp h1 n f hl ha hx).mono ?_
      rintro _ rfl
      cases hpc : dX rows a L[i.toNat] with
      | some c =>
        refine ⟨_, rfl, rfl, _, rfl, _, rfl, _, rfl, _, rfl, a8 rfl ⟨k1, ⟨rfl, by rw [k3]; exact Nat.le_refl _⟩, rfl, ?_, by dsimp only; omega⟩⟩
        rw [k3, hta]
        have he : bL rows st L[i.toNat] = ⟨st.P, some c, st.M⟩ := by
         unfold bL; rw [hs]; simp only; rw [if_pos hfr, hpc]
        have e2 : (aA st.out).set st.P.length [PV.int .i32 c] = aA (CSt.out ⟨st.P, some c, st.M⟩) := by
         simp [CSt.out, hs, aA]
        obtain ⟨q1, q2⟩ := next _ he
        exact ⟨q1, e2.trans q2⟩
      | none =>
        have he : bL rows st L[i.toNat] = bX (aC rows 1) st L[i.toNat] := by
         unfold bL; rw [hs]; simp only; rw [if_pos hfr, hpc]
        exact ⟨_, rfl, rfl, _, rfl, _, rfl, _, rfl, _, rfl, bC (by simp) ⟨g1, L[i.toNat], by rw [g2]; rfl, hsz, rfl, app he, by dsimp only; omega⟩⟩
     ·have hfr := fun h => hfr (hfree.2 h)
      have he : bL rows st L[i.toNat] = bX (aC rows 1) st L[i.toNat] := by
       unfold bL; rw [hs]; simp only; rw [if_neg hfr]
      exact ⟨g1, L[i.toNat], by rw [g2]; rfl, hsz, rfl, app he, by dsimp only; omega⟩
  ·simp only [decide_eq_true_eq, ge_iff_le] at hf
   have hs : st.s = none := by
    cases hs : st.s with
    | none => rfl
    | some a => exact absurd (by simp [cU, hs]) hf
   have he : bL rows st L[i.toNat] = bX (aC rows 1) st L[i.toNat] := by
    unfold bL; rw [hs]
   exact ⟨g1, L[i.toNat], by rw [g2]; rfl, hsz, rfl, app he, by dsimp only; omega⟩
 ·simp only [decide_eq_true_eq, aX] at hc
  rw [List.take_of_length_le (by omega)]
  exact ⟨_, _, rfl⟩
theorem zaz (hp : bP rows) (h1 : cN rows) (hk : fA rows) (hs0 : ∀ (d : List Int) a, (bB rows d).s = some a -> aC rows 1 a = 0) (n f n2 f2 : Bool) (hl : rows.length < 1000000) (L : List Int) (hr : R32 L) (hL : L.length < 1000000) :
 PCall Tryz.prog 34 [.sl n f (aY rows), .sl n2 f2 (aA L)] fun x => ∃ n f, x = .sl n f (aA (bM rows L)) := by
 refine ztv _ _ _ _ _ _ ?_; unfold zi9
 refine (zrs hp hk n f n2 f2 hl L hr hL).mono ?_
 rintro _ ⟨n1, f1, rfl⟩
 refine ⟨_, _, _, rfl, ?_⟩
 refine (zt3 hp h1 hs0 n f n1 f1 hl _ (zad hk hp hr) (zht hk hL)).mono ?_
 rintro _ ⟨n3, f3, rfl⟩
 exact ⟨_, _, _, rfl, _, _, rfl⟩
end
end Go.Eng



namespace Go.Eng.Rows
open Go Go.Eng Go.Eng.Trie Go.Eng.Srt
def zt4 (rows : List Row) (a b : Int) : Bool := rows.all fun x => !decide (x.kind = 1) || (decide (x.to < a) || decide (b < x.fr))
theorem zt5 {rows : List Row} {a b r : Int} (h : zt4 rows a b = true) (h1 : a <= r) (h2 : r <= b) : aC rows 1 r = 0 := by
 unfold aC
 cases hf : bK rows 1 r with
 | none => rfl
 | some p =>
   obtain ⟨x, hx, hk, _, _, f1, f2, _⟩ := jT hf
   have := List.all_eq_true.1 h x hx
   simp only [hk, decide_true, Bool.not_true, Bool.false_or, Bool.or_eq_true, decide_eq_true_eq] at this
   omega
end Go.Eng.Rows



namespace Go.Eng
open Go Go.Proofs Go.Eng.Rows Go.Eng.Trie
theorem zt6 : ∀ r, bG r = true -> aC tab 1 r = 0 := fun r hs => by
 simp only [bG, Bool.and_eq_true, decide_eq_true_eq] at hs
 exact zt5 (a := 44032) (b := 55203) (by kernel_rfl) hs.1 hs.2
theorem za0 : ∀ (d : List Int) a, (bB tab d).s = some a -> aC tab 1 a = 0 := zto iJ zt6
end Go.Eng



namespace Go.Eng
open Go Go.Proofs Go.Eng.Rows Go.Eng.Trie Go.Eng.Srt
theorem ap0 {l : List Int} (h : l.length <= 1000000000) : fK true [] (aA l) 1 4 := ⟨rfl, .inl rfl, fun e he => (by cases he), cA l, by simp only [List.length_nil, aX]; omega⟩
theorem za1 (n1 f1 n2 f2 n3 f3 : Bool) (a b c : List Int) (h : a.length + b.length + c.length <= 1000000000) : PCall Tryz.prog 71 [.sl n1 f1 (aA a), .sl n2 f2 (aA b), .sl n3 f3 (aA c)] fun x => ∃ n f, x = .sl n f (aA (a ++ (b ++ c))) := by
 refine zta _ _ _ _ _ _ _ _ _ ?_; unfold ziv
 refine ⟨ap0 (by omega), ⟨cA _, by simp only [List.nil_append, aX]; omega⟩, ⟨cA _, by simp only [List.nil_append, List.length_append, aX]; omega⟩, ?_⟩
 rw [List.nil_append, <- fG, <- fG, List.append_assoc]
 exact ⟨_, _, rfl⟩
theorem zt7 (n f n2 f2 n3 f3 : Bool) (L ins : List Int) (hr : R32 L) (hL : L.length < 100000) (hr2 : R32 ins) (hL2 : ins.length < 100000) (i j : Int) (h0 : 0 <= i) (h1 : i <= j) (h2 : j <= L.length) :
 PCall Tryz.prog 35 [.sl n f (aY tab), .sl n2 f2 (aA L), .int .i64 i, .int .i64 j, .sl n3 f3 (aA ins)] fun x => ∃ n f, x = .sl n f (aA (bM tab (L.take i.toNat ++ (ins ++ L.drop j.toNat)))) := by
 refine ztb _ _ _ _ _ _ _ _ _ _ _ ?_; unfold ziw
 have hl : ((aA L).length : Int) = L.length := by rw [aX]
 refine ⟨⟨qR h0 (by rw [hl]; omega), cA _⟩, ⟨qS (by omega) (by rw [hl]; omega), cA _⟩, ?_⟩
 rw [qQ, zaw]
 have e1 : (L.take i.toNat).length <= L.length := by rw [List.length_take]; omega
 have e2 : (L.drop j.toNat).length <= L.length := by rw [List.length_drop]; omega
 refine (za1 _ _ _ _ _ _ _ _ _ (by omega)).mono ?_
 rintro _ ⟨n4, f4, rfl⟩
 refine ⟨_, _, _, rfl, ?_⟩
 have hrr : R32 (L.take i.toNat ++ (ins ++ L.drop j.toNat)) := fun x hx => by
  rcases List.mem_append.1 hx with hx | hx
  ·exact hr x (List.mem_of_mem_take hx)
  ·rcases List.mem_append.1 hx with hx | hx
   ·exact hr2 x hx
   ·exact hr x (List.mem_of_mem_drop hx)
 refine (zaz iI iJ gW za0 _ _ _ _ nR _ hrr (by rw [List.length_append, List.length_append]; omega)).mono ?_
 rintro _ ⟨n5, f5, rfl⟩
 exact ⟨_, _, _, rfl, _, _, rfl⟩
theorem zt8 (n f n2 f2 : Bool) (L : List Int) (hr : R32 L) (hL : L.length < 100000) (i j : Int) (h0 : 0 <= i) (h1 : i <= j) (h2 : j <= L.length) :
 PCall Tryz.prog 70 [.sl n f (aY tab), .sl n2 f2 (aA L), .int .i64 i, .int .i64 j] fun x => x = .tup [.int .i64 (bQ tab L i.toNat : Nat), .int .i64 (bS tab L j.toNat (L.length - j.toNat) : Nat)] := by
 refine ztc _ _ _ _ _ _ _ _ (fun x k => (0 <= k /\ k <= i) /\ x = (nV tab L k.toNat : Nat)) (fun _ k => (i - k).toNat) (fun x k => x = (bQ tab L i.toNat : Nat) /\ (0 <= k /\ k <= L.length) /\ bS tab L j.toNat (L.length - j.toNat) = bS tab L k.toNat (L.length - k.toNat)) (fun _ k => L.length - k.toNat) ?_
 unfold zix
 refine ⟨⟨rfl, ⟨Int.le_refl _, h0⟩, rfl⟩, ?_⟩
 rintro _ k ⟨⟨k0, k1⟩, rfl⟩
 have hw : i64.wrap (k + 1) = k + 1 := aD (by omega) (by omega)
 rw [hw]
 refine aF (fun hc => ?_) (fun hc => ?_)
 ·simp only [decide_eq_true_eq] at hc
  have hi : k.toNat < L.length := by omega
  obtain ⟨g1, g2⟩ := eL k0 hi
  refine ⟨g1, L[k.toNat], by rw [g2]; rfl, ?_⟩
  refine (ziq iI iJ n f _ nR (hr _ (List.getElem_mem hi))).mono ?_
  rintro _ rfl
  refine ⟨_, rfl, ?_⟩
  have hk1 : (k + 1).toNat = k.toNat + 1 := by omega
  refine aF (fun hs => ?_) (fun hs => ?_)
  ·refine ⟨rfl, ⟨⟨by omega, by omega⟩, ?_⟩, by dsimp only; omega⟩
   rw [hk1, nV, qP hi, if_pos hs]; omega
  ·refine ⟨rfl, ⟨⟨by omega, by omega⟩, ?_⟩, by dsimp only; omega⟩
   rw [hk1, nV, qP hi, if_neg hs]
 ·simp only [decide_eq_true_eq] at hc
  have hki : k = i := by omega
  subst hki
  refine ⟨⟨rfl, by rw [zia], ⟨by omega, h2⟩, rfl⟩, ?_⟩
  rintro _ m ⟨rfl, ⟨m0, m1⟩, hm⟩
  have hwm : i64.wrap (m + 1) = m + 1 := aD (by omega) (by omega)
  rw [hwm]
  refine aF (fun hc2 => ?_) (fun hc2 => ?_)
  ·simp only [decide_eq_true_eq, aX] at hc2
   have hi : m.toNat < L.length := by omega
   obtain ⟨g1, g2⟩ := eL m0 hi
   refine ⟨g1, L[m.toNat], by rw [g2]; rfl, ?_⟩
   refine (ziq iI iJ n f _ nR (hr _ (List.getElem_mem hi))).mono ?_
   rintro _ rfl
   refine ⟨_, rfl, ?_⟩
   have hstep : bS tab L m.toNat (L.length - m.toNat) = if cH tab L[m.toNat] = true then m.toNat else bS tab L (m.toNat + 1) (L.length - (m.toNat + 1)) := by
    rw [show L.length - m.toNat = (L.length - (m.toNat + 1)) + 1 by omega, bS, qP hi]
   refine aF (fun hs => ?_) (fun hs => ?_)
   ·rw [hm, hstep, if_pos hs, show ((m.toNat : Nat) : Int) = m by omega]
   ·refine ⟨rfl, ⟨rfl, ⟨by omega, by omega⟩, ?_⟩, by dsimp only; omega⟩
    rw [hm, hstep, if_neg hs, show (m + 1).toNat = m.toNat + 1 by omega]
  ·simp only [decide_eq_true_eq, aX] at hc2
   have : m.toNat = L.length := by omega
   rw [hm, this, Nat.sub_self, aX]; rfl
theorem zt9 (n f n2 f2 n3 f3 : Bool) (L ins : List Int) (hr : R32 L) (hL : L.length < 100000) (hr2 : R32 ins) (hL2 : ins.length < 100000) (i j : Int) (h0 : 0 <= i) (h1 : i <= j) (h2 : j <= L.length) :
 PCall Tryz.prog 33 [.sl n f (aY tab), .sl n2 f2 (aA L), .int .i64 i, .int .i64 j, .sl n3 f3 (aA ins)] fun x => ∃ n f, x = .tup [.sl n f (aA (i7 tab L i.toNat j.toNat ins)), .int .i64 (bQ tab L i.toNat : Nat), .int .i64 (bS tab L j.toNat (L.length - j.toNat) : Nat), .int .i64 ((bQ tab L i.toNat + (bM tab (dD tab L i.toNat j.toNat ins)).length : Nat) : Int)] := by
 refine ztd _ _ _ _ _ _ _ _ _ _ _ ?_; unfold ziy
 have hl : ((aA L).length : Int) = L.length := by rw [aX]
 refine (zt8 n f n2 f2 L hr hL i j h0 h1 h2).mono ?_
 rintro _ rfl
 obtain ⟨a1, a2, a3⟩ := nU tab L i.toNat
 obtain ⟨b1, b2, b3⟩ := qN tab L (L.length - j.toNat) j.toNat
 have hmid := uV tab L i.toNat j.toNat ins
 have hnl := qL gW (dD tab L i.toNat j.toNat ins)
 have hs1 := nT L (bQ tab L i.toNat) i.toNat
 have hs2 := nT L j.toNat (bS tab L j.toNat (L.length - j.toNat))
 have hmr : R32 (dD tab L i.toNat j.toNat ins) := fun x hx => by
  unfold dD at hx
  rcases List.mem_append.1 hx with hx | hx
  ·exact (hr.sub _ _) x hx
  ·rcases List.mem_append.1 hx with hx | hx
   ·exact hr2 x hx
   ·exact (hr.sub _ _) x hx
 refine ⟨_, rfl, rfl, _, rfl, _, rfl, _, rfl, _, rfl, ?_⟩
 simp only [Int.toNat_natCast]
 refine ⟨⟨uQ (by omega) (by omega) (by rw [hl]; omega), cA _⟩, ⟨uQ (by omega) (by omega) (by rw [hl]; omega), cA _⟩, ?_⟩
 rw [uR, uR]
 refine (za1 _ _ _ _ _ _ _ _ _ (by omega)).mono ?_
 rintro _ ⟨n4, f4, rfl⟩
 refine ⟨_, _, _, rfl, ?_⟩
 refine (zaz iI iJ gW za0 _ _ _ _ nR (dD tab L i.toNat j.toNat ins) hmr (by omega)).mono ?_
 rintro _ ⟨n5, f5, rfl⟩
 refine ⟨_, _, _, rfl, ⟨qR (by omega) (by rw [hl]; omega), cA _⟩, ⟨qS (by omega) (by rw [hl]; omega), cA _⟩, ?_⟩
 rw [qQ, List.take_length]
 have hdr : List.drop (bS tab L j.toNat (L.length - j.toNat)) (aA L) = aA (L.drop (bS tab L j.toNat (L.length - j.toNat))) := by simp [aA]
 rw [hdr]
 refine (za1 _ _ _ _ _ _ _ _ _ (by rw [List.length_take, List.length_drop]; omega)).mono ?_
 rintro _ ⟨n6, f6, rfl⟩
 refine ⟨_, _, _, rfl, n6, f6, ?_⟩
 have hw : i64.wrap (((bQ tab L i.toNat : Nat) : Int) + ((aA (bM tab (dD tab L i.toNat j.toNat ins))).length : Int)) = ((bQ tab L i.toNat + (bM tab (dD tab L i.toNat j.toNat ins)).length : Nat) : Int) := by
  rw [aX, aD (by omega) (by omega)]; omega
 rw [hw]; rfl
end Go.Eng



namespace Go.Eng
open Go Go.Proofs Go.Eng.Rows Go.Eng.Trie Go.Eng.Srt
theorem zja (rows : List Row) (L : List Int) {i j : Nat} (ins : List Int) (hij : i <= j) (hj : j <= L.length) :
 bQ rows L i <= i /\ j <= bS rows L j (L.length - j) /\ bS rows L j (L.length - j) <= L.length /\ (i7 rows L i j ins).length = bQ rows L i + (bM rows (dD rows L i j ins)).length + (L.length - bS rows L j (L.length - j)) /\
 (i7 rows L i j ins).take (bQ rows L i) = L.take (bQ rows L i) /\ (i7 rows L i j ins).drop (bQ rows L i + (bM rows (dD rows L i j ins)).length) = L.drop (bS rows L j (L.length - j)) := by
 obtain ⟨a1, a2, a3⟩ := nU rows L i
 obtain ⟨b1, b2, b3⟩ := qN rows L (L.length - j) j
 unfold i7
 generalize bM rows (dD rows L i j ins) = m
 generalize bQ rows L i = a at *
 generalize bS rows L j (L.length - j) = b at *
 have hla : (L.take a).length = a := by rw [List.length_take]; omega
 refine ⟨a1, b1, by omega, ?_, ?_, ?_⟩
 ·rw [List.length_append, List.length_append, hla, List.length_drop]; omega
 ·rw [List.take_append_of_le_length (by omega), List.take_of_length_le (by omega)]
 ·rw [List.drop_append, hla, List.drop_of_length_le (by omega), List.nil_append, show a + m.length - a = m.length by omega, List.drop_append, List.drop_of_length_le (Nat.le_refl _), Nat.sub_self]; rfl
end Go.Eng



namespace Go.Eng
open Go Go.Proofs Go.Eng.Rows Go.Eng.Trie Go.Eng.Srt
theorem zua (l : List Int) (h : l.length <= 80) : (bM tab l).length <= 61440 := by have := qL gW l; omega
theorem zub (n f : Bool) (l : List Int) (hr : R32 l) (i j : Int) (n2 f2 : Bool) (ins : List Int) (hr2 : R32 ins) : PCall Tryz.prog 7 [.sl n f (aA l), .int .i64 i, .int .i64 j, .sl n2 f2 (aA ins)] fun v => v = .bool true := by
 refine ztf _ _ _ _ _ _ _ _ ?_; unfold ziz
 refine (uJ n f l 80 (by omega)).mono ?_
 rintro _ ⟨n1, f1, rfl⟩
 refine ⟨_, _, _, rfl, ?_⟩
 refine (uJ n2 f2 ins 40 (by omega)).mono ?_
 rintro _ ⟨n3, f3, rfl⟩
 refine ⟨_, _, _, rfl, ?_⟩
 refine p42.mono ?_
 rintro _ ⟨n4, f4, rfl⟩
 refine ⟨_, _, _, rfl, ?_⟩
 refine (zah n4 f4).mono fun t ht => ?_
 have ll := uP l 80
 have li := uP ins 40
 have rl := hr.take 80
 have ri := hr2.take 40
 generalize l.take 80 = l at *
 generalize ins.take 40 = ins at *
 refine (zax iI iJ gW ht _ _ _ _ l ins rl (by omega) ri (by omega) i j).mono ?_
 intro x hx
 by_cases hv : (0 <= i /\ i <= j) /\ j <= (l.length : Int)
 ·rw [if_pos hv] at hx
  obtain ⟨n5, f5, rfl⟩ := hx
  have hsl := (zja tab l (i := i.toNat) (j := j.toNat) ins (by omega) (by omega)).2.2.2.1
  have hml := uV tab l i.toNat j.toNat ins
  have hnl := qL gW (dD tab l i.toNat j.toNat ins)
  have hbl := (nU tab l i.toNat).1
  refine ⟨_, rfl, rfl, _, rfl, _, _, _, rfl, _, rfl, _, rfl, rfl, _, rfl, _, rfl, _, rfl, _, rfl, _, rfl, bC (by simp only [aX, Bool.or_eq_true, decide_eq_true_eq]; omega) ?_⟩
  refine (zt9 _ _ _ _ _ _ l ins rl (by omega) ri (by omega) i j (by omega) (by omega) (by omega)).mono ?_
  rintro _ ⟨n6, f6, rfl⟩
  refine ⟨_, rfl, rfl, _, rfl, _, _, _, rfl, _, rfl, _, rfl, _, rfl, _, rfl, _, rfl, _, rfl, ?_⟩
  refine (qM _ _ _ _ _ _ (by omega)).mono ?_
  rintro _ rfl
  refine ⟨_, rfl, a8 (by simp) (a8 (by simp) ?_)⟩
  refine awake9.mono ?_
  rintro _ rfl
  exact ⟨_, rfl, rfl⟩
 ·rw [if_neg hv] at hx
  subst hx
  refine ⟨_, rfl, rfl, _, rfl, _, _, _, rfl, _, rfl, _, rfl, rfl, _, rfl, _, rfl, _, rfl, _, rfl, _, rfl, a8 (by simp only [aX, Bool.or_eq_true, decide_eq_true_eq]; omega) (a8 rfl (a8 rfl ?_))⟩
  refine awake9.mono ?_
  rintro _ rfl
  exact ⟨_, rfl, rfl⟩
theorem zuc (n f : Bool) (l : List Int) (hr : R32 l) (i j : Int) (n2 f2 : Bool) (ins : List Int) (hr2 : R32 ins) : PCall Tryz.prog 8 [.sl n f (aA l), .int .i64 i, .int .i64 j, .sl n2 f2 (aA ins)] fun v => v = .bool true := by
 refine ztg _ _ _ _ _ _ _ _ ?_; unfold zi0
 refine (uJ n f l 80 (by omega)).mono ?_
 rintro _ ⟨n1, f1, rfl⟩
 refine ⟨_, _, _, rfl, ?_⟩
 refine (uJ n2 f2 ins 40 (by omega)).mono ?_
 rintro _ ⟨n3, f3, rfl⟩
 refine ⟨_, _, _, rfl, ?_⟩
 refine p42.mono ?_
 rintro _ ⟨n4, f4, rfl⟩
 refine ⟨_, _, _, rfl, ?_⟩
 have ll := uP l 80
 have li := uP ins 40
 have rl := hr.take 80
 have ri := hr2.take 40
 generalize l.take 80 = l at *
 generalize ins.take 40 = ins at *
 refine (zaz iI iJ gW za0 _ _ _ _ nR l rl (by omega)).mono ?_
 rintro _ ⟨n5, f5, rfl⟩
 refine ⟨_, _, _, rfl, ?_⟩
 refine (zah n4 f4).mono fun t ht => ?_
 have hT := zua l ll
 have rT := zsd rl
 have hwh := fun h1 h2 => zsp zrx iI l ins (i := i.toNat) (j := j.toNat) h1 h2
 generalize bM tab l = T at *
 refine (zax iI iJ gW ht _ _ _ _ T ins rT (by omega) ri (by omega) i j).mono ?_
 intro x hx
 by_cases hv : (0 <= i /\ i <= j) /\ j <= (T.length : Int)
 ·rw [if_pos hv] at hx
  obtain ⟨n6, f6, rfl⟩ := hx
  obtain ⟨s1, s2, s3, s4, s5, s6⟩ := zja tab T (i := i.toNat) (j := j.toNat) ins (by omega) (by omega)
  have hw := hwh (by omega) (by omega)
  have hml := uV tab T i.toNat j.toNat ins
  have hnl := qL gW (dD tab T i.toNat j.toNat ins)
  refine ⟨_, rfl, rfl, _, rfl, _, _, _, rfl, _, rfl, _, rfl, rfl, _, rfl, _, rfl, _, rfl, _, rfl, _, rfl, ?_⟩
  generalize hS : i7 tab T i.toNat j.toNat ins = S at *
  generalize hm : (bM tab (dD tab T i.toNat j.toNat ins)).length = m at *
  generalize bQ tab T i.toNat = a at *
  generalize bS tab T j.toNat (T.length - j.toNat) = b at *
  have w1 : i64.wrap (((aA T).length : Int) - (b : Int)) = (T.length : Int) - b := by rw [aX]; exact aD (by omega) (by omega)
  have w2 : i64.wrap (((aA S).length : Int) - ((a + m : Nat) : Int)) = (T.length : Int) - b := by rw [aX, aD (by omega) (by omega)]; omega
  rw [w1, w2]
  refine bC (by simp) (bC (by simp only [gt_iff_lt, decide_eq_true_eq]; omega) (bC (by simp only [gt_iff_lt, decide_eq_true_eq]; omega) (bC (by simp only [gt_iff_lt, decide_eq_true_eq]; omega) (bC (by simp only [gt_iff_lt, decide_eq_true_eq]; omega) (bC (by simp only [aX, gt_iff_lt, decide_eq_true_eq]; omega) (bC (by simp) ?_))))))
  refine (zt7 _ _ _ _ _ _ T ins rT (by omega) ri (by omega) i j (by omega) (by omega) (by omega)).mono ?_
  rintro _ ⟨n7, f7, rfl⟩
  refine ⟨_, _, _, rfl, ?_⟩
  rw [<- hw]
  refine (qM _ _ _ _ _ _ (by omega)).mono ?_
  rintro _ rfl
  refine ⟨_, rfl, a8 (by simp) ⟨⟨qR (by omega) (by rw [aX]; omega), cA _⟩, ⟨qR (by omega) (by rw [aX]; omega), cA _⟩, ?_⟩⟩
  rw [qQ, qQ, Int.toNat_natCast, s5]
  refine (qM _ _ _ _ _ _ (by rw [List.length_take]; omega)).mono ?_
  rintro _ rfl
  refine ⟨_, rfl, a8 (by simp) ⟨⟨qS (by omega) (by rw [aX]; omega), cA _⟩, ⟨qS (by omega) (by rw [aX]; omega), cA _⟩, ?_⟩⟩
  rw [zaw, zaw, Int.toNat_natCast, Int.toNat_natCast, s6]
  refine (qM _ _ _ _ _ _ (by rw [List.length_drop]; omega)).mono ?_
  rintro _ rfl
  refine ⟨_, rfl, a8 (by simp) ?_⟩
  refine awake9.mono ?_
  rintro _ rfl
  exact ⟨_, rfl, rfl⟩
 ·rw [if_neg hv] at hx
  subst hx
  refine ⟨_, rfl, rfl, _, rfl, _, _, _, rfl, _, rfl, _, rfl, rfl, _, rfl, _, rfl, _, rfl, _, rfl, _, rfl, a8 rfl (a8 (by simp only [aX, Bool.or_eq_true, Bool.and_eq_true, decide_eq_true_eq]; exact ⟨rfl, by omega⟩) ?_)⟩
  refine awake9.mono ?_
  rintro _ rfl
  exact ⟨_, rfl, rfl⟩
theorem lawLocalSplices {pvs : List PV} (h : lV Tryz.prog 8 Tryz.f7.params.toList pvs) : PCall Tryz.prog 7 pvs fun v => v = .bool true := by
 obtain ⟨v0, r0, rfl, h0, v1, r1, rfl, h1, v2, r2, rfl, h2, v3, r3, rfl, h3, rfl⟩ : lV Tryz.prog 8 [23, 3, 3, 23] pvs := h
 obtain ⟨nl, l, rfl, hr⟩ := uO h0
 obtain ⟨i, rfl⟩ := uS h1
 obtain ⟨j, rfl⟩ := uS h2
 obtain ⟨nl2, l2, rfl, hr2⟩ := uO h3
 exact zub _ _ l hr i j _ _ l2 hr2
theorem lawLocalWhole {pvs : List PV} (h : lV Tryz.prog 8 Tryz.f8.params.toList pvs) : PCall Tryz.prog 8 pvs fun v => v = .bool true := by
 obtain ⟨v0, r0, rfl, h0, v1, r1, rfl, h1, v2, r2, rfl, h2, v3, r3, rfl, h3, rfl⟩ : lV Tryz.prog 8 [23, 3, 3, 23] pvs := h
 obtain ⟨nl, l, rfl, hr⟩ := uO h0
 obtain ⟨i, rfl⟩ := uS h1
 obtain ⟨j, rfl⟩ := uS h2
 obtain ⟨nl2, l2, rfl, hr2⟩ := uO h3
 exact zuc _ _ l hr i j _ _ l2 hr2
end Go.Eng


