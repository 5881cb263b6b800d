/- States run over the code: what each function gives, and what follows. -/
import Derived.Test.YtijgnoilmmppcaaGreatFo4Tc
open Go.IntKind (i64 i32)
set_option linter.unusedVariables false
set_option maxRecDepth 100000
set_option linter.constructorNameAsVariable false
namespace Go.Eng
open Go Go.Proofs
section
variable (a b : Int)
def zkh (R : PV -> Prop) : Prop :=
 if (decide (a >= 4352) && decide (a <= 4370) && decide (b >= 4449) && decide (b <= 4469)) = true then R (PV.tup [Z3 (i32.wrap (i64.wrap (i64.wrap ((44032 : Int) + i64.wrap (i64.wrap (i64.wrap a -
 4352) * 588)) + i64.wrap (i64.wrap (i64.wrap b - 4449) * 28)))), Zb true]) else ACall Tryz.prog 110 [LV.pv (Z3 a)] [] fun (r : LV) (h' : Hp) => (∃ (t : Bool × LL), (r = LV.own 0 /\ h' = [Ob.sl (21, 1) true t.fst
 t.snd]) /\ True /\ if ((↑t.snd.length : Int) == 2 && decide (b >= 4520) && decide (b <= 4546)) = true then R (PV.tup [Z3 (i32.wrap (a + i32.wrap (b - 4519))), Zb true]) else R (PV.tup [Z3 0, Zb false])) ∨ ∃ (t : Bool × LL), (r =
 LV.pv (PV.sl t.fst true t.snd) /\ h' = []) /\ True /\ if ((↑t.snd.length : Int) == 2 && decide (b >= 4520) && decide (b <= 4546)) = true then R (PV.tup [Z3 (i32.wrap (a + i32.wrap (b - 4519))), Zb true]) else R (PV.tup [Z3 0, Zb
 false])
theorem zvz {R : PV -> Prop} (h : zkh a b R) : PCall Tryz.prog 137 [.int .i32 a, .int .i32 b] R :=
 PCall.of Tryz.func137 (by kernel_rfl) (by kernel_rfl) (zl (by kernel_rfl)) (Eq.mpr (by kernel_rfl : aO Tryz.prog (fun zz_ => match zz_ with | 110 => some ⟨Bool × LL, fun _ hs t => (.own hs.length, hs ++ [.sl (21, 1) true t.1 t.2]), some ⟨Bool × LL, fun _ hs t => (.pv (.sl t.1 true t.2), hs)⟩⟩ | _ => none) Tryz.f137 [0, 1, 4, 5, 6, 20, 44] (fun _ => none) (Tryz.f137.body.getD .skip) [.int .i32 a, .int .i32 b] R = _) h)
end
def zbj (n f : Bool) (es : LL) (a b : Int) (x8 : Int) (x9 : Bool) (x10 : Int) : Env × Hp := ([(0, LV.pv (PV.sl n f es)), (1, LV.pv (PV.int i32 a)), (2, LV.pv (PV.int i32 b)), (8, .pv (.int i32 x8)), (9, .pv (.bool x9)), (10, Y6 x10)], [])
section
variable (n f : Bool) (es : LL) (a b : Int) (J : Int -> Bool -> Int -> Prop) (μ : Int -> Bool -> Int -> Nat)
def zki (R : PV -> Prop) : Prop :=
 (aG (zbj n f es a b (0 : Int) false (0 : Int)) /\ J (0 : Int) false (0 : Int)) /\ ∀ (x8 : Int) (x9 : Bool) (x10 : Int), J x8 x9 x10 ->
 let K4 := fun (y0_ : Int) (y1_ : Bool) (y2_ : Int) => aG (zbj n f es a b y0_ y1_ y2_) /\ J y0_ y1_ y2_ /\ μ y0_ y1_ y2_ < μ x8 x9 x10; if decide (x10 < (↑es.length : Int)) = true then aK es x10 5 /\ ∃ n1, (List.drop 0
  (es.getD x10.toNat [])).head? = some (Z6 n1) /\
 let V1 := K4 x8 x9 (i64.wrap (x10 + 1)); if (n1 != 2) = true then V1 else aK es x10 5 /\ ∃ n2, (List.drop 3 (es.getD x10.toNat [])).head? = some (Z6 n2) /\ if (n2 != i64.wrap a) = true then V1 else aK es x10 5 /\
  ∃ n3, (List.drop 4 (es.getD x10.toNat [])).head? = some (Z6 n3) /\ if (n3 != i64.wrap b || b == 0) = true then V1 else aK es x10 5 /\ ∃ n4, (List.drop 1 (es.getD x10.toNat [])).head? = some (Z6 n4) /\ PCall
  Tryz.prog 111 [PV.sl n f es, Z3 (i32.wrap n4)] fun v => ∃ vs, v = PV.tup vs /\ vs.length = 3 /\ ∃ x, vs.head? = some x /\ ∃ n5, x = Z3 n5 /\ ∃ x1, vs.tail.head? = some x1 /\ ∃ n6, x1 =
  Z3 n6 /\ ∃ x2, vs.tail.tail.head? = some x2 /\ ∃ b1, x2 = Zb b1 /\ if (b1 && n5 == a && n6 == b) = true then PCall Tryz.prog 159 [PV.sl n f es, Z3 (i32.wrap n4)] fun v1 => ∃ b2, v1 = Zb b2 /\ if (!b2 &&
  (!x9 || decide (i32.wrap n4 < x8))) = true then K4 (i32.wrap n4) true (i64.wrap (x10 + 1)) else V1 else V1 else R (PV.tup [Z3 x8, Zb x9])
theorem zv0 {R : PV -> Prop} (h : zki n f es a b J μ R) : PCall Tryz.prog 138 [.sl n f es, .int .i32 a, .int .i32 b] R :=
 PCall.of Tryz.func138 (by kernel_rfl) (by kernel_rfl) (zl (by kernel_rfl)) (Eq.mpr (by kernel_rfl : aO Tryz.prog (fun _ => none) Tryz.f138 [0, 1, 2, 6, 7, 8, 9, 10, 11, 12, 13, 14, 18, 50, 89] (fun zz_ => match zz_ with | 4 => some ⟨Int × Bool × Int, fun s => zbj n f es a b s.1 s.2.1 s.2.2, fun _ s => J s.1 s.2.1 s.2.2, fun s => μ s.1 s.2.1 s.2.2, fun e h => (gI e 8, gB e 9, gI e 10), [], [0, 1, 2, 8, 9, 10], [], fun p => ∀ (x8 : Int) (x9 : Bool) (x10 : Int), p (x8, x9, x10), fun p h s => h s.1 s.2.1 s.2.2⟩ | _ => none) (Tryz.f138.body.getD .skip) [.sl n f es, .int .i32 a, .int .i32 b] R = _) h)
end
section
variable (n f : Bool) (es : LL) (a b : Int)
def zkj (R : PV -> Prop) : Prop :=
 PCall Tryz.prog 137 [Z3 a, Z3 b] fun v => ∃ vs, v = PV.tup vs /\ vs.length = 2 /\ ∃ x, vs.head? = some x /\ ∃ n1, x = Z3 n1 /\ ∃ x1, vs.tail.head? = some x1 /\ ∃ b1, x1 = Zb b1 /\ if b1 = true then
 R (PV.tup [Z3 n1, Zb true]) else PCall Tryz.prog 138 [PV.sl n f es, Z3 a, Z3 b] fun v1 => ∃ vs1, v1 = PV.tup vs1 /\ vs1.length = 2 /\ ∃ x2, vs1.head? = some x2 /\ ∃ n2, x2 = Z3 n2 /\ ∃ x3, vs1.tail.head?
 = some x3 /\ ∃ b2, x3 = Zb b2 /\ R (PV.tup [Z3 n2, Zb b2])
theorem zv1 {R : PV -> Prop} (h : zkj n f es a b R) : PCall Tryz.prog 108 [.sl n f es, .int .i32 a, .int .i32 b] R :=
 PCall.of Tryz.func108 (by kernel_rfl) (by kernel_rfl) (zl (by kernel_rfl)) (Eq.mpr (by kernel_rfl : aO Tryz.prog (fun _ => none) Tryz.f108 [0, 1, 2, 6, 7, 8, 9, 16] (fun _ => none) (Tryz.f108.body.getD .skip) [.sl n f es, .int .i32 a, .int .i32 b] R = _) h)
end
def zbk (n f : Bool) (es : LL) (n2 f2 : Bool) (ss : LL) (x5 : Int) : Env × Hp := ([(0, LV.pv (PV.sl n f es)), (1, LV.pv (PV.sl n2 f2 ss)), (5, Y6 x5)], [])
section
variable (n f : Bool) (es : LL) (n2 f2 : Bool) (ss : LL) (J : Int -> Prop) (μ : Int -> Nat)
def zkk (R : PV -> Prop) : Prop :=
 (aG (zbk n f es n2 f2 ss (i64.wrap ((↑ss.length : Int) - 1))) /\ J (i64.wrap ((↑ss.length : Int) - 1))) /\ ∀ (x5 : Int), J x5 -> if decide (x5 >= 0) = true then aK ss x5 1 /\ ∃ n1, (ss.getD x5.toNat []).head? =
 some (Z3 n1) /\ PCall Tryz.prog 75 [PV.sl n f es, Z3 n1] fun v => ∃ n3, v = Z6 n3 /\ if (n3 == 0) = true then R (Z6 x5) else aG (zbk n f es n2 f2 ss (i64.wrap (x5 - 1))) /\ J (i64.wrap (x5 - 1)) /\ μ
 (i64.wrap (x5 - 1)) < μ x5 else R (Z6 (-1 : Int))
theorem zv2 {R : PV -> Prop} (h : zkk n f es n2 f2 ss J μ R) : PCall Tryz.prog 106 [.sl n f es, .sl n2 f2 ss] R :=
 PCall.of Tryz.func106 (by kernel_rfl) (by kernel_rfl) (zl (by kernel_rfl)) (Eq.mpr (by kernel_rfl : aO Tryz.prog (fun _ => none) Tryz.f106 [0, 1, 4, 5, 10, 19] (fun zz_ => match zz_ with | 2 => some ⟨Int × Unit, fun s => zbk n f es n2 f2 ss s.1, fun _ s => J s.1, fun s => μ s.1, fun e h => (((gI e 5), ())), [], [0, 1, 5], [], fun p => ∀ (x5 : Int), p (x5, ()), fun p h s => h s.1⟩ | _ => none) (Tryz.f106.body.getD .skip) [.sl n f es, .sl n2 f2 ss] R = _) h)
end
section
variable (n f : Bool) (es : LL) (n2 f2 : Bool) (ss : LL) (k r : Int)
def zkl (R : PV -> Prop) : Prop :=
 if (k == i64.wrap ((↑ss.length : Int) - 1)) = true then R (Zb true) else aK ss (i64.wrap ((↑ss.length : Int) - 1)) 1 /\ ∃ n1, (ss.getD (i64.wrap ((↑ss.length : Int) - 1)).toNat []).head? = some (Z3 n1) /\
 PCall Tryz.prog 75 [PV.sl n f es, Z3 n1] fun v => ∃ n3, v = Z6 n3 /\ PCall Tryz.prog 75 [PV.sl n f es, Z3 r] fun v1 => ∃ n4, v1 = Z6 n4 /\ R (Zb (decide (n3 < n4)))
theorem zv3 {R : PV -> Prop} (h : zkl n f es ss k r R) : PCall Tryz.prog 107 [.sl n f es, .sl n2 f2 ss, .int .i64 k, .int .i32 r] R :=
 PCall.of Tryz.func107 (by kernel_rfl) (by kernel_rfl) (zl (by kernel_rfl)) (Eq.mpr (by kernel_rfl : aO Tryz.prog (fun _ => none) Tryz.f107 [0, 1, 2, 3, 8, 13] (fun _ => none) (Tryz.f107.body.getD .skip) [.sl n f es, .sl n2 f2 ss, .int .i64 k, .int .i32 r] R = _) h)
end
def zbl (n f : Bool) (es : LL) (n2 f2 : Bool) (ss : LL) (x6 : Int) (n_0 : Bool) (s_0 : LL) : Env × Hp := ([(0, LV.pv (PV.sl n f es)), (1, LV.pv (PV.sl n2 f2 ss)), (5, LV.own 0), (6, Y6 x6)], [.sl (21, 1) true n_0 s_0])
section
variable (n f : Bool) (es : LL) (n2 f2 : Bool) (ss : LL) (J : Int -> Bool -> LL -> Prop) (μ : Int -> Bool -> LL -> Nat)
def zkm (R : PV -> Prop) : Prop :=
 (aG (zbl n f es n2 f2 ss (0 : Int) true []) /\ J (0 : Int) true []) /\ ∀ (x6 : Int) (n_0 : Bool) (s_0 : LL), J x6 n_0 s_0 ->
 let K3 := fun (y0_ : Int) (y1_ : Bool) (y2_ : LL) => aG (zbl n f es n2 f2 ss y0_ y1_ y2_) /\ J y0_ y1_ y2_ /\ μ y0_ y1_ y2_ < μ x6 n_0 s_0; if decide (x6 < (↑ss.length : Int)) = true then PCall Tryz.prog 106 [PV.sl n f es, PV.sl n_0
  false s_0] fun v => ∃ n1, v = Z6 n1 /\ true = true /\
 let V1 := aK ss x6 1 /\ ∃ n7, (ss.getD x6.toNat []).head? = some (Z3 n7) /\ (aT [[Z3 n7]] 1 /\ (s_0.length + 1) * 4 <= 140737488355328) /\ K3 (i64.wrap (x6 + 1)) (n_0 && false) (s_0 ++ [[Z3 n7]]); if decide (n1 >= 0) = true
  then aK ss x6 1 /\ ∃ n3, (ss.getD x6.toNat []).head? = some (Z3 n3) /\ PCall Tryz.prog 107 [PV.sl n f es, PV.sl n_0 false s_0, Z6 n1, Z3 n3] fun v1 => ∃ b, v1 = Zb b /\ true = true /\ if b = true then aK s_0 n1 1
  /\ ∃ n4, (List.drop 0 (s_0.getD n1.toNat [])).head? = some (Z3 n4) /\ aK ss x6 1 /\ ∃ n5, (ss.getD x6.toNat []).head? = some (Z3 n5) /\ PCall Tryz.prog 108 [PV.sl n f es, Z3 n4, Z3 n5] fun v2 => ∃ vs, v2
  = PV.tup vs /\ vs.length = 2 /\ ∃ x, vs.head? = some x /\ ∃ n6, x = Z3 n6 /\ ∃ x1, vs.tail.head? = some x1 /\ ∃ b1, x1 = Zb b1 /\ if b1 = true then aK s_0 n1 1 /\ (1 = 1 /\ 1 <= (s_0.getD n1.toNat []).length) /\
  K3 (i64.wrap (x6 + 1)) n_0 (s_0.set n1.toNat (Z3 n6 :: zq (List.drop 1 (s_0.getD n1.toNat [])))) else V1 else V1 else V1 else R (PV.sl n_0 false s_0)
theorem zv4 {R : PV -> Prop} (h : zkm n f es n2 f2 ss J μ R) : PCall Tryz.prog 72 [.sl n f es, .sl n2 f2 ss] R :=
 PCall.of Tryz.func72 (by kernel_rfl) (by kernel_rfl) (zl (by kernel_rfl)) (Eq.mpr (by kernel_rfl : aO Tryz.prog (fun _ => none) Tryz.f72 [0, 1, 4, 5, 6, 7, 8, 9, 13, 30, 44] (fun zz_ => match zz_ with | 3 => some ⟨Int × Bool × LL, fun s => zbl n f es n2 f2 ss s.1 s.2.1 s.2.2, fun _ s => J s.1 s.2.1 s.2.2, fun s => μ s.1 s.2.1 s.2.2, fun e h => (gI e 6, oN h 0, oS h 0), [(5, 21, 1)], [0, 1, 5, 6], [], fun p => ∀ (x6 : Int) (n_0 : Bool) (s_0 : LL), p (x6, n_0, s_0), fun p h s => h s.1 s.2.1 s.2.2⟩ | _ => none) (Tryz.f72.body.getD .skip) [.sl n f es, .sl n2 f2 ss] R = _) h)
end
section
variable (n f : Bool) (es : LL) (n2 f2 : Bool) (ss : LL)
def zkn (R : PV -> Prop) : Prop :=
 PCall Tryz.prog 32 [PV.sl n f es, PV.sl n2 f2 ss] fun v => ∃ n1 f1 es1, v = PV.sl n1 f1 es1 /\ PCall Tryz.prog 72 [PV.sl n f es, PV.sl n1 f1 es1] fun v1 => ∃ n3 f3, ∃ (es2 :
 LL), v1 = PV.sl n3 f3 es2 /\ R (PV.sl n3 f3 es2)
theorem zv5 {R : PV -> Prop} (h : zkn n f es n2 f2 ss R) : PCall Tryz.prog 30 [.sl n f es, .sl n2 f2 ss] R :=
 PCall.of Tryz.func30 (by kernel_rfl) (by kernel_rfl) (zl (by kernel_rfl)) (Eq.mpr (by kernel_rfl : aO Tryz.prog (fun _ => none) Tryz.f30 [0, 1, 4] (fun _ => none) (Tryz.f30.body.getD .skip) [.sl n f es, .sl n2 f2 ss] R = _) h)
end
end Go.Eng


set_option linter.unusedSimpArgs false
namespace Go.Eng
open Go Go.Proofs Go.Eng.Rows Go.Eng.Trie Go.Eng.Srt
theorem zv6 {r : Int} (hs : bN r = false) : ACall Tryz.prog 110 [.pv (.int .i32 r)] [] fun r1 h' => r1 = .pv (.sl true true []) /\ h' = [] := by
 refine zeu _ ?_; unfold wZ
 refine (pIs r).mono ?_
 rintro _ rfl
 refine ⟨_, rfl, ?_⟩
 rw [hs]
 exact bG rfl ⟨rfl, rfl⟩
theorem zv7 {a b : Int} (ha : -2147483648 <= a /\ a <= 2147483647) (hb : -2147483648 <= b /\ b <= 2147483647) : PCall Tryz.prog 137 [.int .i32 a, .int .i32 b] fun v => v = nP (fZ a b) := by
 refine zvz _ _ ?_; unfold zkh
 have wa : i64.wrap a = a := aC (by omega) (by omega)
 have wb : i64.wrap b = b := aC (by omega) (by omega)
 rw [wa, wb]
 refine aD (fun hc => ?_) (fun hc => ?_)
 ·simp only [Bool.and_eq_true, decide_eq_true_eq, ge_iff_le] at hc
  have w1 : i64.wrap (a - 4352) = a - 4352 := aC (by omega) (by omega)
  have w2 : i64.wrap ((a - 4352) * 588) = (a - 4352) * 588 := aC (by omega) (by omega)
  have w3 : i64.wrap (44032 + (a - 4352) * 588) = 44032 + (a - 4352) * 588 := aC (by omega) (by omega)
  have w4 : i64.wrap (b - 4449) = b - 4449 := aC (by omega) (by omega)
  have w5 : i64.wrap ((b - 4449) * 28) = (b - 4449) * 28 := aC (by omega) (by omega)
  rw [w1, w2, w3, w4, w5]
  have w6 : i64.wrap (44032 + (a - 4352) * 588 + (b - 4449) * 28) = 44032 + (a - 4352) * 588 + (b - 4449) * 28 := aC (by omega) (by omega)
  rw [w6]
  have w7 : i32.wrap (44032 + (a - 4352) * 588 + (b - 4449) * 28) = 44032 + (a - 4352) * 588 + (b - 4449) * 28 := dM (by omega) (by omega)
  rw [w7]
  unfold fZ
  rw [if_pos (by omega)]
  simp only [nP]
  rw [show 44032 + (a - 4352) * 588 + (b - 4449) * 28 = 44032 + ((a - 4352) * 21 + (b - 4449)) * 28 by omega]
 ·simp only [Bool.and_eq_true, decide_eq_true_eq, ge_iff_le] at hc
  have hn : ¬ ((4352 <= a /\ a < 4371) /\ 4449 <= b /\ b < 4470) := by omega
  have fin : ∀ (l : List (List PV)), (((l.length : Int) = 2 ↔ (bN a = true /\ (a - 44032) % 28 = 0))) -> (if (((l.length : Int)) == 2 && decide (b >= 4520) && decide (b <= 4546)) = true then (PV.tup [.int .i32 (i32.wrap (a + i32.wrap (b - 4519))), .bool true] : PV) = nP (fZ a b) else (PV.tup [.int .i32 0, .bool false] : PV) = nP (fZ a b)) := fun l hl => by
   refine aD (fun h2 => ?_) (fun h2 => ?_)
   ·simp only [Bool.and_eq_true, decide_eq_true_eq, beq_iff_eq, ge_iff_le] at h2
    have hs := hl.1 h2.1.1
    have hr := hs.1
    simp only [bN, Bool.and_eq_true, decide_eq_true_eq] at hr
    have w1 : i32.wrap (b - 4519) = b - 4519 := dM (by omega) (by omega)
    have w2 : i32.wrap (a + (b - 4519)) = a + (b - 4519) := dM (by omega) (by omega)
    rw [w1, w2]
    unfold fZ; rw [if_neg hn, if_pos ⟨hs, by omega, by omega⟩]; rfl
   ·simp only [Bool.and_eq_true, decide_eq_true_eq, beq_iff_eq, ge_iff_le] at h2
    unfold fZ; rw [if_neg hn, if_neg (fun h => h2 ⟨⟨hl.2 h.1, by omega⟩, by omega⟩)]; rfl
  cases hs : bN a with
  | false =>
    refine (zv6 hs).mono ?_
    rintro _ _ ⟨rfl, rfl⟩
    exact .inr ⟨(true, []), ⟨rfl, rfl⟩, trivial, fin [] (by rw [hs]; simp)⟩
  | true =>
    have hl : ((aA (dP a)).length : Int) = 2 ↔ (bN a = true /\ (a - 44032) % 28 = 0) := by
     rw [aS, hs]
     unfold dP
     split <;> simp [*]
    refine (zU hs).mono ?_
    rintro r1 h' (⟨nl, rfl, rfl⟩ | ⟨rfl, rfl⟩)
    ·exact .inl ⟨(nl, _), ⟨rfl, rfl⟩, trivial, fin _ hl⟩
    ·exact .inr ⟨(false, _), ⟨rfl, rfl⟩, trivial, fin _ hl⟩
section
variable {rows : List Row}
def nT (o : Option Int) : Int := o.getD 0
theorem zv8 (hp : cX rows) (h1 : eB rows) (n f : Bool) {a b : Int} (hl : rows.length < 1000000) (ha : -2147483648 <= a /\ a <= 2147483647) (hb : -2147483648 <= b /\ b <= 2147483647) :
 PCall Tryz.prog 138 [.sl n f (aZ rows), .int .i32 a, .int .i32 b] fun v => v = nP (nO rows a b) := by
 refine zv0 _ _ _ _ _ (fun x8 x9 i => (0 <= i /\ i <= rows.length) /\ x8 = nT ((rows.take i.toNat).foldl (Rows.cmpS rows a b) none) /\ x9 = ((rows.take i.toNat).foldl (Rows.cmpS rows a b) none).isSome) (fun _ _ i => rows.length - i.toNat) ?_
 unfold zki
 refine ⟨⟨rfl, ⟨Int.le_refl _, by omega⟩, rfl, rfl⟩, ?_⟩
 rintro x8 x9 i ⟨⟨i0, i1⟩, h8, h9⟩
 have wa : i64.wrap a = a := aC (by omega) (by omega)
 have wb : i64.wrap b = b := aC (by omega) (by omega)
 rw [wa, wb]
 refine aD (fun hc => ?_) (fun hc => ?_)
 ·simp only [decide_eq_true_eq, g9] at hc
  have hi : i.toNat < rows.length := by omega
  have hw : i64.wrap (i + 1) = i + 1 := aC (by omega) (by omega)
  have hg : (aZ rows).getD i.toNat [] = lX rows[i.toNat] := cN hi
  have hix : aK (aZ rows) i 5 := bW nF i0 (by omega)
  have hmem := List.getElem_mem hi
  have hst : (rows.take (i + 1).toNat).foldl (Rows.cmpS rows a b) none = Rows.cmpS rows a b ((rows.take i.toNat).foldl (Rows.cmpS rows a b) none) rows[i.toNat] := by
   rw [show (i + 1).toNat = i.toNat + 1 by omega, cG hi, List.foldl_append]; rfl
  rw [hw]
  generalize (rows.take i.toNat).foldl (Rows.cmpS rows a b) none = o at *
  generalize rows[i.toNat] = x at *
  have skip : eE rows a b x = false -> (0 <= i + 1 /\ i + 1 <= rows.length) /\ x8 = nT ((rows.take (i + 1).toNat).foldl (Rows.cmpS rows a b) none) /\ x9 = ((rows.take (i + 1).toNat).foldl (Rows.cmpS rows a b) none).isSome := fun h => by
   rw [hst]; unfold Rows.cmpS; rw [h]; exact ⟨⟨by omega, by omega⟩, h8, h9⟩
  have hmu : rows.length - (i + 1).toNat < rows.length - i.toNat := by omega
  refine ⟨hix, x.kind, by rw [hg]; rfl, aD (fun c1 => ?_) (fun c1 => ?_)⟩
  ·simp only [bne_iff_ne, ne_eq] at c1
   exact ⟨rfl, skip (by simp [eE, c1]), hmu⟩
  simp only [bne_iff_ne, ne_eq, Decidable.not_not] at c1
  refine ⟨hix, x.a, by rw [hg]; rfl, aD (fun c2 => ?_) (fun c2 => ?_)⟩
  ·simp only [bne_iff_ne, ne_eq] at c2
   exact ⟨rfl, skip (by simp [eE, c2]), hmu⟩
  simp only [bne_iff_ne, ne_eq, Decidable.not_not] at c2
  refine ⟨hix, x.b, by rw [hg]; rfl, aD (fun c3 => ?_) (fun c3 => ?_)⟩
  ·simp only [Bool.or_eq_true, bne_iff_ne, ne_eq, beq_iff_eq] at c3
   refine ⟨rfl, skip ?_, hmu⟩
   rcases c3 with c3 | c3
   ·simp [eE, c3]
   ·simp [eE, c3]
  simp only [Bool.or_eq_true, bne_iff_ne, ne_eq, beq_iff_eq, not_or, Decidable.not_not] at c3
  obtain ⟨hpx, hfr⟩ := zas h1 hmem c1
  have wf : i32.wrap x.fr = x.fr := dM (by omega) (by omega)
  refine ⟨hix, x.fr, by rw [hg]; rfl, ?_⟩
  rw [wf]
  refine (tI hp n f x.fr hl (by omega)).mono ?_
  rintro _ rfl
  rw [hpx, c2, c3.1]
  refine ⟨_, rfl, rfl, _, rfl, _, rfl, _, rfl, _, rfl, _, rfl, _, rfl, bG (by simp [c3.2]) ?_⟩
  refine (zvy hp n f x.fr hl (by omega)).mono ?_
  rintro _ rfl
  refine ⟨_, rfl, ?_⟩
  cases ho : dO rows x.fr with
  | true => exact bK (by simp) ⟨rfl, skip (by simp [eE, ho]), hmu⟩
  | false =>
    have hcb : eE rows a b x = true := by simp [eE, c1, c2, c3.1, c3.2, ho]
    cases o with
    | none =>
      simp only [Option.isSome] at h9
      refine bG (by rw [h9]; rfl) ⟨rfl, ⟨⟨by omega, by omega⟩, ?_, ?_⟩, hmu⟩
      ·rw [hst]; simp [Rows.cmpS, hcb, nT]
      ·rw [hst]; simp [Rows.cmpS, hcb]
    | some r =>
      simp only [Option.isSome] at h9
      simp only [nT, Option.getD] at h8
      refine aD (fun c4 => ?_) (fun c4 => ?_)
      ·rw [h9, h8] at c4
       simp at c4
       refine ⟨rfl, ⟨⟨by omega, by omega⟩, ?_, ?_⟩, hmu⟩
       ·rw [hst]; simp [Rows.cmpS, hcb, nT, c4]
       ·rw [hst]; simp [Rows.cmpS, hcb, c4]
      ·rw [h9, h8] at c4
       simp at c4
       refine ⟨rfl, ⟨⟨by omega, by omega⟩, ?_, ?_⟩, hmu⟩
       ·have hlt : ¬ x.fr < r := by omega
        rw [hst, h8]; simp [Rows.cmpS, hcb, nT, hlt]
       ·rw [hst, h9]; simp [Rows.cmpS, hcb]; split <;> rfl
 ·simp only [decide_eq_true_eq, g9] at hc
  rw [List.take_of_length_le (by omega)] at h8 h9
  unfold nO
  rw [h8, h9]
  cases rows.foldl (Rows.cmpS rows a b) none <;> rfl
theorem zv9 (hp : cX rows) (h1 : eB rows) (n f : Bool) {a b : Int} (hl : rows.length < 1000000) (ha : -2147483648 <= a /\ a <= 2147483647) (hb : -2147483648 <= b /\ b <= 2147483647) :
 PCall Tryz.prog 108 [.sl n f (aZ rows), .int .i32 a, .int .i32 b] fun v => v = nP (fG rows a b) := by
 refine zv1 _ _ _ _ _ ?_; unfold zkj
 refine (zv7 ha hb).mono ?_
 rintro _ rfl
 unfold fG
 cases fZ a b with
 | some r => exact ⟨_, rfl, rfl, _, rfl, _, rfl, _, rfl, _, rfl, bG rfl rfl⟩
 | none =>
   refine ⟨_, rfl, rfl, _, rfl, _, rfl, _, rfl, _, rfl, bK (by simp) ?_⟩
   refine (zv8 hp h1 n f hl ha hb).mono ?_
   rintro _ rfl
   cases nO rows a b with
   | none => exact ⟨_, rfl, rfl, _, rfl, _, rfl, _, rfl, _, rfl, rfl⟩
   | some r => exact ⟨_, rfl, rfl, _, rfl, _, rfl, _, rfl, _, rfl, rfl⟩
theorem zwa {st : CSt} (h0 : st.s = none -> st.P = []) (h1 : ∀ a, st.s = some a -> aB rows 1 a = 0) (h2 : ∀ m ∈ st.M, aB rows 1 m ≠ 0) :
 (eL st = -1 /\ ∀ k (h : k < st.out.length), aB rows 1 st.out[k] ≠ 0) ∨ (∃ k : Nat, eL st = (k : Int) /\ ∃ h : k < st.out.length, aB rows 1 st.out[k] = 0 /\ ∀ j (hj : j < st.out.length), k < j -> aB rows 1 st.out[j] ≠ 0) := by
 cases hs : st.s with
 | none =>
   have hP := h0 hs
   have ho : st.out = st.M := by simp [CSt.out, hs, hP]
   refine .inl ⟨by simp [eL, hs], fun k hk => h2 _ ?_⟩
   have := List.getElem_mem hk
   rw [<- ho]; exact this
 | some a =>
   have ho : st.out = st.P ++ a :: st.M := by simp [CSt.out, hs]
   refine .inr ⟨st.P.length, by simp [eL, hs], by rw [ho]; simp, ?_, fun j hj hlt => h2 _ ?_⟩
   ·simp only [ho, List.getElem_append_right (Nat.le_refl _), Nat.sub_self, List.getElem_cons_zero]; exact h1 a hs
   ·simp only [ho]
    rw [List.getElem_append_right (by omega), List.getElem_cons]
    rw [dif_neg (by omega)]
    exact List.getElem_mem _
theorem zwb (n f n2 f2 : Bool) (hl : rows.length < 1000000) (L : List Int) (hr : R32 L) (hL : L.length < 1000000000000) :
 PCall Tryz.prog 106 [.sl n f (aZ rows), .sl n2 f2 (aA L)] fun v => ∃ x : Int, v = .int .i64 x /\ ((x = -1 /\ ∀ k (h : k < L.length), aB rows 1 L[k] ≠ 0) ∨ (∃ k : Nat, x = (k : Int) /\ ∃ h : k < L.length, aB rows 1 L[k] = 0 /\ ∀ j (hj : j < L.length), k < j -> aB rows 1 L[j] ≠ 0)) := by
 refine zv2 _ _ _ _ _ _ (fun x => (-1 <= x /\ x < L.length) /\ ∀ j (hj : j < L.length), x < j -> aB rows 1 L[j] ≠ 0) (fun x => (x + 1).toNat) ?_
 unfold zkk
 have hw : i64.wrap ((aA L).length - 1) = L.length - 1 := by rw [aS]; exact aC (by omega) (by omega)
 rw [hw]
 refine ⟨⟨rfl, ⟨by omega, by omega⟩, fun j hj h => by omega⟩, ?_⟩
 rintro x ⟨⟨x0, x1⟩, hx⟩
 refine aD (fun hc => ?_) (fun hc => ?_)
 ·simp only [decide_eq_true_eq, ge_iff_le] at hc
  have hi : x.toNat < L.length := by omega
  obtain ⟨g1, g2⟩ := e9 hc hi
  have hw1 : i64.wrap (x - 1) = x - 1 := aC (by omega) (by omega)
  refine ⟨g1, L[x.toNat], by rw [g2]; rfl, ?_⟩
  refine (qC n f _ hl (hr _ (List.getElem_mem hi))).mono ?_
  rintro _ rfl
  refine ⟨_, rfl, ?_⟩
  rw [hw1]
  refine aD (fun h0 => ?_) (fun h0 => ?_)
  ·simp only [beq_iff_eq] at h0
   exact ⟨x, rfl, .inr ⟨x.toNat, by omega, hi, h0, fun j hj hlt => hx j hj (by omega)⟩⟩
  ·simp only [beq_iff_eq] at h0
   refine ⟨rfl, ⟨⟨by omega, by omega⟩, fun j hj hlt => ?_⟩, by dsimp only; omega⟩
   by_cases he : j = x.toNat
   ·subst he; exact h0
   ·exact hx j hj (by omega)
 ·simp only [decide_eq_true_eq, ge_iff_le] at hc
  exact ⟨-1, rfl, .inl ⟨rfl, fun k hk => hx k hk (by omega)⟩⟩
theorem zwc (n f n2 f2 : Bool) (hl : rows.length < 1000000) (L : List Int) (hr : R32 L) (hL : L.length < 1000000000000) (h0 : 0 < L.length) (k : Int) {r : Int} (hx : -2147483648 <= r /\ r <= 2147483647) :
 PCall Tryz.prog 107 [.sl n f (aZ rows), .sl n2 f2 (aA L), .int .i64 k, .int .i32 r] fun v => v = .bool (decide (k = L.length - 1) || decide (dK (aB rows 1) L < aB rows 1 r)) := by
 refine zv3 _ _ _ _ _ _ _ _ ?_; unfold zkl
 have hw : i64.wrap ((aA L).length - 1) = L.length - 1 := by rw [aS]; exact aC (by omega) (by omega)
 rw [hw]
 refine aD (fun hc => ?_) (fun hc => ?_)
 ·simp only [beq_iff_eq] at hc; simp [hc]
 ·simp only [beq_iff_eq] at hc
  have hi : ((L.length : Int) - 1).toNat < L.length := by omega
  obtain ⟨g1, g2⟩ := e9 (l := L) (i := (L.length : Int) - 1) (by omega) hi
  refine ⟨g1, L[((L.length : Int) - 1).toNat], by rw [g2]; rfl, ?_⟩
  refine (qC n f _ hl (hr _ (List.getElem_mem hi))).mono ?_
  rintro _ rfl
  refine ⟨_, rfl, ?_⟩
  refine (qC n f _ hl hx).mono ?_
  rintro _ rfl
  refine ⟨_, rfl, ?_⟩
  have : dK (aB rows 1) L = aB rows 1 L[((L.length : Int) - 1).toNat] := by
   unfold dK
   rw [List.getLast?_eq_getElem?, List.getElem?_eq_getElem (by omega)]
   simp only
   congr 2
   omega
  rw [this]; simp [hc]
theorem zwd (hp : cX rows) (h1 : eB rows) (hs0 : ∀ (d : List Int) a, (bE rows d).s = some a -> aB rows 1 a = 0) (n f n2 f2 : Bool) (hl : rows.length < 1000000) (L : List Int) (hr : R32 L) (hL : L.length < 1000000000000) :
 PCall Tryz.prog 72 [.sl n f (aZ rows), .sl n2 f2 (aA L)] fun x => ∃ n f, x = .sl n f (aA (gA rows L)) := by
 refine zv4 _ _ _ _ _ _ (fun i _ s => (0 <= i /\ i <= L.length) /\ s = aA (bE rows (L.take i.toNat)).out) (fun i _ _ => L.length - i.toNat) ?_
 unfold zkm
 refine ⟨⟨rfl, ⟨Int.le_refl _, by omega⟩, rfl⟩, ?_⟩
 rintro i n0 _ ⟨⟨i0, i1⟩, rfl⟩
 refine aD (fun hc => ?_) (fun hc => ?_)
 ·simp only [decide_eq_true_eq, aS] at hc
  have hi : i.toNat < L.length := by omega
  obtain ⟨g1, g2⟩ := e9 i0 hi
  have hx := hr _ (List.getElem_mem hi)
  have hw : i64.wrap (i + 1) = i + 1 := aC (by omega) (by omega)
  rw [hw]
  have hlen := zie rows (L.take i.toNat)
  have hrng := zif h1 (L.take i.toNat)
  have hnz := ztg (rows := rows) (d := L.take i.toNat)
  have hnP := tW (rows := rows) (d := L.take i.toNat)
  have hsk := hs0 (L.take i.toNat)
  rw [List.length_take] at hlen
  unfold gA at hlen hrng
  have next : ∀ st2, cO rows (bE rows (L.take i.toNat)) L[i.toNat] = st2 -> (0 <= i + 1 /\ i + 1 <= L.length) /\ aA st2.out = aA (bE rows (L.take (i + 1).toNat)).out := fun st2 he => by
   rw [show (i + 1).toNat = i.toNat + 1 by omega, cG hi, fH, he]; exact ⟨⟨by omega, by omega⟩, rfl⟩
  generalize bE rows (L.take i.toNat) = st at *
  have hmu : L.length - (i + 1).toNat < L.length - i.toNat := by omega
  have hr2 : R32 st.out := fun y hy => by
   rcases hrng y hy with h | h
   ·exact hr y (List.mem_of_mem_take h)
   ·omega
  have hsz : aT [[PV.int .i32 L[i.toNat]]] 1 /\ ((aA st.out).length + 1) * 4 <= 140737488355328 := ⟨dC [_], by rw [aS]; omega⟩
  have app : cO rows st L[i.toNat] = cV (aB rows 1) st L[i.toNat] -> (0 <= i + 1 /\ i + 1 <= L.length) /\ aA st.out ++ [[PV.int .i32 L[i.toNat]]] = aA (bE rows (L.take (i + 1).toNat)).out := fun he => by
   obtain ⟨k1, k2⟩ := next _ he
   rw [lB, fW] at k2
   exact ⟨k1, k2⟩
  refine (zwb n f n0 false hl st.out hr2 (by omega)).mono ?_
  rintro _ ⟨x, rfl, hst⟩
  have hxs : x = eL st := by
   rcases zwa hnP hsk hnz with ⟨e, h⟩ | ⟨k, e, hk, h, h'⟩
   ·rcases hst with ⟨e2, _⟩ | ⟨k2, e2, hk2, q, _⟩
    ·omega
    ·exact absurd q (h k2 hk2)
   ·rcases hst with ⟨e2, q⟩ | ⟨k2, e2, hk2, q, q'⟩
    ·exact absurd h (q k hk)
    ·rcases Nat.lt_trichotomy k k2 with hlt | rfl | hlt
     ·exact absurd q (h' k2 hk2 hlt)
     ·omega
     ·exact absurd h (q' k hk hlt)
  clear hst
  subst hxs
  refine ⟨_, rfl, rfl, aD (fun hf => ?_) (fun hf => ?_)⟩
  ·simp only [decide_eq_true_eq, ge_iff_le] at hf
   cases hs : st.s with
   | none => simp [eL, hs] at hf
   | some a =>
     have hsi : eL st = st.P.length := by simp [eL, hs]
     have hol : st.out.length = st.P.length + 1 + st.M.length := by simp [CSt.out, hs]; omega
     refine ⟨g1, L[i.toNat], by rw [g2]; rfl, ?_⟩
     refine (zwc n f n0 false hl st.out hr2 (by omega) (by omega) (eL st) hx).mono ?_
     rintro _ rfl
     have hfree : (decide (eL st = st.out.length - 1) || decide (dK (aB rows 1) st.out < aB rows 1 L[i.toNat])) = true ↔ (st.M = [] ∨ dK (aB rows 1) st.M < aB rows 1 L[i.toNat]) := by
      simp only [Bool.or_eq_true, decide_eq_true_eq]
      by_cases hM : st.M = []
      ·refine ⟨fun _ => .inl hM, fun _ => .inl ?_⟩
       rw [hsi, hol, hM]; simp
      ·obtain ⟨D, m, hDm⟩ := (List.eq_nil_or_concat _).resolve_left hM
       have e : dK (aB rows 1) st.out = dK (aB rows 1) st.M := by
        have e2 : st.out = (st.P ++ a :: D) ++ [m] := by simp [CSt.out, hDm, hs]
        rw [e2, hDm, List.concat_eq_append, tV, tV]
       rw [e]
       refine or_congr ⟨fun h => ?_, fun h => absurd h hM⟩ Iff.rfl
       rw [hsi, hol] at h
       exact List.eq_nil_of_length_eq_zero (by omega)
     refine ⟨_, rfl, rfl, aD (fun hfr => ?_) (fun hfr => ?_)⟩
     ·have hfr := hfree.1 hfr
      have hat : st.out[st.P.length]'(by omega) = a := by simp [CSt.out, hs]
      obtain ⟨k1, k2⟩ := e9 (l := st.out) (i := eL st) (by omega) (by omega)
      have hta : (eL st).toNat = st.P.length := by omega
      have k3 : (aA st.out).getD (eL st).toNat [] = [PV.int .i32 a] := by
       rw [k2]; simp only [hta, hat]
      have ha : -2147483648 <= a /\ a <= 2147483647 := hr2 a (by simp [CSt.out, hs])
      refine ⟨k1, a, by rw [k3]; rfl, g1, L[i.toNat], by rw [g2]; rfl, ?_⟩
      refine (zv9 hp h1 n f hl ha hx).mono ?_
      rintro _ rfl
      cases hpc : fG rows a L[i.toNat] with
      | some c =>
        refine ⟨_, rfl, rfl, _, rfl, _, rfl, _, rfl, _, rfl, bG rfl ⟨k1, ⟨rfl, by rw [k3]; exact Nat.le_refl _⟩, rfl, ?_, by dsimp only; omega⟩⟩
        rw [k3, hta]
        have he : cO rows st L[i.toNat] = ⟨st.P, some c, st.M⟩ := by
         unfold cO; rw [hs]; simp only; rw [if_pos hfr, hpc]
        have e2 : (aA st.out).set st.P.length [PV.int .i32 c] = aA (CSt.out ⟨st.P, some c, st.M⟩) := by
         simp [CSt.out, hs, aA]
        obtain ⟨q1, q2⟩ := next _ he
        exact ⟨q1, e2.trans q2⟩
      | none =>
        have he : cO rows st L[i.toNat] = cV (aB rows 1) st L[i.toNat] := by
         unfold cO; rw [hs]; simp only; rw [if_pos hfr, hpc]
        exact ⟨_, rfl, rfl, _, rfl, _, rfl, _, rfl, _, rfl, bK (by simp) ⟨g1, L[i.toNat], by rw [g2]; rfl, hsz, rfl, app he, by dsimp only; omega⟩⟩
     ·have hfr := fun h => hfr (hfree.2 h)
      have he : cO rows st L[i.toNat] = cV (aB rows 1) st L[i.toNat] := by
       unfold cO; rw [hs]; simp only; rw [if_neg hfr]
      exact ⟨g1, L[i.toNat], by rw [g2]; rfl, hsz, rfl, app he, by dsimp only; omega⟩
  ·simp only [decide_eq_true_eq, ge_iff_le] at hf
   have hs : st.s = none := by
    cases hs : st.s with
    | none => rfl
    | some a => exact absurd (by simp [eL, hs]) hf
   have he : cO rows st L[i.toNat] = cV (aB rows 1) st L[i.toNat] := by
    unfold cO; rw [hs]
   exact ⟨g1, L[i.toNat], by rw [g2]; rfl, hsz, rfl, app he, by dsimp only; omega⟩
 ·simp only [decide_eq_true_eq, aS] at hc
  rw [List.take_of_length_le (by omega)]
  exact ⟨_, _, rfl⟩
theorem zwe (hp : cX rows) (h1 : eB rows) (hk : cY rows) (hs0 : ∀ (d : List Int) a, (bE rows d).s = some a -> aB rows 1 a = 0) (n f n2 f2 : Bool) (hl : rows.length < 1000000) (L : List Int) (hr : R32 L) (hL : L.length < 1000000) :
 PCall Tryz.prog 30 [.sl n f (aZ rows), .sl n2 f2 (aA L)] fun x => ∃ n f, x = .sl n f (aA (lC rows L)) := by
 refine zv5 _ _ _ _ _ _ ?_; unfold zkn
 refine (zaq hp hk n f n2 f2 hl L hr hL).mono ?_
 rintro _ ⟨n1, f1, rfl⟩
 refine ⟨_, _, _, rfl, ?_⟩
 refine (zwd hp h1 hs0 n f n1 f1 hl _ (qL hk hp hr) (zar hk hL)).mono ?_
 rintro _ ⟨n3, f3, rfl⟩
 exact ⟨_, _, _, rfl, _, _, rfl⟩
end
end Go.Eng



namespace Go.Eng.Rows
open Go Go.Eng Go.Eng.Trie Go.Eng.Srt
def zwf (rows : List Row) (a b : Int) : Bool := rows.all fun x => !decide (x.kind = 1) || (decide (x.to < a) || decide (b < x.fr))
theorem zwg {rows : List Row} {a b r : Int} (h : zwf rows a b = true) (h1 : a <= r) (h2 : r <= b) : aB rows 1 r = 0 := by
 unfold aB
 cases hf : bM rows 1 r with
 | none => rfl
 | some p =>
   obtain ⟨x, hx, hk, _, _, f1, f2, _⟩ := i7 hf
   have := List.all_eq_true.1 h x hx
   simp only [hk, decide_true, Bool.not_true, Bool.false_or, Bool.or_eq_true, decide_eq_true_eq] at this
   omega
end Go.Eng.Rows



namespace Go.Eng
open Go Go.Proofs Go.Eng.Rows Go.Eng.Trie
theorem zwh : ∀ r, bN r = true -> aB tab 1 r = 0 := fun r hs => by
 simp only [bN, Bool.and_eq_true, decide_eq_true_eq] at hs
 exact zwg (a := 44032) (b := 55203) (by kernel_rfl) hs.1 hs.2
theorem zwi : ∀ (d : List Int) a, (bE tab d).s = some a -> aB tab 1 a = 0 := zvw tS zwh
end Go.Eng



namespace Go.Eng
open Go Go.Proofs Go.Eng.Rows Go.Eng.Trie Go.Eng.Srt
theorem PCall.vac {P : Program} {f : Nat} {args args' : List PV} {Q Q' : PV -> Prop} (h : PCall P f args' Q') {k : Nat} {fl : Bool} {es : List (List PV)} (hk : args[k]? = some (.sl true fl es)) (hne : es ≠ []) : PCall P f args Q :=
 ⟨h.1, fun w I G cargs _ _ h3 => by
  have := h3 k (.pv (.sl true fl es)) (by rw [List.getElem?_map, hk]; rfl)
  generalize cargs.getD k undef = c at this
  cases this with
  | pv _ _ h =>
    generalize hx : es = xs at h
    cases h with
    | slnil => exact absurd hx hne⟩
theorem zko {L : List Int} (h : L ≠ []) : aA L ≠ [] := fun e => h (by cases L with | nil => rfl | cons a b => cases e)
section
variable {t : PV}
theorem zbm (hv : dT tab t) (n f n2 f2 : Bool) (L P : List Int) (hr : R32 L) (hL : L.length < 100000) (hr2 : R32 P) (hL2 : P.length < 1000000) : PCall Tryz.prog 27 [t, .sl n f (aA L), .sl n2 f2 (aA P)] fun x => x = qW (gG tab L P) := by
 by_cases h : n = true -> L = []
 ·exact zkb qQ fY eD hv n f n2 f2 L P h hr hL hr2 hL2
 ·have hn : n = true := by cases n with | true => rfl | false => exact absurd (fun h => by cases h) h
  subst hn
  exact PCall.vac (zkb qQ fY eD hv false f n2 f2 L P (fun h => by cases h) hr hL hr2 hL2) (k := 1) rfl (zko fun e => h fun _ => e)
theorem zwj (hv : dT tab t) (n f : Bool) (L : List Int) (hr : R32 L) (hL : L.length < 100000) : PCall Tryz.prog 37 [t, .sl n f (aA L)] fun x => ∃ n f, x = .sl n f (aA (t8 tab L)) := by
 by_cases h : n = true -> L = []
 ·exact zke qQ fY eD hv n f L h hr hL
 ·have hn : n = true := by cases n with | true => rfl | false => exact absurd (fun h => by cases h) h
  subst hn
  exact PCall.vac (zke qQ fY eD hv false f L (fun h => by cases h) hr hL) (k := 1) rfl (zko fun e => h fun _ => e)
theorem zwk (hv : dT tab t) (n f : Bool) (L : List Int) (hr : R32 L) (hL : L.length < 1000000) : PCall Tryz.prog 35 [t, .sl n f (aA L)] fun x => ∃ n f, x = .sl n f (aA (bH tab L)) := qU fY eD hv n f L hr hL
end
theorem zwl : gG tab [120, 233, 121] [101] = some (1, 2) := by kernel_rfl
theorem zwm : bH tab [7785] = [115] := by kernel_rfl
theorem zwn : t8 tab [233, 769] = [101] := by kernel_rfl
theorem awake42 : PCall Tryz.prog 29 [] fun v => v = .bool true := by
 refine ztw ?_; unfold za7
 refine p42.mono ?_
 rintro _ ⟨n, f, rfl⟩
 refine ⟨_, _, _, rfl, ?_⟩
 refine (zib n f).mono fun t ht => ?_
 refine (zbm ht false true false true [120, 233, 121] [101] (fun x hx => by simp at hx; omega) (by simp) (fun x hx => by simp at hx; omega) (by simp)).mono ?_
 rintro _ rfl
 rw [zwl]
 refine ⟨_, rfl, rfl, _, rfl, _, rfl, _, rfl, _, rfl, _, rfl, _, rfl, bG rfl ?_⟩
 refine (zwk ht false true [7785] (fun x hx => by simp at hx; omega) (by simp)).mono ?_
 rintro _ ⟨n1, f1, rfl⟩
 rw [zwm]
 refine ⟨_, _, _, rfl, ?_⟩
 refine (zh9 n1 f1 false true [115] [115] (by simp)).mono ?_
 rintro _ rfl
 refine ⟨_, rfl, bG rfl ?_⟩
 refine (zwj ht false true [233, 769] (fun x hx => by simp at hx; omega) (by simp)).mono ?_
 rintro _ ⟨n2, f2, rfl⟩
 rw [zwn]
 refine ⟨_, _, _, rfl, ?_⟩
 refine (zh9 n2 f2 false true [101] [101] (by simp)).mono ?_
 rintro _ rfl
 exact ⟨_, rfl, rfl⟩
theorem zwo (n f : Bool) (a : List Int) (ha : R32 a) (n0 f0 : Bool) (b : List Int) (hb : R32 b) : PCall Tryz.prog 7 [.sl n f (aA a), .sl n0 f0 (aA b)] fun v => v = .bool true := by
 refine ztx _ _ _ _ _ _ ?_; unfold zi0
 refine (zh8 n f a 30 (by omega)).mono ?_
 rintro _ ⟨n1, f1, rfl⟩
 refine ⟨_, _, _, rfl, ?_⟩
 refine (zh8 n0 f0 b 10 (by omega)).mono ?_
 rintro _ ⟨n2, f2, rfl⟩
 refine ⟨_, _, _, rfl, ?_⟩
 refine p42.mono ?_
 rintro _ ⟨n3, f3, rfl⟩
 refine ⟨_, _, _, rfl, ?_⟩
 refine (zib n3 f3).mono fun t ht => ?_
 have la := zin a 30
 have lb := zin b 10
 have ra := ha.take 30
 have rb := hb.take 10
 generalize a.take 30 = a at *
 generalize b.take 10 = b at *
 have hcl := zti eD b
 have hdl := qM eD b
 have hkl := qR eD b
 have rc := ztk rb
 have rd := ztl rb
 have fin : PCall Tryz.prog 29 [] fun v6 => ∃ b2, v6 = PV.bool b2 /\ PV.bool b2 = PV.bool true := awake42.mono fun x hx => ⟨true, hx, rfl⟩
 have hsame : PCall Tryz.prog 27 [t, .sl n1 f1 (aA a), .sl n2 f2 (aA b)] fun x => x = qW (gG tab a b) := zbm ht _ _ _ _ a b ra (by omega) rb (by omega)
 have hsame2 : ∀ n4 f4, PCall Tryz.prog 27 [t, .sl n1 f1 (aA a), .sl n4 f4 (aA (lC tab b))] fun x => x = qW (gG tab a b) := fun n4 f4 => by
  have := zbm ht n1 f1 n4 f4 a (lC tab b) ra (by omega) rc (by omega)
  rwa [zul (zug zii b)] at this
 refine hsame.mono ?_
 rintro _ rfl
 have key : ∀ (r : Option (Nat × Nat)), gG tab a b = r -> ∃ x y z, qW r = .tup [.int .i64 x, .int .i64 y, .bool z] /\ (z = false -> x = 0 /\ y = 0) /\ (bH tab b = [] -> x = 0 /\ y = 0) /\ (z = true -> bH tab b ≠ [] -> ∃ i j : Nat, x = i /\ y = j /\ i < j /\ j <= a.length /\ (i = a.length ∨ c8 tab a i = true) /\ (j = a.length ∨ c8 tab a j = true) /\ bH tab (dD a i j) = bH tab b) := fun r hr => by
  cases r with
  | none => exact ⟨0, 0, false, rfl, fun _ => ⟨rfl, rfl⟩, fun _ => ⟨rfl, rfl⟩, fun h => by cases h⟩
  | some p =>
    obtain ⟨i, j⟩ := p
    refine ⟨i, j, true, rfl, (fun h => by cases h), fun h0 => ?_, fun _ hne => ?_⟩
    ·unfold gG at hr
     rw [if_pos h0] at hr; cases hr; exact ⟨rfl, rfl⟩
    ·obtain ⟨g1, g2, g3, g4, g5⟩ := zuk eD hne hr
     exact ⟨i, j, rfl, rfl, g1, g2, g3, g4, g5⟩
 obtain ⟨x, y, z, e, k1, k2, k3⟩ := key _ rfl
 rw [e] at hsame2 ⊢
 refine ⟨_, rfl, rfl, _, rfl, _, rfl, _, rfl, _, rfl, _, rfl, _, rfl, ?_⟩
 refine (zwe fY tS eD zwi _ _ _ _ qN b rb (by omega)).mono ?_
 rintro _ ⟨n4, f4, rfl⟩
 refine ⟨_, _, _, rfl, ?_⟩
 refine (hsame2 n4 f4).mono ?_
 rintro _ rfl
 refine ⟨_, rfl, rfl, _, rfl, _, rfl, _, rfl, _, rfl, _, rfl, _, rfl, bK (by simp) ?_⟩
 refine (zaq fY eD n3 f3 n2 f2 qN b rb (by omega)).mono ?_
 rintro _ ⟨n5, f5, rfl⟩
 refine ⟨_, _, _, rfl, ?_⟩
 refine (zj7 fY eD ht n2 f2 n5 f5 b _ rb rd (by omega) (by omega)).mono ?_
 rintro _ rfl
 refine ⟨_, rfl, bK (by simp [zuf zii]) (aD (fun hz => ?_) (fun hz => ?_))⟩
 ·simp only [Bool.not_eq_true'] at hz
  obtain ⟨rfl, rfl⟩ := k1 hz
  exact bG rfl fin
 simp only [Bool.not_eq_true', Bool.not_eq_false] at hz
 refine (zvt fY eD n3 f3 n2 f2 qN b rb (by omega)).mono ?_
 rintro _ ⟨n6, f6, rfl⟩
 refine ⟨_, _, _, rfl, aD (fun h0 => ?_) (fun h0 => ?_)⟩
 ·simp only [beq_iff_eq, aS] at h0
  obtain ⟨rfl, rfl⟩ := k2 (List.eq_nil_of_length_eq_zero (by omega))
  exact bG rfl fin
 ·simp only [beq_iff_eq, aS] at h0
  obtain ⟨i, j, rfl, rfl, g1, g2, g3, g4, g5⟩ := k3 hz (fun e => by rw [e] at h0; exact h0 rfl)
  have hsl := zio a i j
  have hrs := ra.sub i j
  have is : ∀ k : Nat, k <= a.length -> (k = a.length ∨ c8 tab a k = true) -> PCall Tryz.prog 34 [.sl n3 f3 (aZ tab), .sl n1 f1 (aA a), .int .i64 (k : Int)] fun x => x = .bool true := fun k hk hb => (zvk qQ n3 f3 n1 f1 qN a ra (by omega) k).mono fun x hx => by
   rw [hx]
   rcases hb with h | h
   ·simp [h]
   ·simp [h, hk]
  refine bG (by rw [aS]; simp; omega) ?_
  refine (is i (by omega) g3).mono ?_
  rintro _ rfl
  refine ⟨_, rfl, bG rfl ?_⟩
  refine (is j g2 g4).mono ?_
  rintro _ rfl
  refine ⟨_, rfl, bG rfl ?_⟩
  rw [show ((i : Nat) : Int).toNat = i by omega, show ((j : Nat) : Int).toNat = j by omega, zay]
  refine ⟨⟨zax (by omega) (by omega) (by rw [aS]; omega), dC _⟩, ?_⟩
  refine (zj7 fY eD ht _ _ n2 f2 (dD a i j) b hrs rb (by omega) (by omega)).mono ?_
  rintro _ rfl
  exact ⟨_, rfl, bG (by simp [g5]) fin⟩
theorem lawFoldSame {pvs : List PV} (h : pV Tryz.prog 8 Tryz.f7.params.toList pvs) : PCall Tryz.prog 7 pvs fun v => v = .bool true := by
 obtain ⟨v0, r0, rfl, h0, v1, r1, rfl, h1, rfl⟩ : pV Tryz.prog 8 [23, 23] pvs := h
 obtain ⟨nl, l, rfl, hr⟩ := zil h0
 obtain ⟨nl1, l1, rfl, hr1⟩ := zil h1
 exact zwo _ _ l hr _ _ l1 hr1
end Go.Eng


