/- States run over the code: what each function gives, and what follows. -/
import Derived.Test.YtijgnoilmmppcaaGreatSlTc
open Go.IntKind (i64 i32)
set_option linter.unusedVariables false
set_option maxRecDepth 100000
set_option linter.constructorNameAsVariable false
namespace Go.Eng
open Go Go.Proofs
def zhv (sb : Bool) (sa sp : Int) (R : PV -> Prop) : Prop :=
 R (PV.agg [Zb sb, PV.sl true true [], Z6 sa, Z6 sp, Zb false, Z6 sa, Z6 sp])
theorem zr4 (sb : Bool) (sa sp : Int) {R : PV -> Prop} (h : zhv sb sa sp R) : PCall Tryz.prog 18 [.bool sb, .int .i64 sa, .int .i64 sp] R :=
 PCall.of Tryz.func18 (by kernel_rfl) (by kernel_rfl) (zl (by kernel_rfl)) (Eq.mpr (by kernel_rfl : aS Tryz.prog (fun _ => none) Tryz.f18 [0, 1, 2, 6] (fun _ => none) (Tryz.f18.body.getD .skip) [.bool sb, .int .i64 sa, .int .i64 sp] R = _) h)

def zhw (sb : Bool) (n f : Bool) (es : LL) (sa sp : Int) (sf : Bool) (ha hp : Int) (R : PV -> Prop) : Prop :=
 if sb = true then R (Z6 1) else R (Z6 (-1 : Int))
theorem zr5 (sb : Bool) (n f : Bool) (es : LL) (sa sp : Int) (sf : Bool) (ha hp : Int) {R : PV -> Prop} (h : zhw sb n f es sa sp sf ha hp R) : PCall Tryz.prog 87 [.agg [.bool sb, .sl n f es, .int .i64 sa, .int .i64 sp, .bool sf, .int .i64 ha, .int .i64 hp]] R :=
 PCall.of Tryz.func87 (by kernel_rfl) (by kernel_rfl) (zl (by kernel_rfl)) (Eq.mpr (by kernel_rfl : aS Tryz.prog (fun _ => none) Tryz.f87 [0, 1, 2, 4] (fun _ => none) (Tryz.f87.body.getD .skip) [.agg [.bool sb, .sl n f es, .int .i64 sa, .int .i64 sp, .bool sf, .int .i64 ha, .int .i64 hp]] R = _) h)

def zhx (sb : Bool) (n f : Bool) (es : LL) (sa sp : Int) (sf : Bool) (ha hp : Int) (tc tg tj tf tp : PV) (M S : List (PV × PV)) (n2 f2 : Bool) (ss : LL) (k : Int) (R : PV -> Prop) : Prop :=
 PCall Tryz.prog 87 [PV.agg [Zb sb, PV.sl n f es, Z6 sa, Z6 sp, Zb sf, Z6 ha, Z6 hp]] fun v => ∃ n1, v = Z6 n1 /\ PCall Tryz.prog 103 [PV.ptr [tc, tg, tj, tf, tp, PV.mp M, PV.mp S], PV.sl n2 f2 ss, Z6 k, Z6 n1, PV.sl n f es] fun
 (v1 : PV) => ∃ vs, v1 = PV.tup vs /\ vs.length = 3 /\ ∃ x, vs.head? = some x /\ ∃ n3, x = Z6 n3 /\ ∃ x1, vs.tail.head? = some x1 /\ ∃ n4, x1 = Z6 n4 /\ ∃ x2, vs.tail.tail.head? = some x2 /\ ∃ (b :
 Bool), x2 = Zb b /\ if b = true then R (PV.agg [Zb sb, PV.sl n f es, Z6 n3, Z6 n4, Zb !b, Z6 ha, Z6 hp]) else R (PV.agg [Zb sb, PV.sl n f es, Z6 sa, Z6 sp, Zb !b, Z6 ha, Z6 hp])
theorem zr6 (sb : Bool) (n f : Bool) (es : LL) (sa sp : Int) (sf : Bool) (ha hp : Int) (tc tg tj tf tp : PV) (M S : List (PV × PV)) (n2 f2 : Bool) (ss : LL) (k : Int) {R : PV -> Prop} (h : zhx sb n f es sa sp sf ha hp tc tg tj tf tp M S n2 f2 ss k R) : PCall Tryz.prog 64 [.agg [.bool sb, .sl n f es, .int .i64 sa, .int .i64 sp, .bool sf, .int .i64 ha, .int .i64 hp], .ptr [tc, tg, tj, tf, tp, .mp M, .mp S], .sl n2 f2 ss, .int .i64 k] R :=
 PCall.of Tryz.func64 (by kernel_rfl) (by kernel_rfl) (zl (by kernel_rfl)) (Eq.mpr (by kernel_rfl : aS Tryz.prog (fun _ => none) Tryz.f64 [0, 1, 2, 3, 4, 8, 9, 10, 11, 27] (fun _ => none) (Tryz.f64.body.getD .skip) [.agg [.bool sb, .sl n f es, .int .i64 sa, .int .i64 sp, .bool sf, .int .i64 ha, .int .i64 hp], .ptr [tc, tg, tj, tf, tp, .mp M, .mp S], .sl n2 f2 ss, .int .i64 k] R = _) h)

def zhy (sb : Bool) (n f : Bool) (es : LL) (sa sp : Int) (sf : Bool) (ha hp : Int) (tc tg tj tf tp : PV) (M S : List (PV × PV)) (n2 f2 : Bool) (ss : LL) (k : Int) (R : PV -> Prop) : Prop :=
 ACall Tryz.prog 63 [LV.pv (PV.sl n f es)] [] fun (r : LV) (h' : Hp) => ∃ (t : Bool), (r = LV.own 0 /\ h' = [Ob.sl (21, 1) false n es]) /\ True /\ (aQ [[Z3 k]] 1 /\ (es.length + 1) * 4 <= (140737488355328 : Nat)) /\ PCall Tryz.prog 64 [PV.agg [Zb
 sb, PV.sl (n && false) false (es ++ [[Z3 k]]), Z6 sa, Z6 sp, Zb sf, Z6 ha, Z6 hp], PV.ptr [tc, tg, tj, tf, tp, PV.mp M, PV.mp S], PV.sl n2 f2 ss, Z6 sa] fun v => ∃ cs, v = PV.agg cs /\ cs.length = 7 /\ ∃ b, cs.head?
 = some (Zb b) /\ ∃ n1 f1 es1, cs.tail.head? = some (PV.sl n1 f1 es1) /\ ∃ n3, cs.tail.tail.head? = some (Z6 n3) /\ ∃ n4, cs.tail.tail.tail.head? = some (Z6 n4) /\ ∃ (b1 : Bool),
 cs.tail.tail.tail.tail.head? = some (Zb b1) /\ ∃ n5, cs.tail.tail.tail.tail.tail.head? = some (Z6 n5) /\ ∃ n6, cs.tail.tail.tail.tail.tail.tail.head? = some (Z6 n6) /\ R (PV.agg [Zb b, PV.sl n1 f1 es1, Z6 n3, Z6 n4, Zb b1, Z6
 n5, Z6 n6])
theorem zr7 (sb : Bool) (n f : Bool) (es : LL) (sa sp : Int) (sf : Bool) (ha hp : Int) (tc tg tj tf tp : PV) (M S : List (PV × PV)) (n2 f2 : Bool) (ss : LL) (k : Int) {R : PV -> Prop} (h : zhy sb n f es sa sp sf ha hp tc tg tj tf tp M S n2 f2 ss k R) : PCall Tryz.prog 19 [.agg [.bool sb, .sl n f es, .int .i64 sa, .int .i64 sp, .bool sf, .int .i64 ha, .int .i64 hp], .ptr [tc, tg, tj, tf, tp, .mp M, .mp S], .sl n2 f2 ss, .int .i32 k] R :=
 PCall.of Tryz.func19 (by kernel_rfl) (by kernel_rfl) (zl (by kernel_rfl)) (Eq.mpr (by kernel_rfl : aS Tryz.prog (fun zz_ => match zz_ with | 63 => some ⟨Bool, fun vs hs _ => (.own hs.length, hs ++ (match vs with | [.pv (.sl nl _ es)] => [.sl (21, 1) false nl es] | _ => [])), none⟩ | _ => none) Tryz.f19 [0, 1, 2, 3, 4, 8] (fun _ => none) (Tryz.f19.body.getD .skip) [.agg [.bool sb, .sl n f es, .int .i64 sa, .int .i64 sp, .bool sf, .int .i64 ha, .int .i64 hp], .ptr [tc, tg, tj, tf, tp, .mp M, .mp S], .sl n2 f2 ss, .int .i32 k] R = _) h)

def zhz (sb : Bool) (n f : Bool) (es : LL) (sa sp : Int) (sf : Bool) (ha hp : Int) (tc tg tj tf tp : PV) (M S : List (PV × PV)) (n2 f2 : Bool) (ss : LL) (R : PV -> Prop) : Prop :=
 (dI es.length none (some (if i64.wrap ((↑es.length : Int) - 1) < 0 then (0 : Int) else i64.wrap ((↑es.length : Int) - 1))) none /\ aQ es 1) /\ ACall Tryz.prog 63 [LV.pv (PV.sl n (f && decide ((if i64.wrap
 ((↑es.length : Int) - 1) < 0 then (0 : Int) else i64.wrap ((↑es.length : Int) - 1)) = (↑es.length : Int))) (List.drop 0 (List.take (if i64.wrap ((↑es.length : Int) - 1) < 0 then (0 : Int) else i64.wrap ((↑es.length :
 Int) - 1)).toNat es)))] [] fun (r : LV) (h' : Hp) => ∃ (t : Bool), (r = LV.own 0 /\ h' = [Ob.sl (21, 1) false n (List.drop 0 (List.take (if i64.wrap ((↑es.length : Int) - 1) < 0 then (0 : Int) else i64.wrap ((↑es.length : Int)
 - 1)).toNat es))]) /\ True /\ if ((↑(List.drop 0 (List.take (if i64.wrap ((↑es.length : Int) - 1) < 0 then (0 : Int) else i64.wrap ((↑es.length : Int) - 1)).toNat es)).length : Int) == 0) = true then R (PV.agg [Zb sb, PV.sl n
 false (List.drop 0 (List.take (if i64.wrap ((↑es.length : Int) - 1) < 0 then (0 : Int) else i64.wrap ((↑es.length : Int) - 1)).toNat es)), Z6 ha, Z6 hp, Zb false, Z6 ha, Z6 hp]) else PCall Tryz.prog 64 [PV.agg [Zb sb, PV.sl
 n false (List.drop 0 (List.take (if i64.wrap ((↑es.length : Int) - 1) < 0 then (0 : Int) else i64.wrap ((↑es.length : Int) - 1)).toNat es)), Z6 ha, Z6 hp, Zb false, Z6 ha, Z6 hp], PV.ptr [tc, tg, tj, tf, tp, PV.mp M, PV.mp
 S], PV.sl n2 f2 ss, Z6 ha] fun v => ∃ cs, v = PV.agg cs /\ cs.length = 7 /\ ∃ b, cs.head? = some (Zb b) /\ ∃ n1 f1 es1, cs.tail.head? = some (PV.sl n1 f1 es1) /\ ∃ (n3 : Int),
 cs.tail.tail.head? = some (Z6 n3) /\ ∃ n4, cs.tail.tail.tail.head? = some (Z6 n4) /\ ∃ b1, cs.tail.tail.tail.tail.head? = some (Zb b1) /\ ∃ n5, cs.tail.tail.tail.tail.tail.head? = some (Z6 n5) /\ ∃ (n6 : Int),
 cs.tail.tail.tail.tail.tail.tail.head? = some (Z6 n6) /\ R (PV.agg [Zb b, PV.sl n1 f1 es1, Z6 n3, Z6 n4, Zb b1, Z6 n5, Z6 n6])
theorem zr8 (sb : Bool) (n f : Bool) (es : LL) (sa sp : Int) (sf : Bool) (ha hp : Int) (tc tg tj tf tp : PV) (M S : List (PV × PV)) (n2 f2 : Bool) (ss : LL) {R : PV -> Prop} (h : zhz sb n f es sa sp sf ha hp tc tg tj tf tp M S n2 f2 ss R) : PCall Tryz.prog 66 [.agg [.bool sb, .sl n f es, .int .i64 sa, .int .i64 sp, .bool sf, .int .i64 ha, .int .i64 hp], .ptr [tc, tg, tj, tf, tp, .mp M, .mp S], .sl n2 f2 ss] R :=
 PCall.of Tryz.func66 (by kernel_rfl) (by kernel_rfl) (zl (by kernel_rfl)) (Eq.mpr (by kernel_rfl : aS Tryz.prog (fun zz_ => match zz_ with | 63 => some ⟨Bool, fun vs hs _ => (.own hs.length, hs ++ (match vs with | [.pv (.sl nl _ es)] => [.sl (21, 1) false nl es] | _ => [])), none⟩ | _ => none) Tryz.f66 [0, 1, 2, 3, 6, 7, 29] (fun _ => none) (Tryz.f66.body.getD .skip) [.agg [.bool sb, .sl n f es, .int .i64 sa, .int .i64 sp, .bool sf, .int .i64 ha, .int .i64 hp], .ptr [tc, tg, tj, tf, tp, .mp M, .mp S], .sl n2 f2 ss] R = _) h)

def zh0 (sb : Bool) (n f : Bool) (es : LL) (sa sp : Int) (sf : Bool) (ha hp : Int) (tc tg tj tf tp : PV) (M S : List (PV × PV)) (n2 f2 : Bool) (ss : LL) (k : Bool) (R : PV -> Prop) : Prop :=
 if ((↑es.length : Int) == 0) = true then R (PV.agg [Zb k, PV.sl n f es, Z6 sa, Z6 sp, Zb false, Z6 ha, Z6 hp]) else PCall Tryz.prog 87 [PV.agg [Zb k, PV.sl n f es, Z6 sa, Z6 sp, Zb sf, Z6 ha, Z6 hp]] fun v => ∃ n1, v = Z6 n1 /\
 PCall Tryz.prog 64 [PV.agg [Zb k, PV.sl n f es, Z6 sa, Z6 sp, Zb sf, Z6 ha, Z6 hp], PV.ptr [tc, tg, tj, tf, tp, PV.mp M, PV.mp S], PV.sl n2 f2 ss, Z6 (i64.wrap (sa + n1))] fun v1 => ∃ cs, v1 = PV.agg cs /\ cs.length
 = 7 /\ ∃ b, cs.head? = some (Zb b) /\ ∃ n3 f1 es1, cs.tail.head? = some (PV.sl n3 f1 es1) /\ ∃ n4, cs.tail.tail.head? = some (Z6 n4) /\ ∃ n5, cs.tail.tail.tail.head? = some (Z6 n5) /\ ∃ (b1
 : Bool), cs.tail.tail.tail.tail.head? = some (Zb b1) /\ ∃ n6, cs.tail.tail.tail.tail.tail.head? = some (Z6 n6) /\ ∃ n7, cs.tail.tail.tail.tail.tail.tail.head? = some (Z6 n7) /\ R (PV.agg [Zb b, PV.sl n3 f1 es1, Z6 n4, Z6 n5, Zb
 b1, Z6 n6, Z6 n7])
theorem zr9 (sb : Bool) (n f : Bool) (es : LL) (sa sp : Int) (sf : Bool) (ha hp : Int) (tc tg tj tf tp : PV) (M S : List (PV × PV)) (n2 f2 : Bool) (ss : LL) (k : Bool) {R : PV -> Prop} (h : zh0 sb n f es sa sp sf ha hp tc tg tj tf tp M S n2 f2 ss k R) : PCall Tryz.prog 48 [.agg [.bool sb, .sl n f es, .int .i64 sa, .int .i64 sp, .bool sf, .int .i64 ha, .int .i64 hp], .ptr [tc, tg, tj, tf, tp, .mp M, .mp S], .sl n2 f2 ss, .bool k] R :=
 PCall.of Tryz.func48 (by kernel_rfl) (by kernel_rfl) (zl (by kernel_rfl)) (Eq.mpr (by kernel_rfl : aS Tryz.prog (fun _ => none) Tryz.f48 [0, 1, 2, 3, 4, 8, 14] (fun _ => none) (Tryz.f48.body.getD .skip) [.agg [.bool sb, .sl n f es, .int .i64 sa, .int .i64 sp, .bool sf, .int .i64 ha, .int .i64 hp], .ptr [tc, tg, tj, tf, tp, .mp M, .mp S], .sl n2 f2 ss, .bool k] R = _) h)

def zh1 (sb : Bool) (sa sp : Int) (R : PV -> Prop) : Prop :=
 R (PV.agg [Zb sb, PV.sl true true [], Z6 sa, Z6 sp, Zb false, Z6 sa, Z6 sp])
theorem zsa (sb : Bool) (sa sp : Int) {R : PV -> Prop} (h : zh1 sb sa sp R) : PCall Tryz.prog 21 [.bool sb, .int .i64 sa, .int .i64 sp] R :=
 PCall.of Tryz.func21 (by kernel_rfl) (by kernel_rfl) (zl (by kernel_rfl)) (Eq.mpr (by kernel_rfl : aS Tryz.prog (fun _ => none) Tryz.f21 [0, 1, 2, 6] (fun _ => none) (Tryz.f21.body.getD .skip) [.bool sb, .int .i64 sa, .int .i64 sp] R = _) h)

def zh2 (sb : Bool) (R : PV -> Prop) : Prop :=
 if sb = true then R (Z6 1) else R (Z6 (-1 : Int))
theorem zsb (sb : Bool) {R : PV -> Prop} (h : zh2 sb R) : PCall Tryz.prog 68 [.bool sb] R :=
 PCall.of Tryz.func68 (by kernel_rfl) (by kernel_rfl) (zl (by kernel_rfl)) (Eq.mpr (by kernel_rfl : aS Tryz.prog (fun _ => none) Tryz.f68 [0, 2, 3] (fun _ => none) (Tryz.f68.body.getD .skip) [.bool sb] R = _) h)

def zh3 (sb : Bool) (n f : Bool) (es : LL) (sa sp : Int) (sf : Bool) (ha hp : Int) (n2 f2 : Bool) (ss : LL) (n3 f3 : Bool) (s3 : LL) (k : Int) (R : PV -> Prop) : Prop :=
 PCall Tryz.prog 68 [Zb sb] fun v => ∃ n1, v = Z6 n1 /\ PCall Tryz.prog 104 [PV.sl n2 f2 ss, PV.sl n3 f3 s3, Z6 k, Z6 n1, PV.sl n f es] fun v1 => ∃ vs, v1 = PV.tup vs /\ vs.length = 3 /\ ∃ x, vs.head? =
 some x /\ ∃ n4, x = Z6 n4 /\ ∃ x1, vs.tail.head? = some x1 /\ ∃ n5, x1 = Z6 n5 /\ ∃ x2, vs.tail.tail.head? = some x2 /\ ∃ b, x2 = Zb b /\ if b = true then R (PV.agg [Zb sb, PV.sl n f es, Z6 n4, Z6 n5, Zb !b,
 Z6 ha, Z6 hp]) else R (PV.agg [Zb sb, PV.sl n f es, Z6 sa, Z6 sp, Zb !b, Z6 ha, Z6 hp])
theorem zsc (sb : Bool) (n f : Bool) (es : LL) (sa sp : Int) (sf : Bool) (ha hp : Int) (n2 f2 : Bool) (ss : LL) (n3 f3 : Bool) (s3 : LL) (k : Int) {R : PV -> Prop} (h : zh3 sb n f es sa sp sf ha hp n2 f2 ss n3 f3 s3 k R) : PCall Tryz.prog 67 [.sl n2 f2 ss, .agg [.bool sb, .sl n f es, .int .i64 sa, .int .i64 sp, .bool sf, .int .i64 ha, .int .i64 hp], .sl n3 f3 s3, .int .i64 k] R :=
 PCall.of Tryz.func67 (by kernel_rfl) (by kernel_rfl) (zl (by kernel_rfl)) (Eq.mpr (by kernel_rfl : aS Tryz.prog (fun _ => none) Tryz.f67 [0, 1, 2, 3, 5, 8, 9, 10, 11, 28] (fun _ => none) (Tryz.f67.body.getD .skip) [.sl n2 f2 ss, .agg [.bool sb, .sl n f es, .int .i64 sa, .int .i64 sp, .bool sf, .int .i64 ha, .int .i64 hp], .sl n3 f3 s3, .int .i64 k] R = _) h)

def zh4 (sb : Bool) (n f : Bool) (es : LL) (sa sp : Int) (sf : Bool) (ha hp : Int) (n2 f2 : Bool) (ss : LL) (n3 f3 : Bool) (s3 : LL) (k : Int) (R : PV -> Prop) : Prop :=
 fV true [] es 1 4 /\ (aQ [[Z3 k]] 1 /\ (([] ++ es).length + 1) * 4 <= 140737488355328) /\ PCall Tryz.prog 67 [PV.sl n2 f2 ss, PV.agg [Zb sb, PV.sl (es.isEmpty && false) false ([] ++ es ++ [[Z3 k]]), Z6 sa, Z6 sp, Zb sf, Z6 ha, Z6 hp], PV.sl
 n3 f3 s3, Z6 sa] fun v => ∃ cs, v = PV.agg cs /\ cs.length = 7 /\ ∃ b, cs.head? = some (Zb b) /\ ∃ n1 f1 es1, cs.tail.head? = some (PV.sl n1 f1 es1) /\ ∃ n4, cs.tail.tail.head? =
 some (Z6 n4) /\ ∃ n5, cs.tail.tail.tail.head? = some (Z6 n5) /\ ∃ b1, cs.tail.tail.tail.tail.head? = some (Zb b1) /\ ∃ n6, cs.tail.tail.tail.tail.tail.head? = some (Z6 n6) /\ ∃ (n7 : Int),
 cs.tail.tail.tail.tail.tail.tail.head? = some (Z6 n7) /\ R (PV.agg [Zb b, PV.sl n1 f1 es1, Z6 n4, Z6 n5, Zb b1, Z6 n6, Z6 n7])
theorem zsd (sb : Bool) (n f : Bool) (es : LL) (sa sp : Int) (sf : Bool) (ha hp : Int) (n2 f2 : Bool) (ss : LL) (n3 f3 : Bool) (s3 : LL) (k : Int) {R : PV -> Prop} (h : zh4 sb n f es sa sp sf ha hp n2 f2 ss n3 f3 s3 k R) : PCall Tryz.prog 23 [.sl n2 f2 ss, .agg [.bool sb, .sl n f es, .int .i64 sa, .int .i64 sp, .bool sf, .int .i64 ha, .int .i64 hp], .sl n3 f3 s3, .int .i32 k] R :=
 PCall.of Tryz.func23 (by kernel_rfl) (by kernel_rfl) (zl (by kernel_rfl)) (Eq.mpr (by kernel_rfl : aS Tryz.prog (fun _ => none) Tryz.f23 [0, 1, 2, 3, 5, 8, 9] (fun _ => none) (Tryz.f23.body.getD .skip) [.sl n2 f2 ss, .agg [.bool sb, .sl n f es, .int .i64 sa, .int .i64 sp, .bool sf, .int .i64 ha, .int .i64 hp], .sl n3 f3 s3, .int .i32 k] R = _) h)

def zh5 (sb : Bool) (n f : Bool) (es : LL) (sa sp : Int) (sf : Bool) (ha hp : Int) (n2 f2 : Bool) (ss : LL) (n3 f3 : Bool) (s3 : LL) (R : PV -> Prop) : Prop :=
 if decide ((↑es.length : Int) > 0) = true then (dI es.length none (some (i64.wrap ((↑es.length : Int) - 1))) none /\ aQ es 1) /\ if ((↑(List.drop 0 (List.take (i64.wrap ((↑es.length : Int) - 1)).toNat es)).length : Int) ==
 0) = true then R (PV.agg [Zb sb, PV.sl n (f && decide (i64.wrap ((↑es.length : Int) - 1) = (↑es.length : Int))) (List.drop 0 (List.take (i64.wrap ((↑es.length : Int) - 1)).toNat es)), Z6 ha, Z6 hp, Zb false, Z6 ha, Z6 hp])
 else PCall Tryz.prog 67 [PV.sl n2 f2 ss, PV.agg [Zb sb, PV.sl n (f && decide (i64.wrap ((↑es.length : Int) - 1) = (↑es.length : Int))) (List.drop 0 (List.take (i64.wrap ((↑es.length : Int) - 1)).toNat es)), Z6 ha, Z6 hp, Zb
 false, Z6 ha, Z6 hp], PV.sl n3 f3 s3, Z6 ha] fun v => ∃ cs, v = PV.agg cs /\ cs.length = 7 /\ ∃ b, cs.head? = some (Zb b) /\ ∃ n1 f1 es1, cs.tail.head? = some (PV.sl n1 f1 es1) /\ ∃ (n4
 : Int), cs.tail.tail.head? = some (Z6 n4) /\ ∃ n5, cs.tail.tail.tail.head? = some (Z6 n5) /\ ∃ b1, cs.tail.tail.tail.tail.head? = some (Zb b1) /\ ∃ n6, cs.tail.tail.tail.tail.tail.head? = some (Z6 n6) /\ ∃ (n7 : Int),
 cs.tail.tail.tail.tail.tail.tail.head? = some (Z6 n7) /\ R (PV.agg [Zb b, PV.sl n1 f1 es1, Z6 n4, Z6 n5, Zb b1, Z6 n6, Z6 n7]) else if ((↑es.length : Int) == 0) = true then R (PV.agg [Zb sb, PV.sl n f es, Z6 ha, Z6 hp, Zb false, Z6 ha, Z6
 hp]) else PCall Tryz.prog 67 [PV.sl n2 f2 ss, PV.agg [Zb sb, PV.sl n f es, Z6 ha, Z6 hp, Zb false, Z6 ha, Z6 hp], PV.sl n3 f3 s3, Z6 ha] fun v => ∃ cs, v = PV.agg cs /\ cs.length = 7 /\ ∃ b, cs.head? = some (Zb b) /\
 ∃ n1 f1 es1, cs.tail.head? = some (PV.sl n1 f1 es1) /\ ∃ n4, cs.tail.tail.head? = some (Z6 n4) /\ ∃ n5, cs.tail.tail.tail.head? = some (Z6 n5) /\ ∃ b1, cs.tail.tail.tail.tail.head? = some
 (Zb b1) /\ ∃ n6, cs.tail.tail.tail.tail.tail.head? = some (Z6 n6) /\ ∃ n7, cs.tail.tail.tail.tail.tail.tail.head? = some (Z6 n7) /\ R (PV.agg [Zb b, PV.sl n1 f1 es1, Z6 n4, Z6 n5, Zb b1, Z6 n6, Z6 n7])
theorem zse (sb : Bool) (n f : Bool) (es : LL) (sa sp : Int) (sf : Bool) (ha hp : Int) (n2 f2 : Bool) (ss : LL) (n3 f3 : Bool) (s3 : LL) {R : PV -> Prop} (h : zh5 sb n f es sa sp sf ha hp n2 f2 ss n3 f3 s3 R) : PCall Tryz.prog 24 [.sl n2 f2 ss, .agg [.bool sb, .sl n f es, .int .i64 sa, .int .i64 sp, .bool sf, .int .i64 ha, .int .i64 hp], .sl n3 f3 s3] R :=
 PCall.of Tryz.func24 (by kernel_rfl) (by kernel_rfl) (zl (by kernel_rfl)) (Eq.mpr (by kernel_rfl : aS Tryz.prog (fun _ => none) Tryz.f24 [0, 1, 2, 4, 6, 10, 29] (fun _ => none) (Tryz.f24.body.getD .skip) [.sl n2 f2 ss, .agg [.bool sb, .sl n f es, .int .i64 sa, .int .i64 sp, .bool sf, .int .i64 ha, .int .i64 hp], .sl n3 f3 s3] R = _) h)

def zh6 (sb : Bool) (n f : Bool) (es : LL) (sa sp : Int) (sf : Bool) (ha hp : Int) (n2 f2 : Bool) (ss : LL) (n3 f3 : Bool) (s3 : LL) (k : Bool) (R : PV -> Prop) : Prop :=
 if ((↑es.length : Int) == 0) = true then R (PV.agg [Zb k, PV.sl n f es, Z6 sa, Z6 sp, Zb false, Z6 ha, Z6 hp]) else PCall Tryz.prog 68 [Zb k] fun v => ∃ n1, v = Z6 n1 /\ PCall Tryz.prog 67 [PV.sl n2 f2 ss, PV.agg [Zb k, PV.sl n
 f es, Z6 sa, Z6 sp, Zb sf, Z6 ha, Z6 hp], PV.sl n3 f3 s3, Z6 (i64.wrap (sa + n1))] fun v1 => ∃ cs, v1 = PV.agg cs /\ cs.length = 7 /\ ∃ b, cs.head? = some (Zb b) /\ ∃ n4 f1, ∃ (es1 : LL),
 cs.tail.head? = some (PV.sl n4 f1 es1) /\ ∃ n5, cs.tail.tail.head? = some (Z6 n5) /\ ∃ n6, cs.tail.tail.tail.head? = some (Z6 n6) /\ ∃ b1, cs.tail.tail.tail.tail.head? = some (Zb b1) /\ ∃ (n7 : Int),
 cs.tail.tail.tail.tail.tail.head? = some (Z6 n7) /\ ∃ n8, cs.tail.tail.tail.tail.tail.tail.head? = some (Z6 n8) /\ R (PV.agg [Zb b, PV.sl n4 f1 es1, Z6 n5, Z6 n6, Zb b1, Z6 n7, Z6 n8])
theorem zsf (sb : Bool) (n f : Bool) (es : LL) (sa sp : Int) (sf : Bool) (ha hp : Int) (n2 f2 : Bool) (ss : LL) (n3 f3 : Bool) (s3 : LL) (k : Bool) {R : PV -> Prop} (h : zh6 sb n f es sa sp sf ha hp n2 f2 ss n3 f3 s3 k R) : PCall Tryz.prog 25 [.sl n2 f2 ss, .agg [.bool sb, .sl n f es, .int .i64 sa, .int .i64 sp, .bool sf, .int .i64 ha, .int .i64 hp], .sl n3 f3 s3, .bool k] R :=
 PCall.of Tryz.func25 (by kernel_rfl) (by kernel_rfl) (zl (by kernel_rfl)) (Eq.mpr (by kernel_rfl : aS Tryz.prog (fun _ => none) Tryz.f25 [0, 1, 2, 3, 5, 8, 14] (fun _ => none) (Tryz.f25.body.getD .skip) [.sl n2 f2 ss, .agg [.bool sb, .sl n f es, .int .i64 sa, .int .i64 sp, .bool sf, .int .i64 ha, .int .i64 hp], .sl n3 f3 s3, .bool k] R = _) h)

def zW  (R : PV -> Prop) : Prop :=
 PCall Tryz.prog 16 [] fun v => ∃ n f es, v = PV.sl n f es /\ PCall Tryz.prog 17 [PV.sl n f es] fun v1 => PCall Tryz.prog 18 [Zb true, Z6 0, Z6 0] fun v2 => ∃ cs, v2 = PV.agg cs /\
 cs.length = 7 /\ ∃ b, cs.head? = some (Zb b) /\ ∃ n1 f1 es1, cs.tail.head? = some (PV.sl n1 f1 es1) /\ ∃ n2, cs.tail.tail.head? = some (Z6 n2) /\ ∃ n3, cs.tail.tail.tail.head? = some (Z6
 n3) /\ ∃ b1, cs.tail.tail.tail.tail.head? = some (Zb b1) /\ ∃ n4, cs.tail.tail.tail.tail.tail.head? = some (Z6 n4) /\ ∃ n5, cs.tail.tail.tail.tail.tail.tail.head? = some (Z6 n5) /\ PCall Tryz.prog 19 [PV.agg [Zb b,
 PV.sl n1 f1 es1, Z6 n2, Z6 n3, Zb b1, Z6 n4, Z6 n5], v1, PV.sl false true [[PV.sl true true []], [PV.sl false true [[Z3 99], [Z3 97], [Z3 98]]], [PV.sl false true [[Z3 97], [Z3 98], [Z3 99]]]], Z3 97] fun v3 => ∃ cs1, v3 =
 PV.agg cs1 /\ cs1.length = 7 /\ ∃ b2, cs1.head? = some (Zb b2) /\ ∃ n6 f2 es2, cs1.tail.head? = some (PV.sl n6 f2 es2) /\ ∃ n7, cs1.tail.tail.head? = some (Z6 n7) /\ ∃ (n8 : Int),
 cs1.tail.tail.tail.head? = some (Z6 n8) /\ ∃ b3, cs1.tail.tail.tail.tail.head? = some (Zb b3) /\ ∃ n9, cs1.tail.tail.tail.tail.tail.head? = some (Z6 n9) /\ ∃ n10, cs1.tail.tail.tail.tail.tail.tail.head? = some (Z6 n10)
 /\ PCall Tryz.prog 48 [PV.agg [Zb b2, PV.sl n6 f2 es2, Z6 n7, Z6 n8, Zb b3, Z6 n9, Z6 n10], v1, PV.sl false true [[PV.sl true true []], [PV.sl false true [[Z3 99], [Z3 97], [Z3 98]]], [PV.sl false true [[Z3 97], [Z3 98], [Z3 99]]]], Zb true]
 fun v4 => ∃ cs2, v4 = PV.agg cs2 /\ cs2.length = 7 /\ ∃ b4, cs2.head? = some (Zb b4) /\ ∃ n11 f3 es3, cs2.tail.head? = some (PV.sl n11 f3 es3) /\ ∃ n12, cs2.tail.tail.head? =
 some (Z6 n12) /\ ∃ n13, cs2.tail.tail.tail.head? = some (Z6 n13) /\ ∃ b5, cs2.tail.tail.tail.tail.head? = some (Zb b5) /\ ∃ n14, cs2.tail.tail.tail.tail.tail.head? = some (Z6 n14) /\ ∃ (n15 : Int),
 cs2.tail.tail.tail.tail.tail.tail.head? = some (Z6 n15) /\ PCall Tryz.prog 48 [PV.agg [Zb b4, PV.sl n11 f3 es3, Z6 n12, Z6 n13, Zb b5, Z6 n14, Z6 n15], v1, PV.sl false true [[PV.sl true true []], [PV.sl false true [[Z3 99], [Z3 97], [Z3
 98]]], [PV.sl false true [[Z3 97], [Z3 98], [Z3 99]]]], Zb true] fun v5 => ∃ cs3, v5 = PV.agg cs3 /\ cs3.length = 7 /\ ∃ b6, cs3.head? = some (Zb b6) /\ ∃ n16 f4 es4, cs3.tail.head? =
 some (PV.sl n16 f4 es4) /\ ∃ n17, cs3.tail.tail.head? = some (Z6 n17) /\ ∃ n18, cs3.tail.tail.tail.head? = some (Z6 n18) /\ ∃ b7, cs3.tail.tail.tail.tail.head? = some (Zb b7) /\ ∃ (n19 : Int),
 cs3.tail.tail.tail.tail.tail.head? = some (Z6 n19) /\ ∃ n20, cs3.tail.tail.tail.tail.tail.tail.head? = some (Z6 n20) /\ if (n7 == 1) = true then if (n8 == 1) = true then if (n12 == 2) = true then if (n13 == 0) = true then if (n17 ==
 2) = true then if b7 = true then R (Zb !b5) else R (Zb false) else R (Zb false) else R (Zb false) else R (Zb false) else R (Zb false) else R (Zb false)
theorem zsg  {R : PV -> Prop} (h : zW  R) : PCall Tryz.prog 15 [] R :=
 PCall.of Tryz.func15 (by kernel_rfl) (by kernel_rfl) (zl (by kernel_rfl)) (Eq.mpr (by kernel_rfl : aS Tryz.prog (fun _ => none) Tryz.f15 [0, 1, 2, 3, 4, 5] (fun _ => none) (Tryz.f15.body.getD .skip) [] R = zW  R) h)

def zX (n f : Bool) (es : LL) (x4 : Int) (n_0 : Bool) (s_0 : LL) : Env × Hp := ([(0, LV.pv (PV.sl n f es)), (3, LV.own 0), (4, Y6 x4)], [.sl (23, 1) true n_0 s_0])
def zh7 (n f : Bool) (es : LL) (J : Int -> Bool -> LL -> Prop) (μ : Int -> Bool -> LL -> Nat) (R : PV -> Prop) : Prop :=
 (aB (zX n f es (0 : Int) true []) /\ J (0 : Int) true []) /\ ∀ (x4 : Int) (n_0 : Bool) (s_0 : LL), J x4 n_0 s_0 -> if (decide (x4 < (↑es.length : Int)) && decide (x4 < 6)) = true then aO es x4 1 /\ ∃ n1 f1, ∃ (es1
 : LL), (es.getD x4.toNat []).head? = some (PV.sl n1 f1 es1) /\ PCall Tryz.prog 14 [PV.sl n1 f1 es1, Z6 8] fun v => ∃ n2 f2 es2, v = PV.sl n2 f2 es2 /\ (aQ [[PV.sl n2 f2 es2]] 1 /\ (s_0.length + 1) * 24 <=
 140737488355328) /\ aB (zX n f es (i64.wrap (x4 + 1)) (n_0 && false) (s_0 ++ [[PV.sl n2 f2 es2]])) /\ J (i64.wrap (x4 + 1)) (n_0 && false) (s_0 ++ [[PV.sl n2 f2 es2]]) /\ μ (i64.wrap (x4 + 1)) (n_0 && false) (s_0
 ++ [[PV.sl n2 f2 es2]]) < μ x4 n_0 s_0 else R (PV.sl n_0 false s_0)
theorem zsh (n f : Bool) (es : LL) (J : Int -> Bool -> LL -> Prop) (μ : Int -> Bool -> LL -> Nat) {R : PV -> Prop} (h : zh7 n f es J μ R) : PCall Tryz.prog 13 [.sl n f es] R :=
 PCall.of Tryz.func13 (by kernel_rfl) (by kernel_rfl) (zl (by kernel_rfl)) (Eq.mpr (by kernel_rfl : aS Tryz.prog (fun _ => none) Tryz.f13 [0, 2, 3, 4, 12] (fun zz_ => match zz_ with | 3 => some ⟨Int × Bool × LL, fun s => zX n f es s.1 s.2.1 s.2.2, fun _ s => J s.1 s.2.1 s.2.2, fun s => μ s.1 s.2.1 s.2.2, fun e h => (gI e 4, oN h 0, oS h 0), [(3, 23, 1)], [0, 3, 4], [], fun p => ∀ (x4 : Int) (n_0 : Bool) (s_0 : LL), p (x4, n_0, s_0), fun p h s => h s.1 s.2.1 s.2.2⟩ | _ => none) (Tryz.f13.body.getD .skip) [.sl n f es] R = _) h)

def zh8 (sb : Bool) (n f : Bool) (es : LL) (sa sp : Int) (sf : Bool) (ha hp : Int) (tc tg tj tf tp : PV) (M S : List (PV × PV)) (n2 f2 : Bool) (ss : LL) (k r : Int) (R : PV -> Prop) : Prop :=
 if (k == 0) = true then if (k == 0) = true then PCall Tryz.prog 19 [PV.agg [Zb sb, PV.sl n f es, Z6 sa, Z6 sp, Zb sf, Z6 ha, Z6 hp], PV.ptr [tc, tg, tj, tf, tp, PV.mp M, PV.mp S], PV.sl n2 f2 ss, Z3 r] fun v => ∃ cs, v =
 PV.agg cs /\ cs.length = 7 /\ ∃ b, cs.head? = some (Zb b) /\ ∃ n1 f1 es1, cs.tail.head? = some (PV.sl n1 f1 es1) /\ ∃ n3, cs.tail.tail.head? = some (Z6 n3) /\ ∃ n4, cs.tail.tail.tail.head?
 = some (Z6 n4) /\ ∃ b1, cs.tail.tail.tail.tail.head? = some (Zb b1) /\ ∃ n5, cs.tail.tail.tail.tail.tail.head? = some (Z6 n5) /\ ∃ n6, cs.tail.tail.tail.tail.tail.tail.head? = some (Z6 n6) /\ R (PV.agg [Zb b, PV.sl n1
 f1 es1, Z6 n3, Z6 n4, Zb b1, Z6 n5, Z6 n6]) else if (k == 4) = true then PCall Tryz.prog 66 [PV.agg [Zb sb, PV.sl n f es, Z6 sa, Z6 sp, Zb sf, Z6 ha, Z6 hp], PV.ptr [tc, tg, tj, tf, tp, PV.mp M, PV.mp S], PV.sl n2 f2 ss] fun v => ∃
 (cs : List PV), v = PV.agg cs /\ cs.length = 7 /\ ∃ b, cs.head? = some (Zb b) /\ ∃ n1 f1 es1, cs.tail.head? = some (PV.sl n1 f1 es1) /\ ∃ n3, cs.tail.tail.head? = some (Z6 n3) /\ ∃ (n4 : Int),
 cs.tail.tail.tail.head? = some (Z6 n4) /\ ∃ b1, cs.tail.tail.tail.tail.head? = some (Zb b1) /\ ∃ n5, cs.tail.tail.tail.tail.tail.head? = some (Z6 n5) /\ ∃ n6, cs.tail.tail.tail.tail.tail.tail.head? = some (Z6 n6) /\ R
 (PV.agg [Zb b, PV.sl n1 f1 es1, Z6 n3, Z6 n4, Zb b1, Z6 n5, Z6 n6]) else if (k == 5) = true then PCall Tryz.prog 48 [PV.agg [Zb sb, PV.sl n f es, Z6 sa, Z6 sp, Zb sf, Z6 ha, Z6 hp], PV.ptr [tc, tg, tj, tf, tp, PV.mp M, PV.mp S], PV.sl n2 f2
 ss, Zb true] fun v => ∃ cs, v = PV.agg cs /\ cs.length = 7 /\ ∃ b, cs.head? = some (Zb b) /\ ∃ n1 f1 es1, cs.tail.head? = some (PV.sl n1 f1 es1) /\ ∃ n3, cs.tail.tail.head? =
 some (Z6 n3) /\ ∃ n4, cs.tail.tail.tail.head? = some (Z6 n4) /\ ∃ b1, cs.tail.tail.tail.tail.head? = some (Zb b1) /\ ∃ n5, cs.tail.tail.tail.tail.tail.head? = some (Z6 n5) /\ ∃ (n6 : Int),
 cs.tail.tail.tail.tail.tail.tail.head? = some (Z6 n6) /\ R (PV.agg [Zb b, PV.sl n1 f1 es1, Z6 n3, Z6 n4, Zb b1, Z6 n5, Z6 n6]) else PCall Tryz.prog 48 [PV.agg [Zb sb, PV.sl n f es, Z6 sa, Z6 sp, Zb sf, Z6 ha, Z6 hp], PV.ptr [tc, tg, tj, tf,
 tp, PV.mp M, PV.mp S], PV.sl n2 f2 ss, Zb false] fun v => ∃ cs, v = PV.agg cs /\ cs.length = 7 /\ ∃ b, cs.head? = some (Zb b) /\ ∃ n1 f1 es1, cs.tail.head? = some (PV.sl n1 f1 es1) /\ ∃
 (n3 : Int), cs.tail.tail.head? = some (Z6 n3) /\ ∃ n4, cs.tail.tail.tail.head? = some (Z6 n4) /\ ∃ b1, cs.tail.tail.tail.tail.head? = some (Zb b1) /\ ∃ n5, cs.tail.tail.tail.tail.tail.head? = some (Z6 n5) /\ ∃ (n6 :
 Int), cs.tail.tail.tail.tail.tail.tail.head? = some (Z6 n6) /\ R (PV.agg [Zb b, PV.sl n1 f1 es1, Z6 n3, Z6 n4, Zb b1, Z6 n5, Z6 n6]) else if (k == 1) = true then if (k == 1) = true then PCall Tryz.prog 19 [PV.agg [Zb sb, PV.sl n f es, Z6 sa,
 Z6 sp, Zb sf, Z6 ha, Z6 hp], PV.ptr [tc, tg, tj, tf, tp, PV.mp M, PV.mp S], PV.sl n2 f2 ss, Z3 r] fun v => ∃ cs, v = PV.agg cs /\ cs.length = 7 /\ ∃ b, cs.head? = some (Zb b) /\ ∃ n1 f1, ∃ (es1 :
 LL), cs.tail.head? = some (PV.sl n1 f1 es1) /\ ∃ n3, cs.tail.tail.head? = some (Z6 n3) /\ ∃ n4, cs.tail.tail.tail.head? = some (Z6 n4) /\ ∃ b1, cs.tail.tail.tail.tail.head? = some (Zb b1) /\ ∃ (n5 : Int),
 cs.tail.tail.tail.tail.tail.head? = some (Z6 n5) /\ ∃ n6, cs.tail.tail.tail.tail.tail.tail.head? = some (Z6 n6) /\ R (PV.agg [Zb b, PV.sl n1 f1 es1, Z6 n3, Z6 n4, Zb b1, Z6 n5, Z6 n6]) else if (k == 4) = true then PCall Tryz.prog 66
 [PV.agg [Zb sb, PV.sl n f es, Z6 sa, Z6 sp, Zb sf, Z6 ha, Z6 hp], PV.ptr [tc, tg, tj, tf, tp, PV.mp M, PV.mp S], PV.sl n2 f2 ss] fun v => ∃ cs, v = PV.agg cs /\ cs.length = 7 /\ ∃ b, cs.head? = some (Zb b) /\ ∃ (n1 :
 Bool), ∃ f1 es1, cs.tail.head? = some (PV.sl n1 f1 es1) /\ ∃ n3, cs.tail.tail.head? = some (Z6 n3) /\ ∃ n4, cs.tail.tail.tail.head? = some (Z6 n4) /\ ∃ b1, cs.tail.tail.tail.tail.head? = some (Zb b1)
 /\ ∃ n5, cs.tail.tail.tail.tail.tail.head? = some (Z6 n5) /\ ∃ n6, cs.tail.tail.tail.tail.tail.tail.head? = some (Z6 n6) /\ R (PV.agg [Zb b, PV.sl n1 f1 es1, Z6 n3, Z6 n4, Zb b1, Z6 n5, Z6 n6]) else if (k == 5) = true then
 PCall Tryz.prog 48 [PV.agg [Zb sb, PV.sl n f es, Z6 sa, Z6 sp, Zb sf, Z6 ha, Z6 hp], PV.ptr [tc, tg, tj, tf, tp, PV.mp M, PV.mp S], PV.sl n2 f2 ss, Zb true] fun v => ∃ cs, v = PV.agg cs /\ cs.length = 7 /\ ∃ (b : Bool),
 cs.head? = some (Zb b) /\ ∃ n1 f1 es1, cs.tail.head? = some (PV.sl n1 f1 es1) /\ ∃ n3, cs.tail.tail.head? = some (Z6 n3) /\ ∃ n4, cs.tail.tail.tail.head? = some (Z6 n4) /\ ∃ (b1 : Bool),
 cs.tail.tail.tail.tail.head? = some (Zb b1) /\ ∃ n5, cs.tail.tail.tail.tail.tail.head? = some (Z6 n5) /\ ∃ n6, cs.tail.tail.tail.tail.tail.tail.head? = some (Z6 n6) /\ R (PV.agg [Zb b, PV.sl n1 f1 es1, Z6 n3, Z6 n4, Zb b1, Z6
 n5, Z6 n6]) else PCall Tryz.prog 48 [PV.agg [Zb sb, PV.sl n f es, Z6 sa, Z6 sp, Zb sf, Z6 ha, Z6 hp], PV.ptr [tc, tg, tj, tf, tp, PV.mp M, PV.mp S], PV.sl n2 f2 ss, Zb false] fun v => ∃ cs, v = PV.agg cs /\ cs.length = 7 /\
 ∃ b, cs.head? = some (Zb b) /\ ∃ n1 f1 es1, cs.tail.head? = some (PV.sl n1 f1 es1) /\ ∃ n3, cs.tail.tail.head? = some (Z6 n3) /\ ∃ n4, cs.tail.tail.tail.head? = some (Z6 n4) /\ ∃ (b1 :
 Bool), cs.tail.tail.tail.tail.head? = some (Zb b1) /\ ∃ n5, cs.tail.tail.tail.tail.tail.head? = some (Z6 n5) /\ ∃ n6, cs.tail.tail.tail.tail.tail.tail.head? = some (Z6 n6) /\ R (PV.agg [Zb b, PV.sl n1 f1 es1, Z6 n3, Z6 n4, Zb
 b1, Z6 n5, Z6 n6]) else if (k == 2) = true then if (k == 2) = true then PCall Tryz.prog 19 [PV.agg [Zb sb, PV.sl n f es, Z6 sa, Z6 sp, Zb sf, Z6 ha, Z6 hp], PV.ptr [tc, tg, tj, tf, tp, PV.mp M, PV.mp S], PV.sl n2 f2 ss, Z3 r] fun (v : PV) =>
 ∃ cs, v = PV.agg cs /\ cs.length = 7 /\ ∃ b, cs.head? = some (Zb b) /\ ∃ n1 f1 es1, cs.tail.head? = some (PV.sl n1 f1 es1) /\ ∃ n3, cs.tail.tail.head? = some (Z6 n3) /\ ∃ (n4 : Int),
 cs.tail.tail.tail.head? = some (Z6 n4) /\ ∃ b1, cs.tail.tail.tail.tail.head? = some (Zb b1) /\ ∃ n5, cs.tail.tail.tail.tail.tail.head? = some (Z6 n5) /\ ∃ n6, cs.tail.tail.tail.tail.tail.tail.head? = some (Z6 n6) /\ R
 (PV.agg [Zb b, PV.sl n1 f1 es1, Z6 n3, Z6 n4, Zb b1, Z6 n5, Z6 n6]) else if (k == 4) = true then PCall Tryz.prog 66 [PV.agg [Zb sb, PV.sl n f es, Z6 sa, Z6 sp, Zb sf, Z6 ha, Z6 hp], PV.ptr [tc, tg, tj, tf, tp, PV.mp M, PV.mp S], PV.sl n2 f2
 ss] fun v => ∃ cs, v = PV.agg cs /\ cs.length = 7 /\ ∃ b, cs.head? = some (Zb b) /\ ∃ n1 f1 es1, cs.tail.head? = some (PV.sl n1 f1 es1) /\ ∃ n3, cs.tail.tail.head? = some (Z6 n3)
 /\ ∃ n4, cs.tail.tail.tail.head? = some (Z6 n4) /\ ∃ b1, cs.tail.tail.tail.tail.head? = some (Zb b1) /\ ∃ n5, cs.tail.tail.tail.tail.tail.head? = some (Z6 n5) /\ ∃ n6, cs.tail.tail.tail.tail.tail.tail.head? =
 some (Z6 n6) /\ R (PV.agg [Zb b, PV.sl n1 f1 es1, Z6 n3, Z6 n4, Zb b1, Z6 n5, Z6 n6]) else if (k == 5) = true then PCall Tryz.prog 48 [PV.agg [Zb sb, PV.sl n f es, Z6 sa, Z6 sp, Zb sf, Z6 ha, Z6 hp], PV.ptr [tc, tg, tj, tf, tp, PV.mp M,
 PV.mp S], PV.sl n2 f2 ss, Zb true] fun v => ∃ cs, v = PV.agg cs /\ cs.length = 7 /\ ∃ b, cs.head? = some (Zb b) /\ ∃ n1 f1 es1, cs.tail.head? = some (PV.sl n1 f1 es1) /\ ∃ (n3 : Int),
 cs.tail.tail.head? = some (Z6 n3) /\ ∃ n4, cs.tail.tail.tail.head? = some (Z6 n4) /\ ∃ b1, cs.tail.tail.tail.tail.head? = some (Zb b1) /\ ∃ n5, cs.tail.tail.tail.tail.tail.head? = some (Z6 n5) /\ ∃ (n6 : Int),
 cs.tail.tail.tail.tail.tail.tail.head? = some (Z6 n6) /\ R (PV.agg [Zb b, PV.sl n1 f1 es1, Z6 n3, Z6 n4, Zb b1, Z6 n5, Z6 n6]) else PCall Tryz.prog 48 [PV.agg [Zb sb, PV.sl n f es, Z6 sa, Z6 sp, Zb sf, Z6 ha, Z6 hp], PV.ptr [tc, tg, tj, tf,
 tp, PV.mp M, PV.mp S], PV.sl n2 f2 ss, Zb false] fun v => ∃ cs, v = PV.agg cs /\ cs.length = 7 /\ ∃ b, cs.head? = some (Zb b) /\ ∃ n1 f1 es1, cs.tail.head? = some (PV.sl n1 f1 es1) /\ ∃
 (n3 : Int), cs.tail.tail.head? = some (Z6 n3) /\ ∃ n4, cs.tail.tail.tail.head? = some (Z6 n4) /\ ∃ b1, cs.tail.tail.tail.tail.head? = some (Zb b1) /\ ∃ n5, cs.tail.tail.tail.tail.tail.head? = some (Z6 n5) /\ ∃ (n6 :
 Int), cs.tail.tail.tail.tail.tail.tail.head? = some (Z6 n6) /\ R (PV.agg [Zb b, PV.sl n1 f1 es1, Z6 n3, Z6 n4, Zb b1, Z6 n5, Z6 n6]) else if (k == 3) = true then PCall Tryz.prog 19 [PV.agg [Zb sb, PV.sl n f es, Z6 sa, Z6 sp, Zb sf, Z6 ha, Z6
 hp], PV.ptr [tc, tg, tj, tf, tp, PV.mp M, PV.mp S], PV.sl n2 f2 ss, Z3 r] fun v => ∃ cs, v = PV.agg cs /\ cs.length = 7 /\ ∃ b, cs.head? = some (Zb b) /\ ∃ n1 f1 es1, cs.tail.head? =
 some (PV.sl n1 f1 es1) /\ ∃ n3, cs.tail.tail.head? = some (Z6 n3) /\ ∃ n4, cs.tail.tail.tail.head? = some (Z6 n4) /\ ∃ b1, cs.tail.tail.tail.tail.head? = some (Zb b1) /\ ∃ n5, cs.tail.tail.tail.tail.tail.head? =
 some (Z6 n5) /\ ∃ n6, cs.tail.tail.tail.tail.tail.tail.head? = some (Z6 n6) /\ R (PV.agg [Zb b, PV.sl n1 f1 es1, Z6 n3, Z6 n4, Zb b1, Z6 n5, Z6 n6]) else if (k == 4) = true then PCall Tryz.prog 66 [PV.agg [Zb sb, PV.sl n f es, Z6 sa,
 Z6 sp, Zb sf, Z6 ha, Z6 hp], PV.ptr [tc, tg, tj, tf, tp, PV.mp M, PV.mp S], PV.sl n2 f2 ss] fun v => ∃ cs, v = PV.agg cs /\ cs.length = 7 /\ ∃ b, cs.head? = some (Zb b) /\ ∃ n1 f1, ∃ (es1 : LL),
 cs.tail.head? = some (PV.sl n1 f1 es1) /\ ∃ n3, cs.tail.tail.head? = some (Z6 n3) /\ ∃ n4, cs.tail.tail.tail.head? = some (Z6 n4) /\ ∃ b1, cs.tail.tail.tail.tail.head? = some (Zb b1) /\ ∃ (n5 : Int),
 cs.tail.tail.tail.tail.tail.head? = some (Z6 n5) /\ ∃ n6, cs.tail.tail.tail.tail.tail.tail.head? = some (Z6 n6) /\ R (PV.agg [Zb b, PV.sl n1 f1 es1, Z6 n3, Z6 n4, Zb b1, Z6 n5, Z6 n6]) else if (k == 5) = true then PCall Tryz.prog 48
 [PV.agg [Zb sb, PV.sl n f es, Z6 sa, Z6 sp, Zb sf, Z6 ha, Z6 hp], PV.ptr [tc, tg, tj, tf, tp, PV.mp M, PV.mp S], PV.sl n2 f2 ss, Zb true] fun v => ∃ cs, v = PV.agg cs /\ cs.length = 7 /\ ∃ b, cs.head? = some (Zb b)
 /\ ∃ n1 f1 es1, cs.tail.head? = some (PV.sl n1 f1 es1) /\ ∃ n3, cs.tail.tail.head? = some (Z6 n3) /\ ∃ n4, cs.tail.tail.tail.head? = some (Z6 n4) /\ ∃ b1, cs.tail.tail.tail.tail.head? =
 some (Zb b1) /\ ∃ n5, cs.tail.tail.tail.tail.tail.head? = some (Z6 n5) /\ ∃ n6, cs.tail.tail.tail.tail.tail.tail.head? = some (Z6 n6) /\ R (PV.agg [Zb b, PV.sl n1 f1 es1, Z6 n3, Z6 n4, Zb b1, Z6 n5, Z6 n6]) else PCall Tryz.prog
 48 [PV.agg [Zb sb, PV.sl n f es, Z6 sa, Z6 sp, Zb sf, Z6 ha, Z6 hp], PV.ptr [tc, tg, tj, tf, tp, PV.mp M, PV.mp S], PV.sl n2 f2 ss, Zb false] fun v => ∃ cs, v = PV.agg cs /\ cs.length = 7 /\ ∃ b, cs.head? = some (Zb
 b) /\ ∃ n1 f1 es1, cs.tail.head? = some (PV.sl n1 f1 es1) /\ ∃ n3, cs.tail.tail.head? = some (Z6 n3) /\ ∃ n4, cs.tail.tail.tail.head? = some (Z6 n4) /\ ∃ b1, cs.tail.tail.tail.tail.head? =
 some (Zb b1) /\ ∃ n5, cs.tail.tail.tail.tail.tail.head? = some (Z6 n5) /\ ∃ n6, cs.tail.tail.tail.tail.tail.tail.head? = some (Z6 n6) /\ R (PV.agg [Zb b, PV.sl n1 f1 es1, Z6 n3, Z6 n4, Zb b1, Z6 n5, Z6 n6])
theorem zsi (sb : Bool) (n f : Bool) (es : LL) (sa sp : Int) (sf : Bool) (ha hp : Int) (tc tg tj tf tp : PV) (M S : List (PV × PV)) (n2 f2 : Bool) (ss : LL) (k r : Int) {R : PV -> Prop} (h : zh8 sb n f es sa sp sf ha hp tc tg tj tf tp M S n2 f2 ss k r R) : PCall Tryz.prog 22 [.ptr [tc, tg, tj, tf, tp, .mp M, .mp S], .sl n2 f2 ss, .agg [.bool sb, .sl n f es, .int .i64 sa, .int .i64 sp, .bool sf, .int .i64 ha, .int .i64 hp], .agg [.int .i64 k, .int .i32 r]] R :=
 PCall.of Tryz.func22 (by kernel_rfl) (by kernel_rfl) (zl (by kernel_rfl)) (Eq.mpr (by kernel_rfl : aS Tryz.prog (fun _ => none) Tryz.f22 [0, 1, 2, 3, 6, 7, 8, 10, 11, 22, 28] (fun _ => none) (Tryz.f22.body.getD .skip) [.ptr [tc, tg, tj, tf, tp, .mp M, .mp S], .sl n2 f2 ss, .agg [.bool sb, .sl n f es, .int .i64 sa, .int .i64 sp, .bool sf, .int .i64 ha, .int .i64 hp], .agg [.int .i64 k, .int .i32 r]] R = _) h)

def dQ (n f : Bool) (es : LL) (sb : Bool) (i j : Int) (n2 f2 : Bool) (ss : LL) (n0 f0 : Bool) (s0 : LL) (n11 f11 : Bool) (s11 : LL) (x12 : PV) (x15 : Int) (h0_0 hn0_1 hf0_1 : Bool) (hs0_1 : LL) (h0_2 h0_3 : Int) (h0_4 : Bool) (h0_5 h0_6 : Int) (h1_0 hn1_1 hf1_1 : Bool) (hs1_1 : LL) (h1_2 h1_3 : Int) (h1_4 : Bool) (h1_5 h1_6 : Int) : Env × Hp := ([(0, .pv (.sl n0 f0 s0)), (4, LV.pv (PV.sl n2 f2 ss)), (11, .pv (.sl n11 f11 s11)), (12, .pv x12), (13, LV.box 0 0), (14, LV.box 1 0), (15, Y6 x15)], [.box [.pv (.bool h0_0), .pv (.sl hn0_1 hf0_1 hs0_1), Y6 h0_2, Y6 h0_3, .pv (.bool h0_4), Y6 h0_5, Y6 h0_6], .box [.pv (.bool h1_0), .pv (.sl hn1_1 hf1_1 hs1_1), Y6 h1_2, Y6 h1_3, .pv (.bool h1_4), Y6 h1_5, Y6 h1_6]])
def zh9 (n f : Bool) (es : LL) (sb : Bool) (i j : Int) (n2 f2 : Bool) (ss : LL) (J : Bool -> Bool -> LL -> Bool -> Bool -> LL -> PV -> Int -> Bool -> Bool -> Bool -> LL -> Int -> Int -> Bool -> Int -> Int -> Bool -> Bool -> Bool -> LL -> Int -> Int -> Bool -> Int -> Int -> Prop) (μ : Bool -> Bool -> LL -> Bool -> Bool -> LL -> PV -> Int -> Bool -> Bool -> Bool -> LL -> Int -> Int -> Bool -> Int -> Int -> Bool -> Bool -> Bool -> LL -> Int -> Int -> Bool -> Int -> Int -> Nat) (R : PV -> Prop) : Prop :=
 PCall Tryz.prog 13 [PV.sl n f es] fun v => ∃ n1 f1 es1, v = PV.sl n1 f1 es1 /\ if (decide (i < (-1099511627776 : Int)) || decide (i > 1099511627776)) = true then PCall Tryz.prog 15 [] fun v1 => ∃ (b
 : Bool), v1 = Zb b /\ R (Zb b) else PCall Tryz.prog 16 [] fun v1 => ∃ n3 f3 es2, v1 = PV.sl n3 f3 es2 /\ PCall Tryz.prog 17 [PV.sl n3 f3 es2] fun v2 => PCall Tryz.prog 18 [Zb sb, Z6 i, Z6 j] fun (v3
 : PV) => ∃ cs, v3 = PV.agg cs /\ cs.length = 7 /\ ∃ b, cs.head? = some (Zb b) /\ ∃ n4 f4 es3, cs.tail.head? = some (PV.sl n4 f4 es3) /\ ∃ n5, cs.tail.tail.head? = some (Z6 n5) /\ ∃ (n6 :
 Int), cs.tail.tail.tail.head? = some (Z6 n6) /\ ∃ b1, cs.tail.tail.tail.tail.head? = some (Zb b1) /\ ∃ n7, cs.tail.tail.tail.tail.tail.head? = some (Z6 n7) /\ ∃ n8, cs.tail.tail.tail.tail.tail.tail.head? = some (Z6 n8)
 /\ PCall Tryz.prog 21 [Zb sb, Z6 i, Z6 j] fun v4 => ∃ cs1, v4 = PV.agg cs1 /\ cs1.length = 7 /\ ∃ b2, cs1.head? = some (Zb b2) /\ ∃ n9 f5 es4, cs1.tail.head? = some (PV.sl n9 f5 es4) /\ ∃
 (n10 : Int), cs1.tail.tail.head? = some (Z6 n10) /\ ∃ n11, cs1.tail.tail.tail.head? = some (Z6 n11) /\ ∃ b3, cs1.tail.tail.tail.tail.head? = some (Zb b3) /\ ∃ n12, cs1.tail.tail.tail.tail.tail.head? = some (Z6 n12) /\ ∃
 (n13 : Int), cs1.tail.tail.tail.tail.tail.tail.head? = some (Z6 n13) /\ (aB (dQ n f es sb i j n2 f2 ss n1 f1 es1 n3 f3 es2 v2 (0 : Int) b n4 f4 es3 n5 n6 b1 n7 n8 b2 n9 f5 es4 n10 n11 b3 n12 n13) /\ J n1 f1 es1 n3 f3 es2 v2 (0 : Int) b
 n4 f4 es3 n5 n6 b1 n7 n8 b2 n9 f5 es4 n10 n11 b3 n12 n13) /\ ∀ (n0 f0 : Bool) (s0 : LL) (n111 f11 : Bool) (s11 : LL) (x12 : PV) (x15 : Int) (h0_0 hn0_1 hf0_1 : Bool) (hs0_1 : LL) (h0_2 h0_3 : Int) (h0_4 : Bool) (h0_5 h0_6 : Int) (h1_0 hn1_1
 hf1_1 : Bool) (hs1_1 : LL) (h1_2 h1_3 : Int) (h1_4 : Bool) (h1_5 h1_6 : Int), J n0 f0 s0 n111 f11 s11 x12 x15 h0_0 hn0_1 hf0_1 hs0_1 h0_2 h0_3 h0_4 h0_5 h0_6 h1_0 hn1_1 hf1_1 hs1_1 h1_2 h1_3 h1_4 h1_5 h1_6 -> if (decide (x15 < (↑ss.length :
 Int)) && decide (x15 < 20)) = true then aO ss x15 2 /\ ∃ n14, (ss.getD x15.toNat []).head? = some (Z6 n14) /\ ∃ n15, (ss.getD x15.toNat []).tail.head? = some (Z3 n15) /\ PCall Tryz.prog 22 [x12, PV.sl n0 f0 s0, PV.agg [Zb
 h0_0, PV.sl hn0_1 hf0_1 hs0_1, Z6 h0_2, Z6 h0_3, Zb h0_4, Z6 h0_5, Z6 h0_6], PV.agg [Z6 n14, Z3 n15]] fun v5 => ∃ cs2, v5 = PV.agg cs2 /\ cs2.length = 7 /\ ∃ b4, cs2.head? = some (Zb b4) /\ ∃ n16, ∃ (f6 :
 Bool), ∃ es5, cs2.tail.head? = some (PV.sl n16 f6 es5) /\ ∃ n17, cs2.tail.tail.head? = some (Z6 n17) /\ ∃ n18, cs2.tail.tail.tail.head? = some (Z6 n18) /\ ∃ b5, cs2.tail.tail.tail.tail.head? = some (Zb b5) /\ ∃
 (n19 : Int), cs2.tail.tail.tail.tail.tail.head? = some (Z6 n19) /\ ∃ n20, cs2.tail.tail.tail.tail.tail.tail.head? = some (Z6 n20) /\ if (n14 == 0) = true then if (n14 == 0) = true then PCall Tryz.prog 23 [PV.sl n111 f11 s11, PV.agg
 [Zb h1_0, PV.sl hn1_1 hf1_1 hs1_1, Z6 h1_2, Z6 h1_3, Zb h1_4, Z6 h1_5, Z6 h1_6], PV.sl n0 f0 s0, Z3 n15] fun v6 => ∃ cs3, v6 = PV.agg cs3 /\ cs3.length = 7 /\ ∃ b6, cs3.head? = some (Zb b6) /\ ∃ n21, ∃ (f7 :
 Bool), ∃ es6, cs3.tail.head? = some (PV.sl n21 f7 es6) /\ ∃ n22, cs3.tail.tail.head? = some (Z6 n22) /\ ∃ n23, cs3.tail.tail.tail.head? = some (Z6 n23) /\ ∃ b7, cs3.tail.tail.tail.tail.head? = some (Zb b7) /\ ∃
 (n24 : Int), cs3.tail.tail.tail.tail.tail.head? = some (Z6 n24) /\ ∃ n25, cs3.tail.tail.tail.tail.tail.tail.head? = some (Z6 n25) /\ if (b4 != b6) = true then R (Zb false) else PCall Tryz.prog 26 [PV.sl n16 f6 es5, PV.sl n21 f7 es6]
 fun v7 => ∃ b8, v7 = Zb b8 /\ if (!b8) = true then R (Zb false) else if (n17 != n22) = true then R (Zb false) else if (n18 != n23) = true then R (Zb false) else if (b5 != b7) = true then R (Zb false) else if (n19 != n24) =
 true then R (Zb false) else if (n20 != n25) = true then R (Zb false) else aB (dQ n f es sb i j n2 f2 ss n0 f0 s0 n111 f11 s11 x12 (i64.wrap (x15 + 1)) b4 n16 f6 es5 n17 n18 b5 n19 n20 b6 n21 f7 es6 n22 n23 b7 n24 n25) /\ J n0 f0
 s0 n111 f11 s11 x12 (i64.wrap (x15 + 1)) b4 n16 f6 es5 n17 n18 b5 n19 n20 b6 n21 f7 es6 n22 n23 b7 n24 n25 /\ μ n0 f0 s0 n111 f11 s11 x12 (i64.wrap (x15 + 1)) b4 n16 f6 es5 n17 n18 b5 n19 n20 b6 n21 f7 es6 n22 n23 b7 n24 n25
 < μ n0 f0 s0 n111 f11 s11 x12 x15 h0_0 hn0_1 hf0_1 hs0_1 h0_2 h0_3 h0_4 h0_5 h0_6 h1_0 hn1_1 hf1_1 hs1_1 h1_2 h1_3 h1_4 h1_5 h1_6 else if (n14 == 4) = true then PCall Tryz.prog 24 [PV.sl n111 f11 s11, PV.agg [Zb h1_0, PV.sl hn1_1 hf1_1
 hs1_1, Z6 h1_2, Z6 h1_3, Zb h1_4, Z6 h1_5, Z6 h1_6], PV.sl n0 f0 s0] fun v6 => ∃ cs3, v6 = PV.agg cs3 /\ cs3.length = 7 /\ ∃ b6, cs3.head? = some (Zb b6) /\ ∃ n21 f7 es6, cs3.tail.head?
 = some (PV.sl n21 f7 es6) /\ ∃ n22, cs3.tail.tail.head? = some (Z6 n22) /\ ∃ n23, cs3.tail.tail.tail.head? = some (Z6 n23) /\ ∃ b7, cs3.tail.tail.tail.tail.head? = some (Zb b7) /\ ∃ (n24 : Int),
 cs3.tail.tail.tail.tail.tail.head? = some (Z6 n24) /\ ∃ n25, cs3.tail.tail.tail.tail.tail.tail.head? = some (Z6 n25) /\ if (b4 != b6) = true then R (Zb false) else PCall Tryz.prog 26 [PV.sl n16 f6 es5, PV.sl n21 f7 es6] fun (v7 : PV)
 => ∃ b8, v7 = Zb b8 /\ if (!b8) = true then R (Zb false) else if (n17 != n22) = true then R (Zb false) else if (n18 != n23) = true then R (Zb false) else if (b5 != b7) = true then R (Zb false) else if (n19 != n24) = true then R (Zb
 false) else if (n20 != n25) = true then R (Zb false) else aB (dQ n f es sb i j n2 f2 ss n0 f0 s0 n111 f11 s11 x12 (i64.wrap (x15 + 1)) b4 n16 f6 es5 n17 n18 b5 n19 n20 b6 n21 f7 es6 n22 n23 b7 n24 n25) /\ J n0 f0 s0 n111 f11 s11
 x12 (i64.wrap (x15 + 1)) b4 n16 f6 es5 n17 n18 b5 n19 n20 b6 n21 f7 es6 n22 n23 b7 n24 n25 /\ μ n0 f0 s0 n111 f11 s11 x12 (i64.wrap (x15 + 1)) b4 n16 f6 es5 n17 n18 b5 n19 n20 b6 n21 f7 es6 n22 n23 b7 n24 n25 < μ n0 f0 s0
 n111 f11 s11 x12 x15 h0_0 hn0_1 hf0_1 hs0_1 h0_2 h0_3 h0_4 h0_5 h0_6 h1_0 hn1_1 hf1_1 hs1_1 h1_2 h1_3 h1_4 h1_5 h1_6 else if (n14 == 5) = true then PCall Tryz.prog 25 [PV.sl n111 f11 s11, PV.agg [Zb h1_0, PV.sl hn1_1 hf1_1 hs1_1, Z6 h1_2,
 Z6 h1_3, Zb h1_4, Z6 h1_5, Z6 h1_6], PV.sl n0 f0 s0, Zb true] fun v6 => ∃ cs3, v6 = PV.agg cs3 /\ cs3.length = 7 /\ ∃ b6, cs3.head? = some (Zb b6) /\ ∃ n21 f7 es6, cs3.tail.head? = some
 (PV.sl n21 f7 es6) /\ ∃ n22, cs3.tail.tail.head? = some (Z6 n22) /\ ∃ n23, cs3.tail.tail.tail.head? = some (Z6 n23) /\ ∃ b7, cs3.tail.tail.tail.tail.head? = some (Zb b7) /\ ∃ (n24 : Int),
 cs3.tail.tail.tail.tail.tail.head? = some (Z6 n24) /\ ∃ n25, cs3.tail.tail.tail.tail.tail.tail.head? = some (Z6 n25) /\ if (b4 != b6) = true then R (Zb false) else PCall Tryz.prog 26 [PV.sl n16 f6 es5, PV.sl n21 f7 es6] fun (v7 : PV)
 => ∃ b8, v7 = Zb b8 /\ if (!b8) = true then R (Zb false) else if (n17 != n22) = true then R (Zb false) else if (n18 != n23) = true then R (Zb false) else if (b5 != b7) = true then R (Zb false) else if (n19 != n24) = true then R (Zb
 false) else if (n20 != n25) = true then R (Zb false) else aB (dQ n f es sb i j n2 f2 ss n0 f0 s0 n111 f11 s11 x12 (i64.wrap (x15 + 1)) b4 n16 f6 es5 n17 n18 b5 n19 n20 b6 n21 f7 es6 n22 n23 b7 n24 n25) /\ J n0 f0 s0 n111 f11 s11
 x12 (i64.wrap (x15 + 1)) b4 n16 f6 es5 n17 n18 b5 n19 n20 b6 n21 f7 es6 n22 n23 b7 n24 n25 /\ μ n0 f0 s0 n111 f11 s11 x12 (i64.wrap (x15 + 1)) b4 n16 f6 es5 n17 n18 b5 n19 n20 b6 n21 f7 es6 n22 n23 b7 n24 n25 < μ n0 f0 s0
 n111 f11 s11 x12 x15 h0_0 hn0_1 hf0_1 hs0_1 h0_2 h0_3 h0_4 h0_5 h0_6 h1_0 hn1_1 hf1_1 hs1_1 h1_2 h1_3 h1_4 h1_5 h1_6 else PCall Tryz.prog 25 [PV.sl n111 f11 s11, PV.agg [Zb h1_0, PV.sl hn1_1 hf1_1 hs1_1, Z6 h1_2, Z6 h1_3, Zb h1_4, Z6 h1_5,
 Z6 h1_6], PV.sl n0 f0 s0, Zb false] fun v6 => ∃ cs3, v6 = PV.agg cs3 /\ cs3.length = 7 /\ ∃ b6, cs3.head? = some (Zb b6) /\ ∃ n21 f7 es6, cs3.tail.head? = some (PV.sl n21 f7 es6) /\ ∃
 (n22 : Int), cs3.tail.tail.head? = some (Z6 n22) /\ ∃ n23, cs3.tail.tail.tail.head? = some (Z6 n23) /\ ∃ b7, cs3.tail.tail.tail.tail.head? = some (Zb b7) /\ ∃ n24, cs3.tail.tail.tail.tail.tail.head? = some (Z6 n24) /\ ∃
 (n25 : Int), cs3.tail.tail.tail.tail.tail.tail.head? = some (Z6 n25) /\ if (b4 != b6) = true then R (Zb false) else PCall Tryz.prog 26 [PV.sl n16 f6 es5, PV.sl n21 f7 es6] fun v7 => ∃ b8, v7 = Zb b8 /\ if (!b8) = true then R
 (Zb false) else if (n17 != n22) = true then R (Zb false) else if (n18 != n23) = true then R (Zb false) else if (b5 != b7) = true then R (Zb false) else if (n19 != n24) = true then R (Zb false) else if (n20 != n25) = true then R (Zb false)
 else aB (dQ n f es sb i j n2 f2 ss n0 f0 s0 n111 f11 s11 x12 (i64.wrap (x15 + 1)) b4 n16 f6 es5 n17 n18 b5 n19 n20 b6 n21 f7 es6 n22 n23 b7 n24 n25) /\ J n0 f0 s0 n111 f11 s11 x12 (i64.wrap (x15 + 1)) b4 n16 f6 es5 n17
 n18 b5 n19 n20 b6 n21 f7 es6 n22 n23 b7 n24 n25 /\ μ n0 f0 s0 n111 f11 s11 x12 (i64.wrap (x15 + 1)) b4 n16 f6 es5 n17 n18 b5 n19 n20 b6 n21 f7 es6 n22 n23 b7 n24 n25 < μ n0 f0 s0 n111 f11 s11 x12 x15 h0_0 hn0_1 hf0_1 hs0_1 h0_2 h0_3
 h0_4 h0_5 h0_6 h1_0 hn1_1 hf1_1 hs1_1 h1_2 h1_3 h1_4 h1_5 h1_6 else if (n14 == 1) = true then if (n14 == 1) = true then PCall Tryz.prog 23 [PV.sl n111 f11 s11, PV.agg [Zb h1_0, PV.sl hn1_1 hf1_1 hs1_1, Z6 h1_2, Z6 h1_3, Zb h1_4, Z6 h1_5, Z6
 h1_6], PV.sl n0 f0 s0, Z3 n15] fun v6 => ∃ cs3, v6 = PV.agg cs3 /\ cs3.length = 7 /\ ∃ b6, cs3.head? = some (Zb b6) /\ ∃ n21 f7 es6, cs3.tail.head? = some (PV.sl n21 f7 es6) /\ ∃ (n22 :
 Int), cs3.tail.tail.head? = some (Z6 n22) /\ ∃ n23, cs3.tail.tail.tail.head? = some (Z6 n23) /\ ∃ b7, cs3.tail.tail.tail.tail.head? = some (Zb b7) /\ ∃ n24, cs3.tail.tail.tail.tail.tail.head? = some (Z6 n24) /\ ∃ (n25 :
 Int), cs3.tail.tail.tail.tail.tail.tail.head? = some (Z6 n25) /\ if (b4 != b6) = true then R (Zb false) else PCall Tryz.prog 26 [PV.sl n16 f6 es5, PV.sl n21 f7 es6] fun v7 => ∃ b8, v7 = Zb b8 /\ if (!b8) = true then R (Zb
 false) else if (n17 != n22) = true then R (Zb false) else if (n18 != n23) = true then R (Zb false) else if (b5 != b7) = true then R (Zb false) else if (n19 != n24) = true then R (Zb false) else if (n20 != n25) = true then R (Zb false) else
 aB (dQ n f es sb i j n2 f2 ss n0 f0 s0 n111 f11 s11 x12 (i64.wrap (x15 + 1)) b4 n16 f6 es5 n17 n18 b5 n19 n20 b6 n21 f7 es6 n22 n23 b7 n24 n25) /\ J n0 f0 s0 n111 f11 s11 x12 (i64.wrap (x15 + 1)) b4 n16 f6 es5 n17 n18 b5
 n19 n20 b6 n21 f7 es6 n22 n23 b7 n24 n25 /\ μ n0 f0 s0 n111 f11 s11 x12 (i64.wrap (x15 + 1)) b4 n16 f6 es5 n17 n18 b5 n19 n20 b6 n21 f7 es6 n22 n23 b7 n24 n25 < μ n0 f0 s0 n111 f11 s11 x12 x15 h0_0 hn0_1 hf0_1 hs0_1 h0_2 h0_3 h0_4
 h0_5 h0_6 h1_0 hn1_1 hf1_1 hs1_1 h1_2 h1_3 h1_4 h1_5 h1_6 else if (n14 == 4) = true then PCall Tryz.prog 24 [PV.sl n111 f11 s11, PV.agg [Zb h1_0, PV.sl hn1_1 hf1_1 hs1_1, Z6 h1_2, Z6 h1_3, Zb h1_4, Z6 h1_5, Z6 h1_6], PV.sl n0 f0 s0] fun (v6
 : PV) => ∃ cs3, v6 = PV.agg cs3 /\ cs3.length = (7 : Nat) /\ ∃ b6, cs3.head? = some (Zb b6) /\ ∃ n21 f7 es6, cs3.tail.head? = some (PV.sl n21 f7 es6) /\ ∃ n22, cs3.tail.tail.head? =
 some (Z6 n22) /\ ∃ n23, cs3.tail.tail.tail.head? = some (Z6 n23) /\ ∃ b7, cs3.tail.tail.tail.tail.head? = some (Zb b7) /\ ∃ n24, cs3.tail.tail.tail.tail.tail.head? = some (Z6 n24) /\ ∃ (n25 : Int),
 cs3.tail.tail.tail.tail.tail.tail.head? = some (Z6 n25) /\ if (b4 != b6) = true then R (Zb false) else PCall Tryz.prog 26 [PV.sl n16 f6 es5, PV.sl n21 f7 es6] fun v7 => ∃ b8, v7 = Zb b8 /\ if (!b8) = true then R (Zb false) else
 if (n17 != n22) = true then R (Zb false) else if (n18 != n23) = true then R (Zb false) else if (b5 != b7) = true then R (Zb false) else if (n19 != n24) = true then R (Zb false) else if (n20 != n25) = true then R (Zb false) else aB (dQ
 n f es sb i j n2 f2 ss n0 f0 s0 n111 f11 s11 x12 (i64.wrap (x15 + 1)) b4 n16 f6 es5 n17 n18 b5 n19 n20 b6 n21 f7 es6 n22 n23 b7 n24 n25) /\ J n0 f0 s0 n111 f11 s11 x12 (i64.wrap (x15 + 1)) b4 n16 f6 es5 n17 n18 b5 n19 n20 b6
 n21 f7 es6 n22 n23 b7 n24 n25 /\ μ n0 f0 s0 n111 f11 s11 x12 (i64.wrap (x15 + 1)) b4 n16 f6 es5 n17 n18 b5 n19 n20 b6 n21 f7 es6 n22 n23 b7 n24 n25 < μ n0 f0 s0 n111 f11 s11 x12 x15 h0_0 hn0_1 hf0_1 hs0_1 h0_2 h0_3 h0_4 h0_5 h0_6
 h1_0 hn1_1 hf1_1 hs1_1 h1_2 h1_3 h1_4 h1_5 h1_6 else if (n14 == 5) = true then PCall Tryz.prog 25 [PV.sl n111 f11 s11, PV.agg [Zb h1_0, PV.sl hn1_1 hf1_1 hs1_1, Z6 h1_2, Z6 h1_3, Zb h1_4, Z6 h1_5, Z6 h1_6], PV.sl n0 f0 s0, Zb true] fun (v6
 : PV) => ∃ cs3, v6 = PV.agg cs3 /\ cs3.length = 7 /\ ∃ b6, cs3.head? = some (Zb b6) /\ ∃ n21 f7 es6, cs3.tail.head? = some (PV.sl n21 f7 es6) /\ ∃ n22, cs3.tail.tail.head? = some (Z6
 n22) /\ ∃ n23, cs3.tail.tail.tail.head? = some (Z6 n23) /\ ∃ b7, cs3.tail.tail.tail.tail.head? = some (Zb b7) /\ ∃ n24, cs3.tail.tail.tail.tail.tail.head? = some (Z6 n24) /\ ∃ (n25 : Int),
 cs3.tail.tail.tail.tail.tail.tail.head? = some (Z6 n25) /\ if (b4 != b6) = true then R (Zb false) else PCall Tryz.prog 26 [PV.sl n16 f6 es5, PV.sl n21 f7 es6] fun v7 => ∃ b8, v7 = Zb b8 /\ if (!b8) = true then R (Zb false) else
 if (n17 != n22) = true then R (Zb false) else if (n18 != n23) = true then R (Zb false) else if (b5 != b7) = true then R (Zb false) else if (n19 != n24) = true then R (Zb false) else if (n20 != n25) = true then R (Zb false) else aB (dQ
 n f es sb i j n2 f2 ss n0 f0 s0 n111 f11 s11 x12 (i64.wrap (x15 + 1)) b4 n16 f6 es5 n17 n18 b5 n19 n20 b6 n21 f7 es6 n22 n23 b7 n24 n25) /\ J n0 f0 s0 n111 f11 s11 x12 (i64.wrap (x15 + 1)) b4 n16 f6 es5 n17 n18 b5 n19 n20 b6
 n21 f7 es6 n22 n23 b7 n24 n25 /\ μ n0 f0 s0 n111 f11 s11 x12 (i64.wrap (x15 + 1)) b4 n16 f6 es5 n17 n18 b5 n19 n20 b6 n21 f7 es6 n22 n23 b7 n24 n25 < μ n0 f0 s0 n111 f11 s11 x12 x15 h0_0 hn0_1 hf0_1 hs0_1 h0_2 h0_3 h0_4 h0_5 h0_6
 h1_0 hn1_1 hf1_1 hs1_1 h1_2 h1_3 h1_4 h1_5 h1_6 else PCall Tryz.prog 25 [PV.sl n111 f11 s11, PV.agg [Zb h1_0, PV.sl hn1_1 hf1_1 hs1_1, Z6 h1_2, Z6 h1_3, Zb h1_4, Z6 h1_5, Z6 h1_6], PV.sl n0 f0 s0, Zb false] fun v6 => ∃ (cs3 : List
 PV), v6 = PV.agg cs3 /\ cs3.length = 7 /\ ∃ b6, cs3.head? = some (Zb b6) /\ ∃ n21 f7 es6, cs3.tail.head? = some (PV.sl n21 f7 es6) /\ ∃ n22, cs3.tail.tail.head? = some (Z6 n22) /\ ∃ (n23 : Int),
 cs3.tail.tail.tail.head? = some (Z6 n23) /\ ∃ b7, cs3.tail.tail.tail.tail.head? = some (Zb b7) /\ ∃ n24, cs3.tail.tail.tail.tail.tail.head? = some (Z6 n24) /\ ∃ n25, cs3.tail.tail.tail.tail.tail.tail.head? = some (Z6
 n25) /\ if (b4 != b6) = true then R (Zb false) else PCall Tryz.prog 26 [PV.sl n16 f6 es5, PV.sl n21 f7 es6] fun v7 => ∃ b8, v7 = Zb b8 /\ if (!b8) = true then R (Zb false) else if (n17 != n22) = true then R (Zb false) else if
 (n18 != n23) = true then R (Zb false) else if (b5 != b7) = true then R (Zb false) else if (n19 != n24) = true then R (Zb false) else if (n20 != n25) = true then R (Zb false) else aB (dQ n f es sb i j n2 f2 ss n0 f0 s0 n111 f11 s11 x12
 (i64.wrap (x15 + 1)) b4 n16 f6 es5 n17 n18 b5 n19 n20 b6 n21 f7 es6 n22 n23 b7 n24 n25) /\ J n0 f0 s0 n111 f11 s11 x12 (i64.wrap (x15 + 1)) b4 n16 f6 es5 n17 n18 b5 n19 n20 b6 n21 f7 es6 n22 n23 b7 n24 n25 /\ μ n0 f0 s0 n111
 f11 s11 x12 (i64.wrap (x15 + 1)) b4 n16 f6 es5 n17 n18 b5 n19 n20 b6 n21 f7 es6 n22 n23 b7 n24 n25 < μ n0 f0 s0 n111 f11 s11 x12 x15 h0_0 hn0_1 hf0_1 hs0_1 h0_2 h0_3 h0_4 h0_5 h0_6 h1_0 hn1_1 hf1_1 hs1_1 h1_2 h1_3 h1_4 h1_5 h1_6
 else if (n14 == 2) = true then if (n14 == 2) = true then PCall Tryz.prog 23 [PV.sl n111 f11 s11, PV.agg [Zb h1_0, PV.sl hn1_1 hf1_1 hs1_1, Z6 h1_2, Z6 h1_3, Zb h1_4, Z6 h1_5, Z6 h1_6], PV.sl n0 f0 s0, Z3 n15] fun v6 => ∃ (cs3 : List
 PV), v6 = PV.agg cs3 /\ cs3.length = 7 /\ ∃ b6, cs3.head? = some (Zb b6) /\ ∃ n21 f7 es6, cs3.tail.head? = some (PV.sl n21 f7 es6) /\ ∃ n22, cs3.tail.tail.head? = some (Z6 n22) /\ ∃ (n23 : Int),
 cs3.tail.tail.tail.head? = some (Z6 n23) /\ ∃ b7, cs3.tail.tail.tail.tail.head? = some (Zb b7) /\ ∃ n24, cs3.tail.tail.tail.tail.tail.head? = some (Z6 n24) /\ ∃ n25, cs3.tail.tail.tail.tail.tail.tail.head? = some (Z6
 n25) /\ if (b4 != b6) = true then R (Zb false) else PCall Tryz.prog 26 [PV.sl n16 f6 es5, PV.sl n21 f7 es6] fun v7 => ∃ b8, v7 = Zb b8 /\ if (!b8) = true then R (Zb false) else if (n17 != n22) = true then R (Zb false) else if
 (n18 != n23) = true then R (Zb false) else if (b5 != b7) = true then R (Zb false) else if (n19 != n24) = true then R (Zb false) else if (n20 != n25) = true then R (Zb false) else aB (dQ n f es sb i j n2 f2 ss n0 f0 s0 n111 f11 s11 x12
 (i64.wrap (x15 + 1)) b4 n16 f6 es5 n17 n18 b5 n19 n20 b6 n21 f7 es6 n22 n23 b7 n24 n25) /\ J n0 f0 s0 n111 f11 s11 x12 (i64.wrap (x15 + 1)) b4 n16 f6 es5 n17 n18 b5 n19 n20 b6 n21 f7 es6 n22 n23 b7 n24 n25 /\ μ n0 f0 s0 n111
 f11 s11 x12 (i64.wrap (x15 + 1)) b4 n16 f6 es5 n17 n18 b5 n19 n20 b6 n21 f7 es6 n22 n23 b7 n24 n25 < μ n0 f0 s0 n111 f11 s11 x12 x15 h0_0 hn0_1 hf0_1 hs0_1 h0_2 h0_3 h0_4 h0_5 h0_6 h1_0 hn1_1 hf1_1 hs1_1 h1_2 h1_3 h1_4 h1_5 h1_6
 else if (n14 == 4) = true then PCall Tryz.prog 24 [PV.sl n111 f11 s11, PV.agg [Zb h1_0, PV.sl hn1_1 hf1_1 hs1_1, Z6 h1_2, Z6 h1_3, Zb h1_4, Z6 h1_5, Z6 h1_6], PV.sl n0 f0 s0] fun v6 => ∃ cs3, v6 = PV.agg cs3 /\ cs3.length =
 7 /\ ∃ b6, cs3.head? = some (Zb b6) /\ ∃ n21 f7 es6, cs3.tail.head? = some (PV.sl n21 f7 es6) /\ ∃ n22, cs3.tail.tail.head? = some (Z6 n22) /\ ∃ n23, cs3.tail.tail.tail.head? = some (Z6
 n23) /\ ∃ b7, cs3.tail.tail.tail.tail.head? = some (Zb b7) /\ ∃ n24, cs3.tail.tail.tail.tail.tail.head? = some (Z6 n24) /\ ∃ n25, cs3.tail.tail.tail.tail.tail.tail.head? = some (Z6 n25) /\ if (b4 != b6) = true then R
 (Zb false) else PCall Tryz.prog 26 [PV.sl n16 f6 es5, PV.sl n21 f7 es6] fun v7 => ∃ b8, v7 = Zb b8 /\ if (!b8) = true then R (Zb false) else if (n17 != n22) = true then R (Zb false) else if (n18 != n23) = true then R (Zb
 false) else if (b5 != b7) = true then R (Zb false) else if (n19 != n24) = true then R (Zb false) else if (n20 != n25) = true then R (Zb false) else aB (dQ n f es sb i j n2 f2 ss n0 f0 s0 n111 f11 s11 x12 (i64.wrap (x15 + 1)) b4
 n16 f6 es5 n17 n18 b5 n19 n20 b6 n21 f7 es6 n22 n23 b7 n24 n25) /\ J n0 f0 s0 n111 f11 s11 x12 (i64.wrap (x15 + 1)) b4 n16 f6 es5 n17 n18 b5 n19 n20 b6 n21 f7 es6 n22 n23 b7 n24 n25 /\ μ n0 f0 s0 n111 f11 s11 x12 (i64.wrap
 (x15 + 1)) b4 n16 f6 es5 n17 n18 b5 n19 n20 b6 n21 f7 es6 n22 n23 b7 n24 n25 < μ n0 f0 s0 n111 f11 s11 x12 x15 h0_0 hn0_1 hf0_1 hs0_1 h0_2 h0_3 h0_4 h0_5 h0_6 h1_0 hn1_1 hf1_1 hs1_1 h1_2 h1_3 h1_4 h1_5 h1_6 else if (n14 == 5) = true then
 PCall Tryz.prog 25 [PV.sl n111 f11 s11, PV.agg [Zb h1_0, PV.sl hn1_1 hf1_1 hs1_1, Z6 h1_2, Z6 h1_3, Zb h1_4, Z6 h1_5, Z6 h1_6], PV.sl n0 f0 s0, Zb true] fun v6 => ∃ cs3, v6 = PV.agg cs3 /\ cs3.length = 7 /\ ∃ (b6 : Bool),
 cs3.head? = some (Zb b6) /\ ∃ n21 f7 es6, cs3.tail.head? = some (PV.sl n21 f7 es6) /\ ∃ n22, cs3.tail.tail.head? = some (Z6 n22) /\ ∃ n23, cs3.tail.tail.tail.head? = some (Z6 n23) /\ ∃ (b7 : Bool),
 cs3.tail.tail.tail.tail.head? = some (Zb b7) /\ ∃ n24, cs3.tail.tail.tail.tail.tail.head? = some (Z6 n24) /\ ∃ n25, cs3.tail.tail.tail.tail.tail.tail.head? = some (Z6 n25) /\ if (b4 != b6) = true then R (Zb false) else PCall
 Tryz.prog 26 [PV.sl n16 f6 es5, PV.sl n21 f7 es6] fun v7 => ∃ b8, v7 = Zb b8 /\ if (!b8) = true then R (Zb false) else if (n17 != n22) = true then R (Zb false) else if (n18 != n23) = true then R (Zb false) else if (b5 != b7) =
 true then R (Zb false) else if (n19 != n24) = true then R (Zb false) else if (n20 != n25) = true then R (Zb false) else aB (dQ n f es sb i j n2 f2 ss n0 f0 s0 n111 f11 s11 x12 (i64.wrap (x15 + 1)) b4 n16 f6 es5 n17 n18 b5 n19
 n20 b6 n21 f7 es6 n22 n23 b7 n24 n25) /\ J n0 f0 s0 n111 f11 s11 x12 (i64.wrap (x15 + 1)) b4 n16 f6 es5 n17 n18 b5 n19 n20 b6 n21 f7 es6 n22 n23 b7 n24 n25 /\ μ n0 f0 s0 n111 f11 s11 x12 (i64.wrap (x15 + 1)) b4 n16 f6 es5 n17
 n18 b5 n19 n20 b6 n21 f7 es6 n22 n23 b7 n24 n25 < μ n0 f0 s0 n111 f11 s11 x12 x15 h0_0 hn0_1 hf0_1 hs0_1 h0_2 h0_3 h0_4 h0_5 h0_6 h1_0 hn1_1 hf1_1 hs1_1 h1_2 h1_3 h1_4 h1_5 h1_6 else PCall Tryz.prog 25 [PV.sl n111 f11 s11, PV.agg [Zb h1_0,
 PV.sl hn1_1 hf1_1 hs1_1, Z6 h1_2, Z6 h1_3, Zb h1_4, Z6 h1_5, Z6 h1_6], PV.sl n0 f0 s0, Zb false] fun v6 => ∃ cs3, v6 = PV.agg cs3 /\ cs3.length = 7 /\ ∃ b6, cs3.head? = some (Zb b6) /\ ∃ n21, ∃ (f7 : Bool),
 ∃ es6, cs3.tail.head? = some (PV.sl n21 f7 es6) /\ ∃ n22, cs3.tail.tail.head? = some (Z6 n22) /\ ∃ n23, cs3.tail.tail.tail.head? = some (Z6 n23) /\ ∃ b7, cs3.tail.tail.tail.tail.head? = some (Zb b7) /\ ∃ (n24 :
 Int), cs3.tail.tail.tail.tail.tail.head? = some (Z6 n24) /\ ∃ n25, cs3.tail.tail.tail.tail.tail.tail.head? = some (Z6 n25) /\ if (b4 != b6) = true then R (Zb false) else PCall Tryz.prog 26 [PV.sl n16 f6 es5, PV.sl n21 f7 es6] fun (v7
 : PV) => ∃ b8, v7 = Zb b8 /\ if (!b8) = true then R (Zb false) else if (n17 != n22) = true then R (Zb false) else if (n18 != n23) = true then R (Zb false) else if (b5 != b7) = true then R (Zb false) else if (n19 != n24) = true then R
 (Zb false) else if (n20 != n25) = true then R (Zb false) else aB (dQ n f es sb i j n2 f2 ss n0 f0 s0 n111 f11 s11 x12 (i64.wrap (x15 + 1)) b4 n16 f6 es5 n17 n18 b5 n19 n20 b6 n21 f7 es6 n22 n23 b7 n24 n25) /\ J n0 f0 s0 n111 f11
 s11 x12 (i64.wrap (x15 + 1)) b4 n16 f6 es5 n17 n18 b5 n19 n20 b6 n21 f7 es6 n22 n23 b7 n24 n25 /\ μ n0 f0 s0 n111 f11 s11 x12 (i64.wrap (x15 + 1)) b4 n16 f6 es5 n17 n18 b5 n19 n20 b6 n21 f7 es6 n22 n23 b7 n24 n25 < μ n0 f0 s0
 n111 f11 s11 x12 x15 h0_0 hn0_1 hf0_1 hs0_1 h0_2 h0_3 h0_4 h0_5 h0_6 h1_0 hn1_1 hf1_1 hs1_1 h1_2 h1_3 h1_4 h1_5 h1_6 else if (n14 == 3) = true then PCall Tryz.prog 23 [PV.sl n111 f11 s11, PV.agg [Zb h1_0, PV.sl hn1_1 hf1_1 hs1_1, Z6 h1_2,
 Z6 h1_3, Zb h1_4, Z6 h1_5, Z6 h1_6], PV.sl n0 f0 s0, Z3 n15] fun v6 => ∃ cs3, v6 = PV.agg cs3 /\ cs3.length = 7 /\ ∃ b6, cs3.head? = some (Zb b6) /\ ∃ n21 f7 es6, cs3.tail.head? = some
 (PV.sl n21 f7 es6) /\ ∃ n22, cs3.tail.tail.head? = some (Z6 n22) /\ ∃ n23, cs3.tail.tail.tail.head? = some (Z6 n23) /\ ∃ b7, cs3.tail.tail.tail.tail.head? = some (Zb b7) /\ ∃ (n24 : Int),
 cs3.tail.tail.tail.tail.tail.head? = some (Z6 n24) /\ ∃ n25, cs3.tail.tail.tail.tail.tail.tail.head? = some (Z6 n25) /\ if (b4 != b6) = true then R (Zb false) else PCall Tryz.prog 26 [PV.sl n16 f6 es5, PV.sl n21 f7 es6] fun (v7 : PV)
 => ∃ b8, v7 = Zb b8 /\ if (!b8) = true then R (Zb false) else if (n17 != n22) = true then R (Zb false) else if (n18 != n23) = true then R (Zb false) else if (b5 != b7) = true then R (Zb false) else if (n19 != n24) = true then R (Zb
 false) else if (n20 != n25) = true then R (Zb false) else aB (dQ n f es sb i j n2 f2 ss n0 f0 s0 n111 f11 s11 x12 (i64.wrap (x15 + 1)) b4 n16 f6 es5 n17 n18 b5 n19 n20 b6 n21 f7 es6 n22 n23 b7 n24 n25) /\ J n0 f0 s0 n111 f11 s11
 x12 (i64.wrap (x15 + 1)) b4 n16 f6 es5 n17 n18 b5 n19 n20 b6 n21 f7 es6 n22 n23 b7 n24 n25 /\ μ n0 f0 s0 n111 f11 s11 x12 (i64.wrap (x15 + 1)) b4 n16 f6 es5 n17 n18 b5 n19 n20 b6 n21 f7 es6 n22 n23 b7 n24 n25 < μ n0 f0 s0
 n111 f11 s11 x12 x15 h0_0 hn0_1 hf0_1 hs0_1 h0_2 h0_3 h0_4 h0_5 h0_6 h1_0 hn1_1 hf1_1 hs1_1 h1_2 h1_3 h1_4 h1_5 h1_6 else if (n14 == 4) = true then PCall Tryz.prog 24 [PV.sl n111 f11 s11, PV.agg [Zb h1_0, PV.sl hn1_1 hf1_1 hs1_1, Z6 h1_2,
 Z6 h1_3, Zb h1_4, Z6 h1_5, Z6 h1_6], PV.sl n0 f0 s0] fun v6 => ∃ cs3, v6 = PV.agg cs3 /\ cs3.length = 7 /\ ∃ b6, cs3.head? = some (Zb b6) /\ ∃ n21 f7 es6, cs3.tail.head? = some (PV.sl
 n21 f7 es6) /\ ∃ n22, cs3.tail.tail.head? = some (Z6 n22) /\ ∃ n23, cs3.tail.tail.tail.head? = some (Z6 n23) /\ ∃ b7, cs3.tail.tail.tail.tail.head? = some (Zb b7) /\ ∃ n24, cs3.tail.tail.tail.tail.tail.head? =
 some (Z6 n24) /\ ∃ n25, cs3.tail.tail.tail.tail.tail.tail.head? = some (Z6 n25) /\ if (b4 != b6) = true then R (Zb false) else PCall Tryz.prog 26 [PV.sl n16 f6 es5, PV.sl n21 f7 es6] fun v7 => ∃ b8, v7 = Zb b8 /\ if
 (!b8) = true then R (Zb false) else if (n17 != n22) = true then R (Zb false) else if (n18 != n23) = true then R (Zb false) else if (b5 != b7) = true then R (Zb false) else if (n19 != n24) = true then R (Zb false) else if (n20 != n25) = true
 then R (Zb false) else aB (dQ n f es sb i j n2 f2 ss n0 f0 s0 n111 f11 s11 x12 (i64.wrap (x15 + 1)) b4 n16 f6 es5 n17 n18 b5 n19 n20 b6 n21 f7 es6 n22 n23 b7 n24 n25) /\ J n0 f0 s0 n111 f11 s11 x12 (i64.wrap (x15 + 1))
 b4 n16 f6 es5 n17 n18 b5 n19 n20 b6 n21 f7 es6 n22 n23 b7 n24 n25 /\ μ n0 f0 s0 n111 f11 s11 x12 (i64.wrap (x15 + 1)) b4 n16 f6 es5 n17 n18 b5 n19 n20 b6 n21 f7 es6 n22 n23 b7 n24 n25 < μ n0 f0 s0 n111 f11 s11 x12 x15 h0_0 hn0_1
 hf0_1 hs0_1 h0_2 h0_3 h0_4 h0_5 h0_6 h1_0 hn1_1 hf1_1 hs1_1 h1_2 h1_3 h1_4 h1_5 h1_6 else if (n14 == 5) = true then PCall Tryz.prog 25 [PV.sl n111 f11 s11, PV.agg [Zb h1_0, PV.sl hn1_1 hf1_1 hs1_1, Z6 h1_2, Z6 h1_3, Zb h1_4, Z6 h1_5, Z6
 h1_6], PV.sl n0 f0 s0, Zb true] fun v6 => ∃ cs3, v6 = PV.agg cs3 /\ cs3.length = 7 /\ ∃ b6, cs3.head? = some (Zb b6) /\ ∃ n21 f7 es6, cs3.tail.head? = some (PV.sl n21 f7 es6) /\ ∃ (n22 :
 Int), cs3.tail.tail.head? = some (Z6 n22) /\ ∃ n23, cs3.tail.tail.tail.head? = some (Z6 n23) /\ ∃ b7, cs3.tail.tail.tail.tail.head? = some (Zb b7) /\ ∃ n24, cs3.tail.tail.tail.tail.tail.head? = some (Z6 n24) /\ ∃ (n25 :
 Int), cs3.tail.tail.tail.tail.tail.tail.head? = some (Z6 n25) /\ if (b4 != b6) = true then R (Zb false) else PCall Tryz.prog 26 [PV.sl n16 f6 es5, PV.sl n21 f7 es6] fun v7 => ∃ b8, v7 = Zb b8 /\ if (!b8) = true then R (Zb
 false) else if (n17 != n22) = true then R (Zb false) else if (n18 != n23) = true then R (Zb false) else if (b5 != b7) = true then R (Zb false) else if (n19 != n24) = true then R (Zb false) else if (n20 != n25) = true then R (Zb false) else
 aB (dQ n f es sb i j n2 f2 ss n0 f0 s0 n111 f11 s11 x12 (i64.wrap (x15 + 1)) b4 n16 f6 es5 n17 n18 b5 n19 n20 b6 n21 f7 es6 n22 n23 b7 n24 n25) /\ J n0 f0 s0 n111 f11 s11 x12 (i64.wrap (x15 + 1)) b4 n16 f6 es5 n17 n18 b5
 n19 n20 b6 n21 f7 es6 n22 n23 b7 n24 n25 /\ μ n0 f0 s0 n111 f11 s11 x12 (i64.wrap (x15 + 1)) b4 n16 f6 es5 n17 n18 b5 n19 n20 b6 n21 f7 es6 n22 n23 b7 n24 n25 < μ n0 f0 s0 n111 f11 s11 x12 x15 h0_0 hn0_1 hf0_1 hs0_1 h0_2 h0_3 h0_4
 h0_5 h0_6 h1_0 hn1_1 hf1_1 hs1_1 h1_2 h1_3 h1_4 h1_5 h1_6 else PCall Tryz.prog 25 [PV.sl n111 f11 s11, PV.agg [Zb h1_0, PV.sl hn1_1 hf1_1 hs1_1, Z6 h1_2, Z6 h1_3, Zb h1_4, Z6 h1_5, Z6 h1_6], PV.sl n0 f0 s0, Zb false] fun v6 => ∃ (cs3
 : List PV), v6 = PV.agg cs3 /\ cs3.length = 7 /\ ∃ b6, cs3.head? = some (Zb b6) /\ ∃ n21 f7 es6, cs3.tail.head? = some (PV.sl n21 f7 es6) /\ ∃ n22, cs3.tail.tail.head? = some (Z6 n22) /\ ∃ (n23 :
 Int), cs3.tail.tail.tail.head? = some (Z6 n23) /\ ∃ b7, cs3.tail.tail.tail.tail.head? = some (Zb b7) /\ ∃ n24, cs3.tail.tail.tail.tail.tail.head? = some (Z6 n24) /\ ∃ n25, cs3.tail.tail.tail.tail.tail.tail.head? = some
 (Z6 n25) /\ if (b4 != b6) = true then R (Zb false) else PCall Tryz.prog 26 [PV.sl n16 f6 es5, PV.sl n21 f7 es6] fun v7 => ∃ b8, v7 = Zb b8 /\ if (!b8) = true then R (Zb false) else if (n17 != n22) = true then R (Zb false) else
 if (n18 != n23) = true then R (Zb false) else if (b5 != b7) = true then R (Zb false) else if (n19 != n24) = true then R (Zb false) else if (n20 != n25) = true then R (Zb false) else aB (dQ n f es sb i j n2 f2 ss n0 f0 s0 n111 f11 s11
 x12 (i64.wrap (x15 + 1)) b4 n16 f6 es5 n17 n18 b5 n19 n20 b6 n21 f7 es6 n22 n23 b7 n24 n25) /\ J n0 f0 s0 n111 f11 s11 x12 (i64.wrap (x15 + 1)) b4 n16 f6 es5 n17 n18 b5 n19 n20 b6 n21 f7 es6 n22 n23 b7 n24 n25 /\ μ n0 f0 s0
 n111 f11 s11 x12 (i64.wrap (x15 + 1)) b4 n16 f6 es5 n17 n18 b5 n19 n20 b6 n21 f7 es6 n22 n23 b7 n24 n25 < μ n0 f0 s0 n111 f11 s11 x12 x15 h0_0 hn0_1 hf0_1 hs0_1 h0_2 h0_3 h0_4 h0_5 h0_6 h1_0 hn1_1 hf1_1 hs1_1 h1_2 h1_3 h1_4 h1_5
 h1_6 else PCall Tryz.prog 15 [] fun v5 => ∃ b4, v5 = Zb b4 /\ R (Zb b4)
theorem zsj (n f : Bool) (es : LL) (sb : Bool) (i j : Int) (n2 f2 : Bool) (ss : LL) (J : Bool -> Bool -> LL -> Bool -> Bool -> LL -> PV -> Int -> Bool -> Bool -> Bool -> LL -> Int -> Int -> Bool -> Int -> Int -> Bool -> Bool -> Bool -> LL -> Int -> Int -> Bool -> Int -> Int -> Prop) (μ : Bool -> Bool -> LL -> Bool -> Bool -> LL -> PV -> Int -> Bool -> Bool -> Bool -> LL -> Int -> Int -> Bool -> Int -> Int -> Bool -> Bool -> Bool -> LL -> Int -> Int -> Bool -> Int -> Int -> Nat) {R : PV -> Prop} (h : zh9 n f es sb i j n2 f2 ss J μ R) : PCall Tryz.prog 4 [.sl n f es, .bool sb, .int .i64 i, .int .i64 j, .sl n2 f2 ss] R :=
 PCall.of Tryz.func4 (by kernel_rfl) (by kernel_rfl) (zl (by kernel_rfl)) (Eq.mpr (by kernel_rfl : aS Tryz.prog (fun _ => none) Tryz.f4 [0, 1, 2, 3, 4, 10, 11, 12, 13, 14, 15, 16, 24, 44, 57, 62, 73, 79, 132] (fun zz_ => match zz_ with | 9 => some ⟨Bool × Bool × LL × Bool × Bool × LL × PV × Int × Bool × Bool × Bool × LL × Int × Int × Bool × Int × Int × Bool × Bool × Bool × LL × Int × Int × Bool × Int × Int, fun s => dQ n f es sb i j n2 f2 ss s.1 s.2.1 s.2.2.1 s.2.2.2.1 s.2.2.2.2.1 s.2.2.2.2.2.1 s.2.2.2.2.2.2.1 s.2.2.2.2.2.2.2.1 s.2.2.2.2.2.2.2.2.1 s.2.2.2.2.2.2.2.2.2.1 s.2.2.2.2.2.2.2.2.2.2.1 s.2.2.2.2.2.2.2.2.2.2.2.1 s.2.2.2.2.2.2.2.2.2.2.2.2.1 s.2.2.2.2.2.2.2.2.2.2.2.2.2.1 s.2.2.2.2.2.2.2.2.2.2.2.2.2.2.1 s.2.2.2.2.2.2.2.2.2.2.2.2.2.2.2.1 s.2.2.2.2.2.2.2.2.2.2.2.2.2.2.2.2.1 s.2.2.2.2.2.2.2.2.2.2.2.2.2.2.2.2.2.1 s.2.2.2.2.2.2.2.2.2.2.2.2.2.2.2.2.2.2.1 s.2.2.2.2.2.2.2.2.2.2.2.2.2.2.2.2.2.2.2.1 s.2.2.2.2.2.2.2.2.2.2.2.2.2.2.2.2.2.2.2.2.1 s.2.2.2.2.2.2.2.2.2.2.2.2.2.2.2.2.2.2.2.2.2.1 s.2.2.2.2.2.2.2.2.2.2.2.2.2.2.2.2.2.2.2.2.2.2.1 s.2.2.2.2.2.2.2.2.2.2.2.2.2.2.2.2.2.2.2.2.2.2.2.1 s.2.2.2.2.2.2.2.2.2.2.2.2.2.2.2.2.2.2.2.2.2.2.2.2.1 s.2.2.2.2.2.2.2.2.2.2.2.2.2.2.2.2.2.2.2.2.2.2.2.2.2, fun _ s => J s.1 s.2.1 s.2.2.1 s.2.2.2.1 s.2.2.2.2.1 s.2.2.2.2.2.1 s.2.2.2.2.2.2.1 s.2.2.2.2.2.2.2.1 s.2.2.2.2.2.2.2.2.1 s.2.2.2.2.2.2.2.2.2.1 s.2.2.2.2.2.2.2.2.2.2.1 s.2.2.2.2.2.2.2.2.2.2.2.1 s.2.2.2.2.2.2.2.2.2.2.2.2.1 s.2.2.2.2.2.2.2.2.2.2.2.2.2.1 s.2.2.2.2.2.2.2.2.2.2.2.2.2.2.1 s.2.2.2.2.2.2.2.2.2.2.2.2.2.2.2.1 s.2.2.2.2.2.2.2.2.2.2.2.2.2.2.2.2.1 s.2.2.2.2.2.2.2.2.2.2.2.2.2.2.2.2.2.1 s.2.2.2.2.2.2.2.2.2.2.2.2.2.2.2.2.2.2.1 s.2.2.2.2.2.2.2.2.2.2.2.2.2.2.2.2.2.2.2.1 s.2.2.2.2.2.2.2.2.2.2.2.2.2.2.2.2.2.2.2.2.1 s.2.2.2.2.2.2.2.2.2.2.2.2.2.2.2.2.2.2.2.2.2.1 s.2.2.2.2.2.2.2.2.2.2.2.2.2.2.2.2.2.2.2.2.2.2.1 s.2.2.2.2.2.2.2.2.2.2.2.2.2.2.2.2.2.2.2.2.2.2.2.1 s.2.2.2.2.2.2.2.2.2.2.2.2.2.2.2.2.2.2.2.2.2.2.2.2.1 s.2.2.2.2.2.2.2.2.2.2.2.2.2.2.2.2.2.2.2.2.2.2.2.2.2, fun s => μ s.1 s.2.1 s.2.2.1 s.2.2.2.1 s.2.2.2.2.1 s.2.2.2.2.2.1 s.2.2.2.2.2.2.1 s.2.2.2.2.2.2.2.1 s.2.2.2.2.2.2.2.2.1 s.2.2.2.2.2.2.2.2.2.1 s.2.2.2.2.2.2.2.2.2.2.1 s.2.2.2.2.2.2.2.2.2.2.2.1 s.2.2.2.2.2.2.2.2.2.2.2.2.1 s.2.2.2.2.2.2.2.2.2.2.2.2.2.1 s.2.2.2.2.2.2.2.2.2.2.2.2.2.2.1 s.2.2.2.2.2.2.2.2.2.2.2.2.2.2.2.1 s.2.2.2.2.2.2.2.2.2.2.2.2.2.2.2.2.1 s.2.2.2.2.2.2.2.2.2.2.2.2.2.2.2.2.2.1 s.2.2.2.2.2.2.2.2.2.2.2.2.2.2.2.2.2.2.1 s.2.2.2.2.2.2.2.2.2.2.2.2.2.2.2.2.2.2.2.1 s.2.2.2.2.2.2.2.2.2.2.2.2.2.2.2.2.2.2.2.2.1 s.2.2.2.2.2.2.2.2.2.2.2.2.2.2.2.2.2.2.2.2.2.1 s.2.2.2.2.2.2.2.2.2.2.2.2.2.2.2.2.2.2.2.2.2.2.1 s.2.2.2.2.2.2.2.2.2.2.2.2.2.2.2.2.2.2.2.2.2.2.2.1 s.2.2.2.2.2.2.2.2.2.2.2.2.2.2.2.2.2.2.2.2.2.2.2.2.1 s.2.2.2.2.2.2.2.2.2.2.2.2.2.2.2.2.2.2.2.2.2.2.2.2.2, fun e h => (gN e 0, gF e 0, gS e 0, gN e 11, gF e 11, gS e 11, gP e 12, gI e 15, hB h 0 0, hN h 0 1, hF h 0 1, hS h 0 1, hI h 0 2, hI h 0 3, hB h 0 4, hI h 0 5, hI h 0 6, hB h 1 0, hN h 1 1, hF h 1 1, hS h 1 1, hI h 1 2, hI h 1 3, hB h 1 4, hI h 1 5, hI h 1 6), [], [0, 4, 11, 12, 13, 14, 15], [], fun p => ∀ (n0 f0 : Bool) (s0 : LL) (n11 f11 : Bool) (s11 : LL) (x12 : PV) (x15 : Int) (h0_0 hn0_1 hf0_1 : Bool) (hs0_1 : LL) (h0_2 h0_3 : Int) (h0_4 : Bool) (h0_5 h0_6 : Int) (h1_0 hn1_1 hf1_1 : Bool) (hs1_1 : LL) (h1_2 h1_3 : Int) (h1_4 : Bool) (h1_5 h1_6 : Int), p (n0, f0, s0, n11, f11, s11, x12, x15, h0_0, hn0_1, hf0_1, hs0_1, h0_2, h0_3, h0_4, h0_5, h0_6, h1_0, hn1_1, hf1_1, hs1_1, h1_2, h1_3, h1_4, h1_5, h1_6), fun p h s => h s.1 s.2.1 s.2.2.1 s.2.2.2.1 s.2.2.2.2.1 s.2.2.2.2.2.1 s.2.2.2.2.2.2.1 s.2.2.2.2.2.2.2.1 s.2.2.2.2.2.2.2.2.1 s.2.2.2.2.2.2.2.2.2.1 s.2.2.2.2.2.2.2.2.2.2.1 s.2.2.2.2.2.2.2.2.2.2.2.1 s.2.2.2.2.2.2.2.2.2.2.2.2.1 s.2.2.2.2.2.2.2.2.2.2.2.2.2.1 s.2.2.2.2.2.2.2.2.2.2.2.2.2.2.1 s.2.2.2.2.2.2.2.2.2.2.2.2.2.2.2.1 s.2.2.2.2.2.2.2.2.2.2.2.2.2.2.2.2.1 s.2.2.2.2.2.2.2.2.2.2.2.2.2.2.2.2.2.1 s.2.2.2.2.2.2.2.2.2.2.2.2.2.2.2.2.2.2.1 s.2.2.2.2.2.2.2.2.2.2.2.2.2.2.2.2.2.2.2.1 s.2.2.2.2.2.2.2.2.2.2.2.2.2.2.2.2.2.2.2.2.1 s.2.2.2.2.2.2.2.2.2.2.2.2.2.2.2.2.2.2.2.2.2.1 s.2.2.2.2.2.2.2.2.2.2.2.2.2.2.2.2.2.2.2.2.2.2.1 s.2.2.2.2.2.2.2.2.2.2.2.2.2.2.2.2.2.2.2.2.2.2.2.1 s.2.2.2.2.2.2.2.2.2.2.2.2.2.2.2.2.2.2.2.2.2.2.2.2.1 s.2.2.2.2.2.2.2.2.2.2.2.2.2.2.2.2.2.2.2.2.2.2.2.2.2⟩ | _ => none) (Tryz.f4.body.getD .skip) [.sl n f es, .bool sb, .int .i64 i, .int .i64 j, .sl n2 f2 ss] R = _) h)

end Go.Eng


set_option linter.unusedSimpArgs false
namespace Go.Eng
open Go Go.Proofs Go.Eng.Rows Go.Eng.Trie Go.Eng.Srt
structure SeekS where
 back : Bool
 pat : List Int
 line : Int
 place : Int
 failed : Bool
 ha : Int
 hp : Int
def dC (n f : Bool) (s : SeekS) : PV := .agg [.bool s.back, .sl n f (aA s.pat), .int .i64 s.line, .int .i64 s.place, .bool s.failed, .int .i64 s.ha, .int .i64 s.hp]
def dD (b : Bool) : Int := if b = true then 1 else -1
def jW (rows : List Row) (T : List (List Int)) (s : SeekS) (i : Int) : SeekS := match dK (fQ rows s.pat) T (dD s.back) i with
 | some (a, b) => ⟨s.back, s.pat, a, b, false, s.ha, s.hp⟩
 | none => ⟨s.back, s.pat, s.line, s.place, true, s.ha, s.hp⟩
def mG (rows : List Row) (T : List (List Int)) (s : SeekS) (r : Int) : SeekS := jW rows T ⟨s.back, s.pat ++ [r], s.line, s.place, s.failed, s.ha, s.hp⟩ s.line
def iC (rows : List Row) (T : List (List Int)) (s : SeekS) : SeekS :=
 if s.pat.take (s.pat.length - 1) = [] then ⟨s.back, [], s.ha, s.hp, false, s.ha, s.hp⟩
 else jW rows T ⟨s.back, s.pat.take (s.pat.length - 1), s.ha, s.hp, false, s.ha, s.hp⟩ s.ha
def eR (rows : List Row) (T : List (List Int)) (s : SeekS) (b : Bool) : SeekS :=
 if s.pat = [] then ⟨b, s.pat, s.line, s.place, false, s.ha, s.hp⟩
 else jW rows T ⟨b, s.pat, s.line, s.place, s.failed, s.ha, s.hp⟩ (s.line + dD b)
def doK (rows : List Row) (T : List (List Int)) (s : SeekS) (k r : Int) : SeekS :=
 if k = 0 ∨ k = 1 ∨ k = 2 ∨ k = 3 then mG rows T s r else if k = 4 then iC rows T s else if k = 5 then eR rows T s true else eR rows T s false
structure KOK (m : Nat) (s : SeekS) : Prop where
 r : R32 s.pat
 l : s.pat.length <= m
 a : -2199023255552 <= s.line /\ s.line <= 2199023255552
 h : -2199023255552 <= s.ha /\ s.ha <= 2199023255552
theorem zY (rows : List Row) (T : List (List Int)) (s : SeekS) (i : Int) : (dK (fQ rows s.pat) T (dD s.back) i = none /\ jW rows T s i = ⟨s.back, s.pat, s.line, s.place, true, s.ha, s.hp⟩) ∨
 ∃ a b c, dK (fQ rows s.pat) T (dD s.back) i = some (a, b) /\ a < T.length /\ fQ rows s.pat (T.getD a []) = some (b, c) /\ jW rows T s i = ⟨s.back, s.pat, a, b, false, s.ha, s.hp⟩ := by
 unfold jW
 cases h : dK (fQ rows s.pat) T (dD s.back) i with
 | none => exact .inl ⟨rfl, rfl⟩
 | some q =>
   obtain ⟨a, b⟩ := q
   obtain ⟨h1, c, h2⟩ := zhq (p := fQ rows s.pat) h
   exact .inr ⟨a, b, c, rfl, h1, h2, rfl⟩
theorem KOK.look {m : Nat} {s : SeekS} (h : KOK m s) (rows : List Row) {T : List (List Int)} (hT : T.length < 100000) (i : Int) : KOK m (jW rows T s i) := by
 rcases zY rows T s i with ⟨_, e⟩ | ⟨a, b, c, _, h1, _, e⟩
 ·rw [e]; exact ⟨h.r, h.l, h.a, h.h⟩
 ·rw [e]; exact ⟨h.r, h.l, by dsimp only; omega, h.h⟩
theorem KOK.doK {m : Nat} {s : SeekS} (h : KOK m s) (rows : List Row) {T : List (List Int)} (hT : T.length < 100000) {k r : Int} (hr : -2147483648 <= r /\ r <= 2147483647) : KOK (m + 1) (doK rows T s k r) := by
 have hl := h.l
 have ag : ∀ b, KOK (m + 1) (eR rows T s b) := fun b => by
  unfold eR
  split
  ·exact ⟨h.r, by dsimp only; omega, h.a, h.h⟩
  ·refine KOK.look ?_ rows hT _
   exact ⟨h.r, by dsimp only; omega, h.a, h.h⟩
 unfold Go.Eng.doK
 split
 ·unfold mG
  refine KOK.look ?_ rows hT _
  refine ⟨fun x hx => ?_, ?_, h.a, h.h⟩
  ·rcases List.mem_append.1 hx with hx | hx
   ·exact h.r x hx
   ·rw [List.mem_singleton.1 hx]; exact hr
  ·dsimp only; rw [List.length_append, List.length_singleton]; omega
 ·split
  ·unfold iC
   split
   ·exact ⟨(fun x hx => by cases hx), Nat.zero_le _, h.h, h.h⟩
   ·refine KOK.look ?_ rows hT _
    refine ⟨h.r.take _, ?_, h.h, h.h⟩
    dsimp only; rw [List.length_take]; omega
  ·split
   ·exact ag true
   ·exact ag false
section
variable {rows : List Row} {v : PV}
theorem zia (b : Bool) (i j : Int) : PCall Tryz.prog 18 [.bool b, .int .i64 i, .int .i64 j] fun x => x = dC true true ⟨b, [], i, j, false, i, j⟩ := by
 refine zr4 _ _ _ ?_; unfold zhv; rfl
theorem zsk (b : Bool) (i j : Int) : PCall Tryz.prog 21 [.bool b, .int .i64 i, .int .i64 j] fun x => x = dC true true ⟨b, [], i, j, false, i, j⟩ := by
 refine zsa _ _ _ ?_; unfold zh1; rfl
theorem zib (n f : Bool) (s : SeekS) : PCall Tryz.prog 87 [dC n f s] fun x => x = .int .i64 (dD s.back) := by
 refine zr5 _ _ _ _ _ _ _ _ _ ?_; unfold zhw
 cases h : s.back
 ·exact aN (by simp) rfl
 ·exact bA rfl rfl
theorem zic (b : Bool) : PCall Tryz.prog 68 [.bool b] fun x => x = .int .i64 (dD b) := by
 refine zsb _ ?_; unfold zh2
 cases b
 ·exact aN (by simp) rfl
 ·exact bA rfl rfl
theorem zZ (hp : bX rows) (hk : cK rows) (hv : fM rows v) (n f n2 f2 : Bool) (ls : List (Bool × Bool × List Int)) (hls : e8 ls) {m : Nat} (hm : m < 1000000) (s : SeekS) (hs : KOK m s) (i : Int) :
 PCall Tryz.prog 64 [dC n f s, v, .sl n2 f2 (ls.map c4), .int .i64 i] fun x => x = dC n f (jW rows (bS ls) s i) := by
 have hv' := hv
 obtain ⟨tc, tg, tj, tf, tp, made, sec, rfl, ht, hm'⟩ := hv
 refine zr6 _ _ _ _ _ _ _ _ _ _ _ _ _ _ _ _ _ _ _ _ ?_; unfold zhx
 refine (zib n f s).mono ?_
 rintro _ rfl
 refine ⟨_, rfl, ?_⟩
 refine (zr1 hp hk hv' n2 f2 n f ls hls s.pat hs.r (by have := hs.l; omega) i (dD s.back)).mono ?_
 rintro _ rfl
 rcases zY rows (bS ls) s i with ⟨e1, e⟩ | ⟨a, b, c, e1, h1, _, e⟩
 ·rw [e1, e]; exact ⟨_, rfl, rfl, _, rfl, _, rfl, _, rfl, _, rfl, _, rfl, _, rfl, aN (by simp) rfl⟩
 ·rw [e1, e]; exact ⟨_, rfl, rfl, _, rfl, _, rfl, _, rfl, _, rfl, _, rfl, _, rfl, bA rfl rfl⟩
theorem z7 (hp : bX rows) (hk : cK rows) (hl : rows.length < 1000000) (n f n2 f2 n3 f3 : Bool) (ls : List (Bool × Bool × List Int)) (hls : e8 ls) {m : Nat} (hm : m < 1000000) (s : SeekS) (hs : KOK m s) (i : Int) :
 PCall Tryz.prog 67 [.sl n2 f2 (bD rows), dC n f s, .sl n3 f3 (ls.map c4), .int .i64 i] fun x => x = dC n f (jW rows (bS ls) s i) := by
 refine zsc _ _ _ _ _ _ _ _ _ _ _ _ _ _ _ _ ?_; unfold zh3
 refine (zic s.back).mono ?_
 rintro _ rfl
 refine ⟨_, rfl, ?_⟩
 refine (zr2 hp hk n2 f2 n3 f3 n f hl ls hls s.pat hs.r (by have := hs.l; omega) i (dD s.back)).mono ?_
 rintro _ rfl
 rcases zY rows (bS ls) s i with ⟨e1, e⟩ | ⟨a, b, c, e1, h1, _, e⟩
 ·rw [e1, e]; exact ⟨_, rfl, rfl, _, rfl, _, rfl, _, rfl, _, rfl, _, rfl, _, rfl, aN (by simp) rfl⟩
 ·rw [e1, e]; exact ⟨_, rfl, rfl, _, rfl, _, rfl, _, rfl, _, rfl, _, rfl, _, rfl, bA rfl rfl⟩
theorem zid (hp : bX rows) (hk : cK rows) (hv : fM rows v) (n f n2 f2 : Bool) (ls : List (Bool × Bool × List Int)) (hls : e8 ls) {m : Nat} (hm : m < 1000) (s : SeekS) (hs : KOK m s) (hn : n = true -> s.pat = []) (r : Int) (hr : -2147483648 <= r /\ r <= 2147483647) :
 PCall Tryz.prog 19 [dC n f s, v, .sl n2 f2 (ls.map c4), .int .i32 r] fun x => ∃ n f, x = dC n f (mG rows (bS ls) s r) /\ (n = true -> (mG rows (bS ls) s r).pat = []) := by
 have hv' := hv
 obtain ⟨tc, tg, tj, tf, tp, made, sec, rfl, ht, hm'⟩ := hv
 have hl := hs.l
 refine zr7 _ _ _ _ _ _ _ _ _ _ _ _ _ _ _ _ _ _ _ _ ?_; unfold zhy
 refine (y8 n f (aA s.pat) (fun h => by rw [hn h]; rfl) ⟨rfl, .inl rfl, fun e he => (by cases he), cV _, by simp only [List.length_nil, a8]; omega⟩).mono ?_
 rintro _ _ ⟨rfl, rfl⟩
 refine ⟨true, ⟨rfl, rfl⟩, trivial, ⟨cV [r], by rw [a8]; omega⟩, ?_⟩
 have e : aA s.pat ++ [[PV.int .i32 r]] = aA (s.pat ++ [r]) := by rw [hE]; rfl
 rw [e]
 have hs' : KOK (m + 1) ⟨s.back, s.pat ++ [r], s.line, s.place, s.failed, s.ha, s.hp⟩ := ⟨fun x hx => (List.mem_append.1 hx).elim (hs.r x) (fun h => by rw [List.mem_singleton.1 h]; exact hr), by dsimp only; rw [List.length_append, List.length_singleton]; omega, hs.a, hs.h⟩
 refine (zZ hp hk hv' (n && false) false n2 f2 ls hls (by omega) _ hs' s.line).mono ?_
 rintro _ rfl
 exact ⟨_, rfl, rfl, _, rfl, _, _, _, rfl, _, rfl, _, rfl, _, rfl, _, rfl, _, rfl,  _, _, rfl, fun h => by simp at h⟩
theorem tZ (hp : bX rows) (hk : cK rows) (hrl : rows.length < 1000000) (n f n2 f2 n3 f3 : Bool) (ls : List (Bool × Bool × List Int)) (hls : e8 ls) {m : Nat} (hm : m < 1000) (s : SeekS) (hs : KOK m s) (r : Int) (hr : -2147483648 <= r /\ r <= 2147483647) :
 PCall Tryz.prog 23 [.sl n2 f2 (bD rows), dC n f s, .sl n3 f3 (ls.map c4), .int .i32 r] fun x => ∃ n f, x = dC n f (mG rows (bS ls) s r) := by
 have hl := hs.l
 refine zsd _ _ _ _ _ _ _ _ _ _ _ _ _ _ _ _ ?_; unfold zh4
 refine ⟨⟨rfl, .inl rfl, fun e he => (by cases he), cV _, by simp only [List.length_nil, a8]; omega⟩, ⟨cV [r], by rw [List.nil_append, a8]; omega⟩, ?_⟩
 have e : [] ++ aA s.pat ++ [[PV.int .i32 r]] = aA (s.pat ++ [r]) := by rw [List.nil_append, hE]; rfl
 rw [e]
 have hs' : KOK (m + 1) ⟨s.back, s.pat ++ [r], s.line, s.place, s.failed, s.ha, s.hp⟩ := ⟨fun x hx => (List.mem_append.1 hx).elim (hs.r x) (fun h => by rw [List.mem_singleton.1 h]; exact hr), by dsimp only; rw [List.length_append, List.length_singleton]; omega, hs.a, hs.h⟩
 refine (z7 hp hk hrl _ false n2 f2 n3 f3 ls hls (by omega) _ hs' s.line).mono ?_
 rintro _ rfl
 exact ⟨_, rfl, rfl, _, rfl, _, _, _, rfl, _, rfl, _, rfl, _, rfl, _, rfl, _, rfl,  _, _, rfl⟩
theorem zsl (l : List Int) (hl : l.length < 100000) : (if i64.wrap ((l.length : Int) - 1) < 0 then (0 : Int) else i64.wrap ((l.length : Int) - 1)) = ((l.length - 1 : Nat) : Int) := by
 rw [aD (by omega) (by omega)]
 split <;> omega
theorem zie (L : List Int) (k : Nat) : List.drop 0 (List.take ((k : Nat) : Int).toNat (aA L)) = aA (L.take k) := by simp [aA]
theorem zif {len : Nat} {j : Int} (h0 : 0 <= j) (h2 : j <= len) : dI len none (some j) none := ⟨Int.le_refl _, h0, h2, trivial⟩
theorem zsm (hp : bX rows) (hk : cK rows) (hv : fM rows v) (n f n2 f2 : Bool) (ls : List (Bool × Bool × List Int)) (hls : e8 ls) {m : Nat} (hm : m < 1000) (s : SeekS) (hs : KOK m s) (hn : n = true -> s.pat = []) :
 PCall Tryz.prog 66 [dC n f s, v, .sl n2 f2 (ls.map c4)] fun x => ∃ n f, x = dC n f (iC rows (bS ls) s) /\ (n = true -> (iC rows (bS ls) s).pat = []) := by
 have hv' := hv
 obtain ⟨tc, tg, tj, tf, tp, made, sec, rfl, ht, hm'⟩ := hv
 have hl := hs.l
 have hn' : n = true -> s.pat.take (s.pat.length - 1) = [] := fun h => by rw [hn h]; rfl
 refine zr8 _ _ _ _ _ _ _ _ _ _ _ _ _ _ _ _ _ _ _ ?_; unfold zhz
 rw [a8, zsl s.pat (by omega), zie]
 have hlt : (s.pat.take (s.pat.length - 1)).length <= s.pat.length := by rw [List.length_take]; omega
 refine ⟨⟨zif (by omega) (by omega), cV _⟩, ?_⟩
 refine (y8 n _ (aA (s.pat.take (s.pat.length - 1))) (fun h => by rw [hn' h]; rfl) ⟨rfl, .inl rfl, fun e he => (by cases he), cV _, by simp only [List.length_nil, a8]; omega⟩).mono ?_
 rintro _ _ ⟨rfl, rfl⟩
 refine ⟨true, ⟨rfl, rfl⟩, trivial, aF (fun hc => ?_) (fun hc => ?_)⟩
 ·simp only [beq_iff_eq, a8] at hc
  have he : s.pat.take (s.pat.length - 1) = [] := List.eq_nil_of_length_eq_zero (by omega)
  unfold iC; rw [if_pos he, he]
  exact ⟨_, _, rfl, fun _ => rfl⟩
 ·simp only [beq_iff_eq, a8] at hc
  have he : s.pat.take (s.pat.length - 1) ≠ [] := fun e => by rw [e] at hc; exact hc rfl
  unfold iC; rw [if_neg he]
  have hs' : KOK m ⟨s.back, s.pat.take (s.pat.length - 1), s.ha, s.hp, false, s.ha, s.hp⟩ := ⟨hs.r.take _, by dsimp only; omega, hs.h, hs.h⟩
  refine (zZ hp hk hv' n false n2 f2 ls hls (by omega) _ hs' s.ha).mono ?_
  rintro _ rfl
  refine ⟨_, rfl, rfl, _, rfl, _, _, _, rfl, _, rfl, _, rfl, _, rfl, _, rfl, _, rfl,  n, false, rfl, fun h => absurd (hn' h) he⟩
theorem zsn (hp : bX rows) (hk : cK rows) (hrl : rows.length < 1000000) (n f n2 f2 n3 f3 : Bool) (ls : List (Bool × Bool × List Int)) (hls : e8 ls) {m : Nat} (hm : m < 1000) (s : SeekS) (hs : KOK m s) :
 PCall Tryz.prog 24 [.sl n2 f2 (bD rows), dC n f s, .sl n3 f3 (ls.map c4)] fun x => ∃ n f, x = dC n f (iC rows (bS ls) s) := by
 have hl := hs.l
 refine zse _ _ _ _ _ _ _ _ _ _ _ _ _ _ _ ?_; unfold zh5
 rw [a8]
 have hlt : (s.pat.take (s.pat.length - 1)).length <= s.pat.length := by rw [List.length_take]; omega
 refine aF (fun h0 => ?_) (fun h0 => ?_)
 ·simp only [decide_eq_true_eq, gt_iff_lt] at h0
  have hw : i64.wrap ((s.pat.length : Int) - 1) = ((s.pat.length - 1 : Nat) : Int) := by rw [aD (by omega) (by omega)]; omega
  rw [hw, zie]
  refine ⟨⟨zif (by omega) (by omega), cV _⟩, aF (fun hc => ?_) (fun hc => ?_)⟩
  ·simp only [beq_iff_eq, a8] at hc
   have he : s.pat.take (s.pat.length - 1) = [] := List.eq_nil_of_length_eq_zero (by omega)
   unfold iC; rw [if_pos he, he]
   exact ⟨_, _, rfl⟩
  ·simp only [beq_iff_eq, a8] at hc
   have he : s.pat.take (s.pat.length - 1) ≠ [] := fun e => by rw [e] at hc; exact hc rfl
   unfold iC; rw [if_neg he]
   have hs' : KOK m ⟨s.back, s.pat.take (s.pat.length - 1), s.ha, s.hp, false, s.ha, s.hp⟩ := ⟨hs.r.take _, by dsimp only; omega, hs.h, hs.h⟩
   refine (z7 hp hk hrl n _ n2 f2 n3 f3 ls hls (by omega) _ hs' s.ha).mono ?_
   rintro _ rfl
   exact ⟨_, rfl, rfl, _, rfl, _, _, _, rfl, _, rfl, _, rfl, _, rfl, _, rfl, _, rfl,  _, _, rfl⟩
 ·simp only [decide_eq_true_eq, gt_iff_lt] at h0
  have he0 : s.pat = [] := List.eq_nil_of_length_eq_zero (by omega)
  refine bA (by simp only [beq_iff_eq]; omega) ?_
  unfold iC; rw [if_pos (by rw [he0]; rfl), he0]
  exact ⟨_, _, rfl⟩
theorem z8 (hp : bX rows) (hk : cK rows) (hv : fM rows v) (n f n2 f2 : Bool) (ls : List (Bool × Bool × List Int)) (hls : e8 ls) {m : Nat} (hm : m < 1000) (s : SeekS) (hs : KOK m s) (hn : n = true -> s.pat = []) (b : Bool) :
 PCall Tryz.prog 48 [dC n f s, v, .sl n2 f2 (ls.map c4), .bool b] fun x => ∃ n f, x = dC n f (eR rows (bS ls) s b) /\ (n = true -> (eR rows (bS ls) s b).pat = []) := by
 have hv' := hv
 obtain ⟨tc, tg, tj, tf, tp, made, sec, rfl, ht, hm'⟩ := hv
 refine zr9 _ _ _ _ _ _ _ _ _ _ _ _ _ _ _ _ _ _ _ _ ?_; unfold zh0
 refine aF (fun hc => ?_) (fun hc => ?_)
 ·simp only [beq_iff_eq, a8] at hc
  have he : s.pat = [] := List.eq_nil_of_length_eq_zero (by omega)
  unfold eR; rw [if_pos he]
  exact ⟨_, _, rfl, fun _ => he⟩
 ·simp only [beq_iff_eq, a8] at hc
  have he : s.pat ≠ [] := fun e => by rw [e] at hc; exact hc rfl
  unfold eR; rw [if_neg he]
  refine (zib n f ⟨b, s.pat, s.line, s.place, s.failed, s.ha, s.hp⟩).mono ?_
  rintro _ rfl
  have hs' : KOK m ⟨b, s.pat, s.line, s.place, s.failed, s.ha, s.hp⟩ := ⟨hs.r, hs.l, hs.a, hs.h⟩
  have ha := hs.a
  have hw : i64.wrap (s.line + dD b) = s.line + dD b := by
   have : dD b = 1 ∨ dD b = -1 := by unfold dD; split <;> omega
   exact aD (by omega) (by omega)
  refine ⟨_, rfl, ?_⟩
  rw [hw]
  refine (zZ hp hk hv' n f n2 f2 ls hls (by omega) _ hs' (s.line + dD b)).mono ?_
  rintro _ rfl
  exact ⟨_, rfl, rfl, _, rfl, _, _, _, rfl, _, rfl, _, rfl, _, rfl, _, rfl, _, rfl,  n, f, rfl, fun h => absurd (hn h) he⟩
theorem zig (hp : bX rows) (hk : cK rows) (hrl : rows.length < 1000000) (n f n2 f2 n3 f3 : Bool) (ls : List (Bool × Bool × List Int)) (hls : e8 ls) {m : Nat} (hm : m < 1000) (s : SeekS) (hs : KOK m s) (b : Bool) :
 PCall Tryz.prog 25 [.sl n2 f2 (bD rows), dC n f s, .sl n3 f3 (ls.map c4), .bool b] fun x => ∃ n f, x = dC n f (eR rows (bS ls) s b) := by
 refine zsf _ _ _ _ _ _ _ _ _ _ _ _ _ _ _ _ ?_; unfold zh6
 refine aF (fun hc => ?_) (fun hc => ?_)
 ·simp only [beq_iff_eq, a8] at hc
  have he : s.pat = [] := List.eq_nil_of_length_eq_zero (by omega)
  unfold eR; rw [if_pos he]
  exact ⟨_, _, rfl⟩
 ·simp only [beq_iff_eq, a8] at hc
  have he : s.pat ≠ [] := fun e => by rw [e] at hc; exact hc rfl
  unfold eR; rw [if_neg he]
  refine (zic b).mono ?_
  rintro _ rfl
  have hs' : KOK m ⟨b, s.pat, s.line, s.place, s.failed, s.ha, s.hp⟩ := ⟨hs.r, hs.l, hs.a, hs.h⟩
  have ha := hs.a
  have hw : i64.wrap (s.line + dD b) = s.line + dD b := by
   have : dD b = 1 ∨ dD b = -1 := by unfold dD; split <;> omega
   exact aD (by omega) (by omega)
  refine ⟨_, rfl, ?_⟩
  rw [hw]
  refine (z7 hp hk hrl n f n2 f2 n3 f3 ls hls (by omega) _ hs' (s.line + dD b)).mono ?_
  rintro _ rfl
  exact ⟨_, rfl, rfl, _, rfl, _, _, _, rfl, _, rfl, _, rfl, _, rfl, _, rfl, _, rfl,  _, _, rfl⟩
theorem kW (rows : List Row) (T : List (List Int)) (s : SeekS) {k : Int} (r : Int) (h : k = 0 ∨ k = 1 ∨ k = 2 ∨ k = 3) : doK rows T s k r = mG rows T s r := by unfold Go.Eng.doK; rw [if_pos h]
theorem zih (rows : List Row) (T : List (List Int)) (s : SeekS) {k : Int} (r : Int) (h : k = 4) : doK rows T s k r = iC rows T s := by subst h; rfl
theorem zii (rows : List Row) (T : List (List Int)) (s : SeekS) {k : Int} (r : Int) (h : k = 5) : doK rows T s k r = eR rows T s true := by subst h; rfl
theorem zij (rows : List Row) (T : List (List Int)) (s : SeekS) {k : Int} (r : Int) (h : ¬(k = 0 ∨ k = 1 ∨ k = 2 ∨ k = 3)) (h4 : k ≠ 4) (h5 : k ≠ 5) : doK rows T s k r = eR rows T s false := by unfold Go.Eng.doK; rw [if_neg h, if_neg h4, if_neg h5]
theorem zso (hp : bX rows) (hk : cK rows) (hv : fM rows v) (n f n2 f2 : Bool) (ls : List (Bool × Bool × List Int)) (hls : e8 ls) {m : Nat} (hm : m < 1000) (s : SeekS) (hs : KOK m s) (hn : n = true -> s.pat = []) (k r : Int) (hr : -2147483648 <= r /\ r <= 2147483647) :
 PCall Tryz.prog 22 [v, .sl n2 f2 (ls.map c4), dC n f s, .agg [.int .i64 k, .int .i32 r]] fun x => ∃ n f, x = dC n f (doK rows (bS ls) s k r) /\ (n = true -> (doK rows (bS ls) s k r).pat = []) := by
 have hv' := hv
 obtain ⟨tc, tg, tj, tf, tp, made, sec, rfl, ht, hm'⟩ := hv
 have ty := zid hp hk hv' n f n2 f2 ls hls hm s hs hn r hr
 have ru := zsm hp hk hv' n f n2 f2 ls hls hm s hs hn
 have ag := z8 hp hk hv' n f n2 f2 ls hls hm s hs hn
 refine zsi _ _ _ _ _ _ _ _ _ _ _ _ _ _ _ _ _ _ _ _ _ ?_; unfold zh8
 refine aF (fun h0 => bA h0 ?_) (fun h0 => aF (fun h1 => bA h1 ?_) (fun h1 => aF (fun h2 => bA h2 ?_) (fun h2 => aF (fun h3 => ?_) (fun h3 => aF (fun h4 => ?_) (fun h4 => aF (fun h5 => ?_) (fun h5 => ?_))))))
 ·rw [kW rows _ s r (.inl (by simpa using h0))]
  refine ty.mono ?_
  rintro _ ⟨n, f, rfl, h⟩
  exact ⟨_, rfl, rfl, _, rfl, _, _, _, rfl, _, rfl, _, rfl, _, rfl, _, rfl, _, rfl,  n, f, rfl, h⟩
 ·rw [kW rows _ s r (.inr (.inl (by simpa using h1)))]
  refine ty.mono ?_
  rintro _ ⟨n, f, rfl, h⟩
  exact ⟨_, rfl, rfl, _, rfl, _, _, _, rfl, _, rfl, _, rfl, _, rfl, _, rfl, _, rfl,  n, f, rfl, h⟩
 ·rw [kW rows _ s r (.inr (.inr (.inl (by simpa using h2))))]
  refine ty.mono ?_
  rintro _ ⟨n, f, rfl, h⟩
  exact ⟨_, rfl, rfl, _, rfl, _, _, _, rfl, _, rfl, _, rfl, _, rfl, _, rfl, _, rfl,  n, f, rfl, h⟩
 ·rw [kW rows _ s r (.inr (.inr (.inr (by simpa using h3))))]
  refine ty.mono ?_
  rintro _ ⟨n, f, rfl, h⟩
  exact ⟨_, rfl, rfl, _, rfl, _, _, _, rfl, _, rfl, _, rfl, _, rfl, _, rfl, _, rfl,  n, f, rfl, h⟩
 ·rw [zih rows _ s r (by simpa using h4)]
  refine ru.mono ?_
  rintro _ ⟨n, f, rfl, h⟩
  exact ⟨_, rfl, rfl, _, rfl, _, _, _, rfl, _, rfl, _, rfl, _, rfl, _, rfl, _, rfl,  n, f, rfl, h⟩
 ·rw [zii rows _ s r (by simpa using h5)]
  refine (ag true).mono ?_
  rintro _ ⟨n, f, rfl, h⟩
  exact ⟨_, rfl, rfl, _, rfl, _, _, _, rfl, _, rfl, _, rfl, _, rfl, _, rfl, _, rfl,  n, f, rfl, h⟩
 ·simp only [beq_iff_eq] at h0 h1 h2 h3 h4 h5
  rw [zij rows _ s r (by omega) h4 h5]
  refine (ag false).mono ?_
  rintro _ ⟨n, f, rfl, h⟩
  exact ⟨_, rfl, rfl, _, rfl, _, _, _, rfl, _, rfl, _, rfl, _, rfl, _, rfl, _, rfl,  n, f, rfl, h⟩
theorem zsp (n f : Bool) (ls : List (Bool × Bool × List Int)) (hr : ∀ q ∈ ls, R32 q.2.2) : PCall Tryz.prog 13 [.sl n f (ls.map c4)] fun x => ∃ (n f : Bool) (ls' : List (Bool × Bool × List Int)), x = .sl n f (ls'.map c4) /\ e8 ls' := by
 refine zsh _ _ _ (fun x _ s => 0 <= x /\ x <= 6 /\ ∃ out : List (Bool × Bool × List Int), s = out.map c4 /\ out.length = x.toNat /\ (∀ q ∈ out, R32 q.2.2) /\ ∀ q ∈ out, q.2.2.length < 100000) (fun x _ _ => 6 - x.toNat) ?_
 unfold zh7
 refine ⟨⟨rfl, Int.le_refl _, by omega, [], rfl, rfl, (fun q hq => by cases hq), (fun q hq => by cases hq)⟩, ?_⟩
 rintro x n0 _ ⟨x0, x6, out, rfl, hl, h1, h2⟩
 refine aF (fun hc => ?_) (fun hc => ?_)
 ·simp only [Bool.and_eq_true, decide_eq_true_eq, List.length_map] at hc
  have hi : x.toNat < ls.length := by omega
  obtain ⟨g1, g2⟩ := zV x0 hi
  refine ⟨g1, _, _, _, by rw [g2]; rfl, ?_⟩
  refine (zqx _ _ ls[x.toNat].2.2 8 (by omega)).mono ?_
  rintro _ ⟨n1, f1, rfl⟩
  have hw : i64.wrap (x + 1) = x + 1 := aD (by omega) (by omega)
  rw [hw]
  refine ⟨_, _, _, rfl, ⟨pR (enc := c4) (fun _ => rfl) [(n1, f1, ls[x.toNat].2.2.take 8)], by rw [List.length_map]; omega⟩, rfl, ⟨by omega, by omega, out ++ [(n1, f1, ls[x.toNat].2.2.take 8)], by rw [List.map_append]; rfl, by rw [List.length_append, List.length_singleton]; omega, fun q hq => ?_, fun q hq => ?_⟩, by dsimp only; omega⟩
  ·rcases List.mem_append.1 hq with hq | hq
   ·exact h1 q hq
   ·rw [List.mem_singleton.1 hq]; exact (hr _ (List.getElem_mem hi)).take _
  ·rcases List.mem_append.1 hq with hq | hq
   ·exact h2 q hq
   ·rw [List.mem_singleton.1 hq]; have := zrn ls[x.toNat].2.2 8; dsimp only; omega
 ·exact ⟨_, _, out, rfl, by omega, h1, h2⟩
end
end Go.Eng



namespace Go.Eng
open Go Go.Proofs Go.Eng.Rows Go.Eng.Trie Go.Eng.Srt
def mH (d : Int × Int) : List PV := [.int .i64 d.1, .int .i32 d.2]
theorem zsq {l : List (Int × Int)} {i : Int} (h0 : 0 <= i) (h : i.toNat < l.length) : aO (l.map mH) i 2 /\ (l.map mH).getD i.toNat [] = mH l[i.toNat] :=
 ⟨bK (enc := mH) (fun _ => rfl) h0 (by omega), bZ h⟩
def D32 (l : List (Int × Int)) : Prop := ∀ d ∈ l, -2147483648 <= d.2 /\ d.2 <= 2147483647
theorem wD : Tryz.prog.underlying 38 = some (.slice 42) := by kernel_rfl
theorem zsr {v : PV} (h : jK Tryz.prog 8 38 v) : ∃ (nl : Bool) (l : List (Int × Int)), v = .sl nl false (l.map mH) /\ D32 l := by
 obtain ⟨nl, es, e, _, _, h3⟩ := wF wD (sJ (by kernel_rfl) h)
 cases e
 obtain ⟨m, rfl, hm⟩ := sI (f := mH) (Q := fun d => -2147483648 <= d.2 /\ d.2 <= 2147483647) (l := es) fun x hx => by
  obtain ⟨hl, h4⟩ := zln (l := [(3, 0, 1), (21, 1, 1)]) (by kernel_rfl) (h3 x hx)
  have hl : x.length = 2 := hl.trans (by kernel_rfl)
  match x, hl with
  | [a, b], _ =>
    obtain ⟨m0, e0, _⟩ := sH w3 (h4 (3, 0, 1) (by simp))
    obtain ⟨m1, e1, h1⟩ := sH v21 (h4 (21, 1, 1) (by simp))
    simp at e0 e1
    subst e0; subst e1
    exact ⟨(m0, m1), rfl, zct h1⟩
 exact ⟨nl, m, rfl, hm⟩
theorem zss {v : PV} (h : jK Tryz.prog 8 4 v) : ∃ b : Bool, v = .bool b := by
 obtain ⟨b, e⟩ := zlo (by kernel_rfl) (sJ (by kernel_rfl) h)
 cases e
 exact ⟨b, rfl⟩
def T25 : List (List Int) := [[], [99, 97, 98], [97, 98, 99]]
theorem g1' : mG tab T25 ⟨true, [], 0, 0, false, 0, 0⟩ 97 = ⟨true, [97], 1, 1, false, 0, 0⟩ := by kernel_rfl
theorem g2' : eR tab T25 ⟨true, [97], 1, 1, false, 0, 0⟩ true = ⟨true, [97], 2, 0, false, 0, 0⟩ := by kernel_rfl
theorem g3' : eR tab T25 ⟨true, [97], 2, 0, false, 0, 0⟩ true = ⟨true, [97], 2, 0, true, 0, 0⟩ := by kernel_rfl
theorem awake25 : PCall Tryz.prog 15 [] fun v => v = .bool true := by
 refine zsg ?_; unfold zW
 refine p42.mono ?_
 rintro _ ⟨n, f, rfl⟩
 refine ⟨_, _, _, rfl, ?_⟩
 refine (zgw n f).mono fun t ht => ?_
 have hls : e8 [(true, true, []), (false, true, [99, 97, 98]), (false, true, [97, 98, 99])] := ⟨by simp, fun q hq => by
  simp only [List.mem_cons, List.not_mem_nil, or_false] at hq
  rcases hq with rfl | rfl | rfl
  ·exact fun x hx => by cases hx
  ·exact fun x hx => by simp at hx; omega
  ·exact fun x hx => by simp at hx; omega, fun q hq => by
  simp only [List.mem_cons, List.not_mem_nil, or_false] at hq
  rcases hq with rfl | rfl | rfl <;> simp⟩
 have hT : bS [(true, true, []), (false, true, [99, 97, 98]), (false, true, [97, 98, 99])] = T25 := rfl
 refine (zia true 0 0).mono ?_
 rintro _ rfl
 refine ⟨_, rfl, rfl, _, rfl, _, _, _, rfl, _, rfl, _, rfl, _, rfl, _, rfl, _, rfl, ?_⟩
 refine (zid gM iB ht true true false true _ hls (m := 0) (by omega) ⟨true, [], 0, 0, false, 0, 0⟩ ⟨(fun x hx => by cases hx), Nat.le_refl _, by dsimp only; omega, by dsimp only; omega⟩ (fun _ => rfl) 97 (by omega)).mono ?_
 rintro _ ⟨n1, f1, rfl, hn1⟩
 rw [hT, g1'] at hn1 ⊢
 refine ⟨_, rfl, rfl, _, rfl, _, _, _, rfl, _, rfl, _, rfl, _, rfl, _, rfl, _, rfl, ?_⟩
 have k1 : ∀ {a b : Int} {c : Bool}, (-2199023255552 <= a /\ a <= 2199023255552) -> KOK 1 ⟨true, [97], a, b, c, 0, 0⟩ := fun {a b c} h => ⟨(fun x hx => by simp at hx; omega), Nat.le_refl _, h, by dsimp only; omega⟩
 refine (z8 gM iB ht n1 f1 false true _ hls (m := 1) (by omega) _ (k1 (by omega)) hn1 true).mono ?_
 rintro _ ⟨n2, f2, rfl, hn2⟩
 rw [hT, g2'] at hn2 ⊢
 refine ⟨_, rfl, rfl, _, rfl, _, _, _, rfl, _, rfl, _, rfl, _, rfl, _, rfl, _, rfl, ?_⟩
 refine (z8 gM iB ht n2 f2 false true _ hls (m := 1) (by omega) _ (k1 (by omega)) hn2 true).mono ?_
 rintro _ ⟨n3, f3, rfl, hn3⟩
 rw [hT, g3'] at hn3 ⊢
 exact ⟨_, rfl, rfl, _, rfl, _, _, _, rfl, _, rfl, _, rfl, _, rfl, _, rfl, _, rfl, bA rfl (bA rfl (bA rfl (bA rfl (bA rfl (bA rfl rfl)))))⟩
theorem zik : PCall Tryz.prog 15 [] fun v => ∃ b : Bool, v = .bool b /\ PV.bool b = .bool true := awake25.mono fun v e => ⟨true, e, rfl⟩
theorem zst (n f : Bool) (ls : List (Bool × Bool × List Int)) (hr : ∀ q ∈ ls, R32 q.2.2) (sb : Bool) (i j : Int) (n2 f2 : Bool) (ds : List (Int × Int)) (hd : D32 ds) : PCall Tryz.prog 4 [.sl n f (ls.map c4), .bool sb, .int .i64 i, .int .i64 j, .sl n2 f2 (ds.map mH)] fun v => v = .bool true := by
 refine zsj _ _ _ _ _ _ _ _ _
  (fun _ _ s0 _ _ s11 x12 x15 b0 m0 _ p0 l0 c0 d0 e0 g0 b1 m1 _ p1 l1 c1 d1 e1 g1 => ∃ (ls : List (Bool × Bool × List Int)) (s : SeekS), e8 ls /\ s0 = ls.map c4 /\ s11 = bD tab /\ fM tab x12 /\ 0 <= x15 /\ x15 <= 20 /\ KOK x15.toNat s /\ (m0 = true -> s.pat = []) /\
   (b0 = s.back /\ p0 = aA s.pat /\ l0 = s.line /\ c0 = s.place /\ d0 = s.failed /\ e0 = s.ha /\ g0 = s.hp) /\ (b1 = s.back /\ p1 = aA s.pat /\ l1 = s.line /\ c1 = s.place /\ d1 = s.failed /\ e1 = s.ha /\ g1 = s.hp))
  (fun _ _ _ _ _ _ _ x15 _ _ _ _ _ _ _ _ _ _ _ _ _ _ _ _ _ _ => 20 - x15.toNat) ?_
 unfold zh9
 refine (zsp n f ls hr).mono ?_
 rintro _ ⟨n1, f1, ls', rfl, hls⟩
 refine ⟨_, _, _, rfl, aF (fun _ => zik) (fun hc => ?_)⟩
 simp only [Bool.or_eq_true, decide_eq_true_eq, gt_iff_lt] at hc
 refine p42.mono ?_
 rintro _ ⟨n3, f3, rfl⟩
 refine ⟨_, _, _, rfl, ?_⟩
 refine (zgw n3 f3).mono fun t ht => ?_
 refine (zia sb i j).mono ?_
 rintro _ rfl
 refine ⟨_, rfl, rfl, _, rfl, _, _, _, rfl, _, rfl, _, rfl, _, rfl, _, rfl, _, rfl, ?_⟩
 refine (zsk sb i j).mono ?_
 rintro _ rfl
 refine ⟨_, rfl, rfl, _, rfl, _, _, _, rfl, _, rfl, _, rfl, _, rfl, _, rfl, _, rfl, ⟨rfl, ls', ⟨sb, [], i, j, false, i, j⟩, hls, rfl, rfl, ht, Int.le_refl _, by omega, ⟨(fun x hx => by cases hx), Nat.le_refl _, by dsimp only; omega, by dsimp only; omega⟩, fun _ => rfl, ⟨rfl, rfl, rfl, rfl, rfl, rfl, rfl⟩, ⟨rfl, rfl, rfl, rfl, rfl, rfl, rfl⟩⟩, ?_⟩
 clear ht t hls ls' n1 f1
 rintro q0 y0 _ q1 y1 _ t x _ m0 f0 _ _ _ _ _ _ _ m1 f1 _ _ _ _ _ _ ⟨ls, s, hls, rfl, rfl, ht, x0, x1, hs, hm, ⟨rfl, rfl, rfl, rfl, rfl, rfl, rfl⟩, ⟨rfl, rfl, rfl, rfl, rfl, rfl, rfl⟩⟩
 refine aF (fun hc => ?_) (fun hc => zik)
 simp only [Bool.and_eq_true, decide_eq_true_eq, List.length_map] at hc
 have hi : x.toNat < ds.length := by omega
 obtain ⟨g1, g2⟩ := zsq x0 hi
 have hw : i64.wrap (x + 1) = x + 1 := aD (by omega) (by omega)
 rw [hw]
 have hr1 := hd _ (List.getElem_mem hi)
 generalize hkr : ds[x.toNat] = kr at *
 obtain ⟨k, r⟩ := kr
 have hT : (bS ls).length < 100000 := by rw [nP]; exact hls.n
 refine ⟨g1, k, by rw [g2]; rfl, r, by rw [g2]; rfl, ?_⟩
 refine (zso gM iB ht m0 f0 _ _ ls hls (m := x.toNat) (by omega) s hs hm k r hr1).mono ?_
 rintro _ ⟨n4, f4, rfl, hn4⟩
 refine ⟨_, rfl, rfl, _, rfl, _, _, _, rfl, _, rfl, _, rfl, _, rfl, _, rfl, _, rfl, ?_⟩
 have hs' := hs.doK tab hT (k := k) (r := r) hr1
 rw [show x.toNat + 1 = (x + 1).toNat by omega] at hs'
 have hsp : (aA (doK tab (bS ls) s k r).pat).length < 1000 := by have := hs'.l; rw [a8]; omega
 have hpl : (doK tab (bS ls) s k r).pat.length < 1000000000000 := by have := hs'.l; omega
 refine aF (fun h0 => bA h0 ?_) (fun h0 => aF (fun h1 => bA h1 ?_) (fun h1 => aF (fun h2 => bA h2 ?_) (fun h2 => aF (fun h3 => ?_) (fun h3 => aF (fun h4 => ?_) (fun h4 => aF (fun h5 => ?_) (fun h5 => ?_))))))
 ·have hK := tZ gM iB kV m1 f1 q1 y1 q0 y0 ls hls (m := x.toNat) (by omega) s hs r hr1
  rw [<- kW tab _ s r (.inl (by simpa using h0))] at hK
  refine hK.mono ?_
  rintro _ ⟨n5, f5, rfl⟩
  refine ⟨_, rfl, rfl, _, rfl, _, _, _, rfl, _, rfl, _, rfl, _, rfl, _, rfl, _, rfl, aN (by simp) ?_⟩
  refine (mE _ _ _ _ _ _ hpl).mono ?_
  rintro _ rfl
  exact ⟨_, rfl, aN (by simp) (aN (by simp) (aN (by simp) (aN (by simp) (aN (by simp) (aN (by simp) ⟨rfl, ⟨ls, _, hls, rfl, rfl, ht, by omega, by omega, hs', hn4, ⟨rfl, rfl, rfl, rfl, rfl, rfl, rfl⟩, ⟨rfl, rfl, rfl, rfl, rfl, rfl, rfl⟩⟩, by dsimp only; omega⟩)))))⟩
 ·have hK := tZ gM iB kV m1 f1 q1 y1 q0 y0 ls hls (m := x.toNat) (by omega) s hs r hr1
  rw [<- kW tab _ s r (.inr (.inl (by simpa using h1)))] at hK
  refine hK.mono ?_
  rintro _ ⟨n5, f5, rfl⟩
  refine ⟨_, rfl, rfl, _, rfl, _, _, _, rfl, _, rfl, _, rfl, _, rfl, _, rfl, _, rfl, aN (by simp) ?_⟩
  refine (mE _ _ _ _ _ _ hpl).mono ?_
  rintro _ rfl
  exact ⟨_, rfl, aN (by simp) (aN (by simp) (aN (by simp) (aN (by simp) (aN (by simp) (aN (by simp) ⟨rfl, ⟨ls, _, hls, rfl, rfl, ht, by omega, by omega, hs', hn4, ⟨rfl, rfl, rfl, rfl, rfl, rfl, rfl⟩, ⟨rfl, rfl, rfl, rfl, rfl, rfl, rfl⟩⟩, by dsimp only; omega⟩)))))⟩
 ·have hK := tZ gM iB kV m1 f1 q1 y1 q0 y0 ls hls (m := x.toNat) (by omega) s hs r hr1
  rw [<- kW tab _ s r (.inr (.inr (.inl (by simpa using h2))))] at hK
  refine hK.mono ?_
  rintro _ ⟨n5, f5, rfl⟩
  refine ⟨_, rfl, rfl, _, rfl, _, _, _, rfl, _, rfl, _, rfl, _, rfl, _, rfl, _, rfl, aN (by simp) ?_⟩
  refine (mE _ _ _ _ _ _ hpl).mono ?_
  rintro _ rfl
  exact ⟨_, rfl, aN (by simp) (aN (by simp) (aN (by simp) (aN (by simp) (aN (by simp) (aN (by simp) ⟨rfl, ⟨ls, _, hls, rfl, rfl, ht, by omega, by omega, hs', hn4, ⟨rfl, rfl, rfl, rfl, rfl, rfl, rfl⟩, ⟨rfl, rfl, rfl, rfl, rfl, rfl, rfl⟩⟩, by dsimp only; omega⟩)))))⟩
 ·have hK := tZ gM iB kV m1 f1 q1 y1 q0 y0 ls hls (m := x.toNat) (by omega) s hs r hr1
  rw [<- kW tab _ s r (.inr (.inr (.inr (by simpa using h3))))] at hK
  refine hK.mono ?_
  rintro _ ⟨n5, f5, rfl⟩
  refine ⟨_, rfl, rfl, _, rfl, _, _, _, rfl, _, rfl, _, rfl, _, rfl, _, rfl, _, rfl, aN (by simp) ?_⟩
  refine (mE _ _ _ _ _ _ hpl).mono ?_
  rintro _ rfl
  exact ⟨_, rfl, aN (by simp) (aN (by simp) (aN (by simp) (aN (by simp) (aN (by simp) (aN (by simp) ⟨rfl, ⟨ls, _, hls, rfl, rfl, ht, by omega, by omega, hs', hn4, ⟨rfl, rfl, rfl, rfl, rfl, rfl, rfl⟩, ⟨rfl, rfl, rfl, rfl, rfl, rfl, rfl⟩⟩, by dsimp only; omega⟩)))))⟩
 ·have hK := zsn gM iB kV m1 f1 q1 y1 q0 y0 ls hls (m := x.toNat) (by omega) s hs
  rw [<- zih tab _ s r (by simpa using h4)] at hK
  refine hK.mono ?_
  rintro _ ⟨n5, f5, rfl⟩
  refine ⟨_, rfl, rfl, _, rfl, _, _, _, rfl, _, rfl, _, rfl, _, rfl, _, rfl, _, rfl, aN (by simp) ?_⟩
  refine (mE _ _ _ _ _ _ hpl).mono ?_
  rintro _ rfl
  exact ⟨_, rfl, aN (by simp) (aN (by simp) (aN (by simp) (aN (by simp) (aN (by simp) (aN (by simp) ⟨rfl, ⟨ls, _, hls, rfl, rfl, ht, by omega, by omega, hs', hn4, ⟨rfl, rfl, rfl, rfl, rfl, rfl, rfl⟩, ⟨rfl, rfl, rfl, rfl, rfl, rfl, rfl⟩⟩, by dsimp only; omega⟩)))))⟩
 ·have hK := zig gM iB kV m1 f1 q1 y1 q0 y0 ls hls (m := x.toNat) (by omega) s hs true
  rw [<- zii tab _ s r (by simpa using h5)] at hK
  refine hK.mono ?_
  rintro _ ⟨n5, f5, rfl⟩
  refine ⟨_, rfl, rfl, _, rfl, _, _, _, rfl, _, rfl, _, rfl, _, rfl, _, rfl, _, rfl, aN (by simp) ?_⟩
  refine (mE _ _ _ _ _ _ hpl).mono ?_
  rintro _ rfl
  exact ⟨_, rfl, aN (by simp) (aN (by simp) (aN (by simp) (aN (by simp) (aN (by simp) (aN (by simp) ⟨rfl, ⟨ls, _, hls, rfl, rfl, ht, by omega, by omega, hs', hn4, ⟨rfl, rfl, rfl, rfl, rfl, rfl, rfl⟩, ⟨rfl, rfl, rfl, rfl, rfl, rfl, rfl⟩⟩, by dsimp only; omega⟩)))))⟩
 ·have hK := zig gM iB kV m1 f1 q1 y1 q0 y0 ls hls (m := x.toNat) (by omega) s hs false
  rw [<- zij tab _ s (k := k) r (by simp only [beq_iff_eq] at h0 h1 h2 h3; omega) (by simpa using h4) (by simpa using h5)] at hK
  refine hK.mono ?_
  rintro _ ⟨n5, f5, rfl⟩
  refine ⟨_, rfl, rfl, _, rfl, _, _, _, rfl, _, rfl, _, rfl, _, rfl, _, rfl, _, rfl, aN (by simp) ?_⟩
  refine (mE _ _ _ _ _ _ hpl).mono ?_
  rintro _ rfl
  exact ⟨_, rfl, aN (by simp) (aN (by simp) (aN (by simp) (aN (by simp) (aN (by simp) (aN (by simp) ⟨rfl, ⟨ls, _, hls, rfl, rfl, ht, by omega, by omega, hs', hn4, ⟨rfl, rfl, rfl, rfl, rfl, rfl, rfl⟩, ⟨rfl, rfl, rfl, rfl, rfl, rfl, rfl⟩⟩, by dsimp only; omega⟩)))))⟩
theorem lawSeekPlays {pvs : List PV} (h : pQ Tryz.prog 8 Tryz.f4.params.toList pvs) : PCall Tryz.prog 4 pvs fun v => v = .bool true := by
 obtain ⟨v0, r0, rfl, h0, v1, r1, rfl, h1, v2, r2, rfl, h2, v3, r3, rfl, h3, v4, r4, rfl, h4, rfl⟩ : pQ Tryz.prog 8 [22, 4, 3, 3, 38] pvs := h
 obtain ⟨nl, ls, rfl, hr⟩ := zr3 h0
 obtain ⟨b, rfl⟩ := zss h1
 obtain ⟨i, rfl⟩ := zhg h2
 obtain ⟨j, rfl⟩ := zhg h3
 obtain ⟨nl2, ds, rfl, hd⟩ := zsr h4
 exact zst _ _ ls hr b i j _ _ ds hd
end Go.Eng


