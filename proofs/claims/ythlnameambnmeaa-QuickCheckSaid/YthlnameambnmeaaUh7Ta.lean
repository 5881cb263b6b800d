/- Abstract states run over the code; what each function gives, printed by program and checked by the kernel; and what follows of it. -/
import Derived.Test.YthlnameambnmeaaEngc
import Derived.Shelf.SlSortCmp.NoneTotal
import Derived.Shelf.SlSortCmp.WholeK
set_option linter.unusedVariables false
set_option maxRecDepth 100000
set_option linter.constructorNameAsVariable false
namespace Go.Eng
open Go Go.Proofs
def r_hangul_Syllable (r : Int) (R : PV → Prop) : Prop :=
 R (PV.bool (decide (r ≥ (44032 : Int)) && decide (r < (55204 : Int))))
theorem e_hangul_Syllable (r : Int) (R : PV → Prop) : aFn Try.prog (fun _ => none) Try.f101 [0, 2] (fun _ => none) (Try.f101.body.getD .skip) [.int .i32 r] R = r_hangul_Syllable r R := by kernel_rfl
theorem a_hangul_Syllable (r : Int) {R : PV → Prop} (h : r_hangul_Syllable r R) : PCall Try.prog 101 [.int .i32 r] R :=
  PCall.of Try.func101 (by kernel_rfl) (by kernel_rfl) (Nat.le_of_ble_eq_true (by kernel_rfl)) (Eq.mpr (e_hangul_Syllable r R) h)

def r_hangul_Split (r : Int) (R : PV → Prop) : Prop :=
 PCall Try.prog 101 [PV.int .i32 r] fun (v : PV) ↦ ∃ (b : Bool), v = PV.bool b ∧ if (!b) = true then R (PV.sl true true []) else (3 = 3 ∧ 3 ≤ 3) ∧ ((0 : Int) ≤ (2 : Int) ∧ (2 : Int) < (↑3 : Int)) ∧ ∃ (n : Int), some (PV.int .i32
 (IntKind.i32.wrap ((4519 : Int) + (IntKind.i32.wrap (r - (44032 : Int))).tmod (28 : Int)))) = some (PV.int .i32 n) ∧ if (n == (4519 : Int)) = true then (slOK 3 none (some (2 : Int)) (some (2 : Int)) ∧ 3 = 3) ∧ R (PV.sl false true [[PV.int
 .i32 (IntKind.i32.wrap ((4352 : Int) + IntKind.i32.wrap ((IntKind.i32.wrap (r - (44032 : Int))).tdiv (588 : Int))))], [PV.int .i32 (IntKind.i32.wrap ((4449 : Int) + (IntKind.i32.wrap ((IntKind.i32.wrap (r - (44032 : Int))).tdiv (28 :
 Int))).tmod (21 : Int)))]]) else (slOK 3 none none none ∧ 3 = 3) ∧ R (PV.sl false true [[PV.int .i32 (IntKind.i32.wrap ((4352 : Int) + IntKind.i32.wrap ((IntKind.i32.wrap (r - (44032 : Int))).tdiv (588 : Int))))], [PV.int .i32
 (IntKind.i32.wrap ((4449 : Int) + (IntKind.i32.wrap ((IntKind.i32.wrap (r - (44032 : Int))).tdiv (28 : Int))).tmod (21 : Int)))], [PV.int .i32 (IntKind.i32.wrap ((4519 : Int) + (IntKind.i32.wrap (r - (44032 : Int))).tmod (28 : Int)))]])
theorem e_hangul_Split (r : Int) (R : PV → Prop) : aFn Try.prog (fun _ => none) Try.f84 [0, 2, 3, 4, 7, 23] (fun _ => none) (Try.f84.body.getD .skip) [.int .i32 r] R = r_hangul_Split r R := by kernel_rfl
theorem a_hangul_Split (r : Int) {R : PV → Prop} (h : r_hangul_Split r R) : PCall Try.prog 84 [.int .i32 r] R :=
  PCall.of Try.func84 (by kernel_rfl) (by kernel_rfl) (Nat.le_of_ble_eq_true (by kernel_rfl)) (Eq.mpr (e_hangul_Split r R) h)

def r_hangul_Second (r : Int) (R : PV → Prop) : Prop :=
 R (PV.bool (decide (r ≥ (4449 : Int)) && decide (r < (4470 : Int)) || decide (r > (4519 : Int)) && decide (r < (4547 : Int))))
theorem e_hangul_Second (r : Int) (R : PV → Prop) : aFn Try.prog (fun _ => none) Try.f52 [0, 2] (fun _ => none) (Try.f52.body.getD .skip) [.int .i32 r] R = r_hangul_Second r R := by kernel_rfl
theorem a_hangul_Second (r : Int) {R : PV → Prop} (h : r_hangul_Second r R) : PCall Try.prog 52 [.int .i32 r] R :=
  PCall.of Try.func52 (by kernel_rfl) (by kernel_rfl) (Nat.le_of_ble_eq_true (by kernel_rfl)) (Eq.mpr (e_hangul_Second r R) h)

def r_typebarref05_Is (r : Int) (R : PV → Prop) : Prop :=
 R (PV.bool (decide (r ≥ (44032 : Int)) && decide (r ≤ (55203 : Int))))
theorem e_typebarref05_Is (r : Int) (R : PV → Prop) : aFn Try.prog (fun _ => none) Try.f58 [0, 2] (fun _ => none) (Try.f58.body.getD .skip) [.int .i32 r] R = r_typebarref05_Is r R := by kernel_rfl
theorem a_typebarref05_Is (r : Int) {R : PV → Prop} (h : r_typebarref05_Is r R) : PCall Try.prog 58 [.int .i32 r] R :=
  PCall.of Try.func58 (by kernel_rfl) (by kernel_rfl) (Nat.le_of_ble_eq_true (by kernel_rfl)) (Eq.mpr (e_typebarref05_Is r R) h)

def r_typebarref05_Split (r : Int) (R : LV → Hp → Prop) : Prop :=
 PCall Try.prog 58 [PV.int .i32 r] fun (v : PV) ↦ ∃ (b : Bool), v = PV.bool b ∧ if (!b) = true then R (LV.pv (PV.sl true true [])) [] else if ((IntKind.i64.wrap (IntKind.i64.wrap r - (44032 : Int))).tmod (28 : Int) != (0 : Int)) = true then
 ApOK true [[PV.int .i32 (IntKind.i32.wrap (IntKind.i64.wrap ((4352 : Int) + IntKind.i64.wrap ((IntKind.i64.wrap (IntKind.i64.wrap r - (44032 : Int))).tdiv (588 : Int)))))], [PV.int .i32 (IntKind.i32.wrap (IntKind.i64.wrap ((4449 : Int) +
 (IntKind.i64.wrap ((IntKind.i64.wrap (IntKind.i64.wrap r - (44032 : Int))).tdiv (28 : Int))).tmod (21 : Int))))]] [[PV.int .i32 (IntKind.i32.wrap (IntKind.i64.wrap ((4519 : Int) + (IntKind.i64.wrap (IntKind.i64.wrap r - (44032 : Int))).tmod
 (28 : Int))))]] 1 4 ∧ R (LV.own 0) [Ob.sl (21, 1) false false [[PV.int .i32 (IntKind.i32.wrap (IntKind.i64.wrap ((4352 : Int) + IntKind.i64.wrap ((IntKind.i64.wrap (IntKind.i64.wrap r - (44032 : Int))).tdiv (588 : Int)))))], [PV.int .i32
 (IntKind.i32.wrap (IntKind.i64.wrap ((4449 : Int) + (IntKind.i64.wrap ((IntKind.i64.wrap (IntKind.i64.wrap r - (44032 : Int))).tdiv (28 : Int))).tmod (21 : Int))))], [PV.int .i32 (IntKind.i32.wrap (IntKind.i64.wrap ((4519 : Int) +
 (IntKind.i64.wrap (IntKind.i64.wrap r - (44032 : Int))).tmod (28 : Int))))]]] else R (LV.pv (PV.sl false true [[PV.int .i32 (IntKind.i32.wrap (IntKind.i64.wrap ((4352 : Int) + IntKind.i64.wrap ((IntKind.i64.wrap (IntKind.i64.wrap r - (44032
 : Int))).tdiv (588 : Int)))))], [PV.int .i32 (IntKind.i32.wrap (IntKind.i64.wrap ((4449 : Int) + (IntKind.i64.wrap ((IntKind.i64.wrap (IntKind.i64.wrap r - (44032 : Int))).tdiv (28 : Int))).tmod (21 : Int))))]])) []
theorem e_typebarref05_Split (r : Int) (R : LV → Hp → Prop) : aFnA Try.prog (fun _ => none) Try.f59 [0, 2, 3, 4, 7, 23] (fun _ => none) (Try.f59.body.getD .skip) [.pv (.int .i32 r)] [] R = r_typebarref05_Split r R := by kernel_rfl
theorem a_typebarref05_Split (r : Int) {R : LV → Hp → Prop} (h : r_typebarref05_Split r R) : ACall Try.prog 59 [.pv (.int .i32 r)] [] R :=
  ACall.ofA Try.func59 (by kernel_rfl) (by kernel_rfl) (Nat.le_of_ble_eq_true (by kernel_rfl)) (Eq.mpr (e_typebarref05_Split r R) h)

def r_typebarref05_Second (r : Int) (R : PV → Prop) : Prop :=
 R (PV.bool (decide (r ≥ (4449 : Int)) && decide (r ≤ (4469 : Int)) || decide (r ≥ (4520 : Int)) && decide (r ≤ (4546 : Int))))
theorem e_typebarref05_Second (r : Int) (R : PV → Prop) : aFn Try.prog (fun _ => none) Try.f55 [0, 2] (fun _ => none) (Try.f55.body.getD .skip) [.int .i32 r] R = r_typebarref05_Second r R := by kernel_rfl
theorem a_typebarref05_Second (r : Int) {R : PV → Prop} (h : r_typebarref05_Second r R) : PCall Try.prog 55 [.int .i32 r] R :=
  PCall.of Try.func55 (by kernel_rfl) (by kernel_rfl) (Nat.le_of_ble_eq_true (by kernel_rfl)) (Eq.mpr (e_typebarref05_Second r R) h)

def r_typebarref02_A (n f : Bool) (es : List (List PV)) (k r : Int) (R : PV → Prop) : Prop :=
 PCall Try.prog 85 [PV.sl n f es, PV.int .i64 k, PV.int .i64 r] fun (v : PV) ↦ ∃ (n1 : Int), v = PV.int .i64 n1 ∧ if decide (n1 < (0 : Int)) = true then R (PV.int .i64 (0 : Int)) else idxOK es n1 5 ∧ ∃ (n2 : Int), (List.drop 3 (es.getD
 n1.toNat [])).head? = some (PV.int .i64 n2) ∧ R (PV.int .i64 n2)
theorem e_typebarref02_A (n f : Bool) (es : List (List PV)) (k r : Int) (R : PV → Prop) : aFn Try.prog (fun _ => none) Try.f89 [0, 1, 2, 6, 7, 13] (fun _ => none) (Try.f89.body.getD .skip) [.sl n f es, .int .i64 k, .int .i64 r] R = r_typebarref02_A n f es k r R := by kernel_rfl
theorem a_typebarref02_A (n f : Bool) (es : List (List PV)) (k r : Int) {R : PV → Prop} (h : r_typebarref02_A n f es k r R) : PCall Try.prog 89 [.sl n f es, .int .i64 k, .int .i64 r] R :=
  PCall.of Try.func89 (by kernel_rfl) (by kernel_rfl) (Nat.le_of_ble_eq_true (by kernel_rfl)) (Eq.mpr (e_typebarref02_A n f es k r R) h)

def r_typebarref04_Of (n f : Bool) (es : List (List PV)) (k r : Int) (R : PV → Prop) : Prop :=
 PCall Try.prog 89 [PV.sl n f es, PV.int .i64 k, PV.int .i64 (IntKind.i64.wrap r)] fun (v : PV) ↦ ∃ (n1 : Int), v = PV.int .i64 n1 ∧ R (PV.int .i64 n1)
theorem e_typebarref04_Of (n f : Bool) (es : List (List PV)) (k r : Int) (R : PV → Prop) : aFn Try.prog (fun _ => none) Try.f66 [0, 1, 2, 6] (fun _ => none) (Try.f66.body.getD .skip) [.sl n f es, .int .i64 k, .int .i32 r] R = r_typebarref04_Of n f es k r R := by kernel_rfl
theorem a_typebarref04_Of (n f : Bool) (es : List (List PV)) (k r : Int) {R : PV → Prop} (h : r_typebarref04_Of n f es k r R) : PCall Try.prog 66 [.sl n f es, .int .i64 k, .int .i32 r] R :=
  PCall.of Try.func66 (by kernel_rfl) (by kernel_rfl) (Nat.le_of_ble_eq_true (by kernel_rfl)) (Eq.mpr (e_typebarref04_Of n f es k r R) h)

def r_typebarref04_Pair (n f : Bool) (es : List (List PV)) (r : Int) (R : PV → Prop) : Prop :=
 PCall Try.prog 85 [PV.sl n f es, PV.int .i64 (2 : Int), PV.int .i64 (IntKind.i64.wrap r)] fun (v : PV) ↦ ∃ (n1 : Int), v = PV.int .i64 n1 ∧ if decide (n1 < (0 : Int)) = true then R (PV.tup [PV.int .i32 (0 : Int), PV.int .i32 (0 : Int),
 PV.bool false]) else idxOK es n1 5 ∧ ∃ (n2 : Int), (List.drop 3 (es.getD n1.toNat [])).head? = some (PV.int .i64 n2) ∧ if (n2 == (0 : Int)) = true then idxOK es n1 5 ∧ ∃ (n3 : Int), (List.drop 4 (es.getD n1.toNat [])).head? = some (PV.int
 .i64 n3) ∧ if (n3 == (0 : Int)) = true then R (PV.tup [PV.int .i32 (0 : Int), PV.int .i32 (0 : Int), PV.bool false]) else idxOK es n1 5 ∧ ∃ (n4 : Int), (List.drop 3 (es.getD n1.toNat [])).head? = some (PV.int .i64 n4) ∧ idxOK es n1 5 ∧ ∃
 (n5 : Int), (List.drop 4 (es.getD n1.toNat [])).head? = some (PV.int .i64 n5) ∧ R (PV.tup [PV.int .i32 (IntKind.i32.wrap n4), PV.int .i32 (IntKind.i32.wrap n5), PV.bool true]) else idxOK es n1 5 ∧ ∃ (n3 : Int), (List.drop 3 (es.getD
 n1.toNat [])).head? = some (PV.int .i64 n3) ∧ idxOK es n1 5 ∧ ∃ (n4 : Int), (List.drop 4 (es.getD n1.toNat [])).head? = some (PV.int .i64 n4) ∧ R (PV.tup [PV.int .i32 (IntKind.i32.wrap n3), PV.int .i32 (IntKind.i32.wrap n4), PV.bool true])
theorem e_typebarref04_Pair (n f : Bool) (es : List (List PV)) (r : Int) (R : PV → Prop) : aFn Try.prog (fun _ => none) Try.f60 [0, 1, 4, 5, 6, 7, 29] (fun _ => none) (Try.f60.body.getD .skip) [.sl n f es, .int .i32 r] R = r_typebarref04_Pair n f es r R := by kernel_rfl
theorem a_typebarref04_Pair (n f : Bool) (es : List (List PV)) (r : Int) {R : PV → Prop} (h : r_typebarref04_Pair n f es r R) : PCall Try.prog 60 [.sl n f es, .int .i32 r] R :=
  PCall.of Try.func60 (by kernel_rfl) (by kernel_rfl) (Nat.le_of_ble_eq_true (by kernel_rfl)) (Eq.mpr (e_typebarref04_Pair n f es r R) h)

def r_typebarref04_Out (n f : Bool) (es : List (List PV)) (r : Int) (R : PV → Prop) : Prop :=
 PCall Try.prog 60 [PV.sl n f es, PV.int .i32 r] fun (v : PV) ↦ ∃ (vs : List PV), v = PV.tup vs ∧ vs.length = 3 ∧ ∃ (x : PV), vs.head? = some x ∧ ∃ (n1 : Int), x = PV.int .i32 n1 ∧ ∃ (x1 : PV), vs.tail.head? = some x1 ∧ ∃ (n2 : Int), x1 =
 PV.int .i32 n2 ∧ ∃ (x2 : PV), vs.tail.tail.head? = some x2 ∧ ∃ (b : Bool), x2 = PV.bool b ∧ if (!b) = true then R (PV.bool false) else if (n2 == (0 : Int)) = true then R (PV.bool true) else PCall Try.prog 66 [PV.sl n f es, PV.int .i64 (3 :
 Int), PV.int .i32 r] fun (v1 : PV) ↦ ∃ (n3 : Int), v1 = PV.int .i64 n3 ∧ if (n3 == (1 : Int)) = true then R (PV.bool true) else PCall Try.prog 66 [PV.sl n f es, PV.int .i64 (1 : Int), PV.int .i32 r] fun (v2 : PV) ↦ ∃ (n4 : Int), v2 = PV.int
 .i64 n4 ∧ if (n4 != (0 : Int)) = true then R (PV.bool true) else PCall Try.prog 66 [PV.sl n f es, PV.int .i64 (1 : Int), PV.int .i32 n1] fun (v3 : PV) ↦ ∃ (n5 : Int), v3 = PV.int .i64 n5 ∧ R (PV.bool (n5 != (0 : Int)))
theorem e_typebarref04_Out (n f : Bool) (es : List (List PV)) (r : Int) (R : PV → Prop) : aFn Try.prog (fun _ => none) Try.f53 [0, 1, 4, 5, 6, 7, 16] (fun _ => none) (Try.f53.body.getD .skip) [.sl n f es, .int .i32 r] R = r_typebarref04_Out n f es r R := by kernel_rfl
theorem a_typebarref04_Out (n f : Bool) (es : List (List PV)) (r : Int) {R : PV → Prop} (h : r_typebarref04_Out n f es r R) : PCall Try.prog 53 [.sl n f es, .int .i32 r] R :=
  PCall.of Try.func53 (by kernel_rfl) (by kernel_rfl) (Nat.le_of_ble_eq_true (by kernel_rfl)) (Eq.mpr (e_typebarref04_Out n f es r R) h)

def r_typebarref04_Second (n f : Bool) (es : List (List PV)) (r : Int) (J : (Int) → Prop) (μ : (Int) → Nat) (R : PV → Prop) : Prop :=
 (Same1 ([(0, LV.pv (PV.sl n f es)), (1, LV.pv (PV.int .i32 r)), (5, LV.pv (PV.int .i64 (0 : Int)))], []) ∧ J (0 : Int)) ∧ ∀ (x5 : Int), J x5 → if decide (x5 < (↑es.length : Int)) = true then idxOK es x5 5 ∧ ∃ (n1 : Int), (List.drop 0
 (es.getD x5.toNat [])).head? = some (PV.int .i64 n1) ∧ if (n1 == (2 : Int)) = true then idxOK es x5 5 ∧ ∃ (n2 : Int), (List.drop 4 (es.getD x5.toNat [])).head? = some (PV.int .i64 n2) ∧ if (n2 == IntKind.i64.wrap r && r != (0 : Int)) = true
 then idxOK es x5 5 ∧ ∃ (n3 : Int), (List.drop 1 (es.getD x5.toNat [])).head? = some (PV.int .i64 n3) ∧ PCall Try.prog 53 [PV.sl n f es, PV.int .i32 (IntKind.i32.wrap n3)] fun (v : PV) ↦ ∃ (b : Bool), v = PV.bool b ∧ if (!b) = true then R
 (PV.bool true) else Same1 ([(0, LV.pv (PV.sl n f es)), (1, LV.pv (PV.int .i32 r)), (5, LV.pv (PV.int .i64 (IntKind.i64.wrap (x5 + (1 : Int)))))], []) ∧ J (IntKind.i64.wrap (x5 + (1 : Int))) ∧ μ (IntKind.i64.wrap (x5 + (1 : Int))) < μ x5
 else Same1 ([(0, LV.pv (PV.sl n f es)), (1, LV.pv (PV.int .i32 r)), (5, LV.pv (PV.int .i64 (IntKind.i64.wrap (x5 + (1 : Int)))))], []) ∧ J (IntKind.i64.wrap (x5 + (1 : Int))) ∧ μ (IntKind.i64.wrap (x5 + (1 : Int))) < μ x5 else Same1 ([(0,
 LV.pv (PV.sl n f es)), (1, LV.pv (PV.int .i32 r)), (5, LV.pv (PV.int .i64 (IntKind.i64.wrap (x5 + (1 : Int)))))], []) ∧ J (IntKind.i64.wrap (x5 + (1 : Int))) ∧ μ (IntKind.i64.wrap (x5 + (1 : Int))) < μ x5 else R (PV.bool false)
theorem e_typebarref04_Second (n f : Bool) (es : List (List PV)) (r : Int) (J : (Int) → Prop) (μ : (Int) → Nat) (R : PV → Prop) : aFn Try.prog (fun _ => none) Try.f54 [0, 1, 4, 5, 9, 42] (fun zz_ => match zz_ with | 2 => some ⟨Int × Unit, fun s => (fun (x5 : Int) => ([(0, LV.pv (PV.sl n f es)), (1, LV.pv (PV.int IntKind.i32 r)), (5, .pv (.int IntKind.i64 x5))], [])) s.1, fun _ s => J s.1, fun s => μ s.1, fun e h => (((gI e 5), ())), [], [0, 1, 5], [], fun p => ∀ (x5 : Int), p (x5, ()), fun p h s => h s.1⟩ | _ => none) (Try.f54.body.getD .skip) [.sl n f es, .int .i32 r] R = r_typebarref04_Second n f es r J μ R := by kernel_rfl
theorem a_typebarref04_Second (n f : Bool) (es : List (List PV)) (r : Int) (J : (Int) → Prop) (μ : (Int) → Nat) {R : PV → Prop} (h : r_typebarref04_Second n f es r J μ R) : PCall Try.prog 54 [.sl n f es, .int .i32 r] R :=
  PCall.of Try.func54 (by kernel_rfl) (by kernel_rfl) (Nat.le_of_ble_eq_true (by kernel_rfl)) (Eq.mpr (e_typebarref04_Second n f es r J μ R) h)

def r_typebarref06_Class (n f : Bool) (es : List (List PV)) (r : Int) (R : PV → Prop) : Prop :=
 PCall Try.prog 66 [PV.sl n f es, PV.int .i64 (1 : Int), PV.int .i32 r] fun (v : PV) ↦ ∃ (n1 : Int), v = PV.int .i64 n1 ∧ R (PV.int .i64 n1)
theorem e_typebarref06_Class (n f : Bool) (es : List (List PV)) (r : Int) (R : PV → Prop) : aFn Try.prog (fun _ => none) Try.f32 [0, 1, 4] (fun _ => none) (Try.f32.body.getD .skip) [.sl n f es, .int .i32 r] R = r_typebarref06_Class n f es r R := by kernel_rfl
theorem a_typebarref06_Class (n f : Bool) (es : List (List PV)) (r : Int) {R : PV → Prop} (h : r_typebarref06_Class n f es r R) : PCall Try.prog 32 [.sl n f es, .int .i32 r] R :=
  PCall.of Try.func32 (by kernel_rfl) (by kernel_rfl) (Nat.le_of_ble_eq_true (by kernel_rfl)) (Eq.mpr (e_typebarref06_Class n f es r R) h)

def r_typebarref06_Full (n f : Bool) (es : List (List PV)) (r d : Int) (R : LV → Hp → Prop) : Prop :=
 PCall Try.prog 58 [PV.int .i32 r] fun (v : PV) ↦ ∃ (b : Bool), v = PV.bool b ∧ if b = true then ACall Try.prog 59 [LV.pv (PV.int .i32 r)] [] fun (r1 : LV) (h' : Hp) ↦ (∃ (t : Bool × List (List PV)), (r1 = LV.own 0 ∧ h' = [Ob.sl (21, 1) true
 t.fst t.snd]) ∧ True ∧ R (LV.own 0) [Ob.sl (21, 1) true t.fst t.snd]) ∨ ∃ (t : List (List PV)), (r1 = LV.pv (PV.sl false true t) ∧ h' = []) ∧ True ∧ R (LV.pv (PV.sl false true t)) [] else PCall Try.prog 60 [PV.sl n f es, PV.int .i32 r] fun
 (v1 : PV) ↦ ∃ (vs : List PV), v1 = PV.tup vs ∧ vs.length = 3 ∧ ∃ (x : PV), vs.head? = some x ∧ ∃ (n1 : Int), x = PV.int .i32 n1 ∧ ∃ (x1 : PV), vs.tail.head? = some x1 ∧ ∃ (n2 : Int), x1 = PV.int .i32 n2 ∧ ∃ (x2 : PV), vs.tail.tail.head? =
 some x2 ∧ ∃ (b1 : Bool), x2 = PV.bool b1 ∧ if (!b1 || d == (0 : Int)) = true then R (LV.pv (PV.sl false true [[PV.int .i32 r]])) [] else ACall Try.prog 26 [LV.pv (PV.sl n f es), LV.pv (PV.int .i32 n1), LV.pv (PV.int .i64 (IntKind.i64.wrap
 (d - (1 : Int))))] [] fun (r1 : LV) (h' : Hp) ↦ (∃ (t : Bool × List (List PV)), (r1 = LV.own 0 ∧ h' = [Ob.sl (21, 1) true t.fst t.snd]) ∧ True ∧ if (n2 != (0 : Int)) = true then ACall Try.prog 26 [LV.pv (PV.sl n f es), LV.pv (PV.int .i32
 n2), LV.pv (PV.int .i64 (IntKind.i64.wrap (d - (1 : Int))))] [] fun (r2 : LV) (h'1 : Hp) ↦ (∃ (t1 : Bool × List (List PV)), (r2 = LV.own 0 ∧ h'1 = [Ob.sl (21, 1) true t1.fst t1.snd]) ∧ True ∧ (szOK t1.snd 1 ∧ (t.snd.length + t1.snd.length)
 * 4 ≤ 140737488355328) ∧ R (LV.own 0) [Ob.sl (21, 1) true (t.fst && t1.snd.isEmpty) (t.snd ++ t1.snd)]) ∨ ∃ (t1 : List (List PV)), (r2 = LV.pv (PV.sl false true t1) ∧ h'1 = []) ∧ True ∧ (szOK t1 1 ∧ (t.snd.length + t1.length) * 4 ≤
 140737488355328) ∧ R (LV.own 0) [Ob.sl (21, 1) true (t.fst && t1.isEmpty) (t.snd ++ t1)] else R (LV.own 0) [Ob.sl (21, 1) true t.fst t.snd]) ∨ ∃ (t : List (List PV)), (r1 = LV.pv (PV.sl false true t) ∧ h' = []) ∧ True ∧ if (n2 != (0 : Int))
 = true then ACall Try.prog 26 [LV.pv (PV.sl n f es), LV.pv (PV.int .i32 n2), LV.pv (PV.int .i64 (IntKind.i64.wrap (d - (1 : Int))))] [] fun (r2 : LV) (h'1 : Hp) ↦ (∃ (t1 : Bool × List (List PV)), (r2 = LV.own 0 ∧ h'1 = [Ob.sl (21, 1) true
 t1.fst t1.snd]) ∧ True ∧ ApOK true t t1.snd 1 4 ∧ R (LV.own 0) [Ob.sl (21, 1) false false (t ++ t1.snd)]) ∨ ∃ (t1 : List (List PV)), (r2 = LV.pv (PV.sl false true t1) ∧ h'1 = []) ∧ True ∧ ApOK true t t1 1 4 ∧ R (LV.own 0) [Ob.sl (21, 1)
 false false (t ++ t1)] else R (LV.pv (PV.sl false true t)) []
theorem e_typebarref06_Full (n f : Bool) (es : List (List PV)) (r d : Int) (R : LV → Hp → Prop) : aFnA Try.prog (fun zz_ => match zz_ with | 26 => some ⟨Bool × List (List PV), fun _ hs t => (.own hs.length, hs ++ [.sl (21, 1) true t.1 t.2]), some ⟨List (List PV), fun _ hs t => (.pv (.sl false true t), hs)⟩⟩ | 59 => some ⟨Bool × List (List PV), fun _ hs t => (.own hs.length, hs ++ [.sl (21, 1) true t.1 t.2]), some ⟨List (List PV), fun _ hs t => (.pv (.sl false true t), hs)⟩⟩ | _ => none) Try.f26 [0, 1, 2, 6, 7, 8, 9, 10, 12, 27, 36] (fun _ => none) (Try.f26.body.getD .skip) [.pv (.sl n f es), .pv (.int .i32 r), .pv (.int .i64 d)] [] R = r_typebarref06_Full n f es r d R := by kernel_rfl
theorem a_typebarref06_Full (n f : Bool) (es : List (List PV)) (r d : Int) {R : LV → Hp → Prop} (h : r_typebarref06_Full n f es r d R) : ACall Try.prog 26 [.pv (.sl n f es), .pv (.int .i32 r), .pv (.int .i64 d)] [] R :=
  ACall.ofA Try.func26 (by kernel_rfl) (by kernel_rfl) (Nat.le_of_ble_eq_true (by kernel_rfl)) (Eq.mpr (e_typebarref06_Full n f es r d R) h)

def r_typebarref08_Of (n f : Bool) (es : List (List PV)) (r : Int) (R : PV → Prop) : Prop :=
 PCall Try.prog 53 [PV.sl n f es, PV.int .i32 r] fun (v : PV) ↦ ∃ (b : Bool), v = PV.bool b ∧ if b = true then R (PV.int .i64 (1 : Int)) else PCall Try.prog 54 [PV.sl n f es, PV.int .i32 r] fun (v1 : PV) ↦ ∃ (b1 : Bool), v1 = PV.bool b1 ∧ if
 b1 = true then R (PV.int .i64 (2 : Int)) else PCall Try.prog 55 [PV.int .i32 r] fun (v2 : PV) ↦ ∃ (b2 : Bool), v2 = PV.bool b2 ∧ if b2 = true then R (PV.int .i64 (2 : Int)) else R (PV.int .i64 (0 : Int))
theorem e_typebarref08_Of (n f : Bool) (es : List (List PV)) (r : Int) (R : PV → Prop) : aFn Try.prog (fun _ => none) Try.f16 [0, 1, 4, 7, 14] (fun _ => none) (Try.f16.body.getD .skip) [.sl n f es, .int .i32 r] R = r_typebarref08_Of n f es r R := by kernel_rfl
theorem a_typebarref08_Of (n f : Bool) (es : List (List PV)) (r : Int) {R : PV → Prop} (h : r_typebarref08_Of n f es r R) : PCall Try.prog 16 [.sl n f es, .int .i32 r] R :=
  PCall.of Try.func16 (by kernel_rfl) (by kernel_rfl) (Nat.le_of_ble_eq_true (by kernel_rfl)) (Eq.mpr (e_typebarref08_Of n f es r R) h)

def r_typebarref08_Stable (n f : Bool) (es : List (List PV)) (r : Int) (R : PV → Prop) : Prop :=
 ACall Try.prog 26 [LV.pv (PV.sl n f es), LV.pv (PV.int .i32 r), LV.pv (PV.int .i64 (8 : Int))] [] fun (r1 : LV) (h' : Hp) ↦ (∃ (t : Bool × List (List PV)), (r1 = LV.own 0 ∧ h' = [Ob.sl (21, 1) true t.fst t.snd]) ∧ True ∧ idxOK t.snd (0 :
 Int) 1 ∧ ∃ (n1 : Int), (List.drop 0 (t.snd.getD 0 [])).head? = some (PV.int .i32 n1) ∧ PCall Try.prog 32 [PV.sl n f es, PV.int .i32 r] fun (v : PV) ↦ ∃ (n2 : Int), v = PV.int .i64 n2 ∧ if (n2 == (0 : Int)) = true then PCall Try.prog 16
 [PV.sl n f es, PV.int .i32 r] fun (v1 : PV) ↦ ∃ (n3 : Int), v1 = PV.int .i64 n3 ∧ if (n3 == (0 : Int)) = true then PCall Try.prog 32 [PV.sl n f es, PV.int .i32 n1] fun (v2 : PV) ↦ ∃ (n4 : Int), v2 = PV.int .i64 n4 ∧ if (n4 == (0 : Int)) =
 true then PCall Try.prog 16 [PV.sl n f es, PV.int .i32 n1] fun (v3 : PV) ↦ ∃ (n5 : Int), v3 = PV.int .i64 n5 ∧ R (PV.bool (n5 == (0 : Int))) else R (PV.bool false) else R (PV.bool false) else R (PV.bool false)) ∨ ∃ (t : List (List PV)), (r1
 = LV.pv (PV.sl false true t) ∧ h' = []) ∧ True ∧ idxOK t (0 : Int) 1 ∧ ∃ (n1 : Int), (t.getD 0 []).head? = some (PV.int .i32 n1) ∧ PCall Try.prog 32 [PV.sl n f es, PV.int .i32 r] fun (v : PV) ↦ ∃ (n2 : Int), v = PV.int .i64 n2 ∧ if (n2 ==
 (0 : Int)) = true then PCall Try.prog 16 [PV.sl n f es, PV.int .i32 r] fun (v1 : PV) ↦ ∃ (n3 : Int), v1 = PV.int .i64 n3 ∧ if (n3 == (0 : Int)) = true then PCall Try.prog 32 [PV.sl n f es, PV.int .i32 n1] fun (v2 : PV) ↦ ∃ (n4 : Int), v2 =
 PV.int .i64 n4 ∧ if (n4 == (0 : Int)) = true then PCall Try.prog 16 [PV.sl n f es, PV.int .i32 n1] fun (v3 : PV) ↦ ∃ (n5 : Int), v3 = PV.int .i64 n5 ∧ R (PV.bool (n5 == (0 : Int))) else R (PV.bool false) else R (PV.bool false) else R
 (PV.bool false)
theorem e_typebarref08_Stable (n f : Bool) (es : List (List PV)) (r : Int) (R : PV → Prop) : aFn Try.prog (fun zz_ => match zz_ with | 26 => some ⟨Bool × List (List PV), fun _ hs t => (.own hs.length, hs ++ [.sl (21, 1) true t.1 t.2]), some ⟨List (List PV), fun _ hs t => (.pv (.sl false true t), hs)⟩⟩ | _ => none) Try.f18 [0, 1, 4, 5] (fun _ => none) (Try.f18.body.getD .skip) [.sl n f es, .int .i32 r] R = r_typebarref08_Stable n f es r R := by kernel_rfl
theorem a_typebarref08_Stable (n f : Bool) (es : List (List PV)) (r : Int) {R : PV → Prop} (h : r_typebarref08_Stable n f es r R) : PCall Try.prog 18 [.sl n f es, .int .i32 r] R :=
  PCall.of Try.func18 (by kernel_rfl) (by kernel_rfl) (Nat.le_of_ble_eq_true (by kernel_rfl)) (Eq.mpr (e_typebarref08_Stable n f es r R) h)

def r_typebarref08_Check (n f : Bool) (es : List (List PV)) (n2 f2 : Bool) (ss : List (List PV)) (J : (Bool) → (Int) → Prop) (μ : (Bool) → (Int) → Nat) (R : PV → Prop) : Prop :=
 (Same1 ([(0, LV.pv (PV.sl n f es)), (1, LV.pv (PV.sl n2 f2 ss)), (5, LV.pv (PV.bool false)), (6, LV.pv (PV.int .i64 (0 : Int)))], []) ∧ J false (0 : Int)) ∧ ∀ (x5 : Bool) (x6 : Int), J x5 x6 → if decide (x6 < (↑ss.length : Int)) = true then
 idxOK ss x6 1 ∧ ∃ (n1 : Int), (ss.getD x6.toNat []).head? = some (PV.int .i32 n1) ∧ PCall Try.prog 16 [PV.sl n f es, PV.int .i32 n1] fun (v : PV) ↦ ∃ (n3 : Int), v = PV.int .i64 n3 ∧ if (n3 == (1 : Int)) = true then R (PV.int .i64 (1 :
 Int)) else if decide (x6 > (0 : Int)) = true then idxOK ss x6 1 ∧ ∃ (n4 : Int), (ss.getD x6.toNat []).head? = some (PV.int .i32 n4) ∧ PCall Try.prog 32 [PV.sl n f es, PV.int .i32 n4] fun (v1 : PV) ↦ ∃ (n5 : Int), v1 = PV.int .i64 n5 ∧ if
 (n5 != (0 : Int)) = true then idxOK ss (IntKind.i64.wrap (x6 - (1 : Int))) 1 ∧ ∃ (n6 : Int), (ss.getD (IntKind.i64.wrap (x6 - (1 : Int))).toNat []).head? = some (PV.int .i32 n6) ∧ idxOK ss x6 1 ∧ ∃ (n7 : Int), (ss.getD x6.toNat []).head? =
 some (PV.int .i32 n7) ∧ PCall Try.prog 32 [PV.sl n f es, PV.int .i32 n6] fun (v2 : PV) ↦ ∃ (n8 : Int), v2 = PV.int .i64 n8 ∧ PCall Try.prog 32 [PV.sl n f es, PV.int .i32 n7] fun (v3 : PV) ↦ ∃ (n9 : Int), v3 = PV.int .i64 n9 ∧ if decide (n8
 > n9) = true then R (PV.int .i64 (1 : Int)) else if (n3 == (2 : Int)) = true then Same1 ([(0, LV.pv (PV.sl n f es)), (1, LV.pv (PV.sl n2 f2 ss)), (5, LV.pv (PV.bool true)), (6, LV.pv (PV.int .i64 (IntKind.i64.wrap (x6 + (1 : Int)))))], [])
 ∧ J true (IntKind.i64.wrap (x6 + (1 : Int))) ∧ μ true (IntKind.i64.wrap (x6 + (1 : Int))) < μ x5 x6 else Same1 ([(0, LV.pv (PV.sl n f es)), (1, LV.pv (PV.sl n2 f2 ss)), (5, LV.pv (PV.bool x5)), (6, LV.pv (PV.int .i64 (IntKind.i64.wrap (x6 +
 (1 : Int)))))], []) ∧ J x5 (IntKind.i64.wrap (x6 + (1 : Int))) ∧ μ x5 (IntKind.i64.wrap (x6 + (1 : Int))) < μ x5 x6 else if (n3 == (2 : Int)) = true then Same1 ([(0, LV.pv (PV.sl n f es)), (1, LV.pv (PV.sl n2 f2 ss)), (5, LV.pv (PV.bool
 true)), (6, LV.pv (PV.int .i64 (IntKind.i64.wrap (x6 + (1 : Int)))))], []) ∧ J true (IntKind.i64.wrap (x6 + (1 : Int))) ∧ μ true (IntKind.i64.wrap (x6 + (1 : Int))) < μ x5 x6 else Same1 ([(0, LV.pv (PV.sl n f es)), (1, LV.pv (PV.sl n2 f2
 ss)), (5, LV.pv (PV.bool x5)), (6, LV.pv (PV.int .i64 (IntKind.i64.wrap (x6 + (1 : Int)))))], []) ∧ J x5 (IntKind.i64.wrap (x6 + (1 : Int))) ∧ μ x5 (IntKind.i64.wrap (x6 + (1 : Int))) < μ x5 x6 else if (n3 == (2 : Int)) = true then Same1
 ([(0, LV.pv (PV.sl n f es)), (1, LV.pv (PV.sl n2 f2 ss)), (5, LV.pv (PV.bool true)), (6, LV.pv (PV.int .i64 (IntKind.i64.wrap (x6 + (1 : Int)))))], []) ∧ J true (IntKind.i64.wrap (x6 + (1 : Int))) ∧ μ true (IntKind.i64.wrap (x6 + (1 :
 Int))) < μ x5 x6 else Same1 ([(0, LV.pv (PV.sl n f es)), (1, LV.pv (PV.sl n2 f2 ss)), (5, LV.pv (PV.bool x5)), (6, LV.pv (PV.int .i64 (IntKind.i64.wrap (x6 + (1 : Int)))))], []) ∧ J x5 (IntKind.i64.wrap (x6 + (1 : Int))) ∧ μ x5
 (IntKind.i64.wrap (x6 + (1 : Int))) < μ x5 x6 else if x5 = true then R (PV.int .i64 (2 : Int)) else R (PV.int .i64 (0 : Int))
theorem e_typebarref08_Check (n f : Bool) (es : List (List PV)) (n2 f2 : Bool) (ss : List (List PV)) (J : (Bool) → (Int) → Prop) (μ : (Bool) → (Int) → Nat) (R : PV → Prop) : aFn Try.prog (fun _ => none) Try.f22 [0, 1, 4, 5, 6, 7, 11, 21, 48, 50, 51] (fun zz_ => match zz_ with | 3 => some ⟨Bool × Int, fun s => (fun (x5 : Bool) (x6 : Int) => ([(0, LV.pv (PV.sl n f es)), (1, LV.pv (PV.sl n2 f2 ss)), (5, .pv (.bool x5)), (6, .pv (.int IntKind.i64 x6))], [])) s.1 s.2, fun _ s => J s.1 s.2, fun s => μ s.1 s.2, fun e h => (gB e 5, gI e 6), [], [0, 1, 5, 6], [], fun p => ∀ (x5 : Bool) (x6 : Int), p (x5, x6), fun p h s => h s.1 s.2⟩ | _ => none) (Try.f22.body.getD .skip) [.sl n f es, .sl n2 f2 ss] R = r_typebarref08_Check n f es n2 f2 ss J μ R := by kernel_rfl
theorem a_typebarref08_Check (n f : Bool) (es : List (List PV)) (n2 f2 : Bool) (ss : List (List PV)) (J : (Bool) → (Int) → Prop) (μ : (Bool) → (Int) → Nat) {R : PV → Prop} (h : r_typebarref08_Check n f es n2 f2 ss J μ R) : PCall Try.prog 22 [.sl n f es, .sl n2 f2 ss] R :=
  PCall.of Try.func22 (by kernel_rfl) (by kernel_rfl) (Nat.le_of_ble_eq_true (by kernel_rfl)) (Eq.mpr (e_typebarref08_Check n f es n2 f2 ss J μ R) h)

def r_decomp_taker_take (tc tg tj tf tp : PV) (M S : List (PV × PV)) (nl : Bool) (es : List (List PV)) (r d : Int) (R : LV → Hp → Prop) : Prop :=
 PCall Try.prog 84 [PV.int .i32 r] fun (v : PV) ↦ ∃ (n : Bool), ∃ (f : Bool), ∃ (es1 : List (List PV)), v = PV.sl n f es1 ∧ if (bif false then n else !n) = true then (szOK es1 1 ∧ (es.length + es1.length) * 4 ≤ 140737488355328) ∧ R (LV.tup
 []) [Ob.box [LV.pv (PV.ptr [tc, tg, tj, tf, tp, PV.mp M, PV.mp S]), LV.own 1], Ob.sl (21, 1) true (nl && es1.isEmpty) (es ++ es1)] else PCall Try.prog 81 [PV.ptr [tc, tg, tj, tf, tp, PV.mp M, PV.mp S], PV.int .i32 r] fun (v1 : PV) ↦ ∃ (vs :
 List PV), v1 = PV.tup vs ∧ vs.length = 3 ∧ ∃ (x : PV), vs.head? = some x ∧ ∃ (n1 : Int), x = PV.int .i32 n1 ∧ ∃ (x1 : PV), vs.tail.head? = some x1 ∧ ∃ (n2 : Int), x1 = PV.int .i32 n2 ∧ ∃ (x2 : PV), vs.tail.tail.head? = some x2 ∧ ∃ (b :
 Bool), x2 = PV.bool b ∧ if (!b || d == (0 : Int)) = true then (szOK [[PV.int .i32 r]] 1 ∧ (es.length + 1) * 4 ≤ 140737488355328) ∧ R (LV.tup []) [Ob.box [LV.pv (PV.ptr [tc, tg, tj, tf, tp, PV.mp M, PV.mp S]), LV.own 1], Ob.sl (21, 1) true
 (nl && false) (es ++ [[PV.int .i32 r]])] else ACall Try.prog 57 [LV.box 0 0, LV.pv (PV.int .i32 n1), LV.pv (PV.int .i64 (IntKind.i64.wrap (d - (1 : Int))))] [Ob.box [LV.pv (PV.ptr [tc, tg, tj, tf, tp, PV.mp M, PV.mp S]), LV.own 1], Ob.sl
 (21, 1) false nl es] fun (r1 : LV) (h' : Hp) ↦ ∃ (t : Bool × List (List PV)), (r1 = LV.tup [] ∧ h' = [Ob.box [LV.pv (PV.ptr [tc, tg, tj, tf, tp, PV.mp M, PV.mp S]), LV.own 1], Ob.sl (21, 1) true t.fst t.snd]) ∧ (True ∧ True ∧ True) ∧ if (n2
 != (0 : Int)) = true then ACall Try.prog 57 [LV.box 0 0, LV.pv (PV.int .i32 n2), LV.pv (PV.int .i64 (IntKind.i64.wrap (d - (1 : Int))))] [Ob.box [LV.pv (PV.ptr [tc, tg, tj, tf, tp, PV.mp M, PV.mp S]), LV.own 1], Ob.sl (21, 1) false t.fst
 t.snd] fun (r2 : LV) (h'1 : Hp) ↦ ∃ (t1 : Bool × List (List PV)), (r2 = LV.tup [] ∧ h'1 = [Ob.box [LV.pv (PV.ptr [tc, tg, tj, tf, tp, PV.mp M, PV.mp S]), LV.own 1], Ob.sl (21, 1) true t1.fst t1.snd]) ∧ (True ∧ True ∧ True) ∧ R (LV.tup [])
 [Ob.box [LV.pv (PV.ptr [tc, tg, tj, tf, tp, PV.mp M, PV.mp S]), LV.own 1], Ob.sl (21, 1) true t1.fst t1.snd] else R (LV.tup []) [Ob.box [LV.pv (PV.ptr [tc, tg, tj, tf, tp, PV.mp M, PV.mp S]), LV.own 1], Ob.sl (21, 1) true t.fst t.snd]
theorem e_decomp_taker_take (tc tg tj tf tp : PV) (M S : List (PV × PV)) (nl : Bool) (es : List (List PV)) (r d : Int) (R : LV → Hp → Prop) : aFnH Try.prog (fun zz_ => match zz_ with | 57 => some ⟨Bool × List (List PV), fun _ hs t => (.tup [], match hs with | [.box (x :: _), .sl ty _ _ _] => [.box [x, .own 1], .sl ty true t.1 t.2] | [.box (x :: _)] => [.box [x, .own 1], .sl (21, 1) true t.1 t.2] | h => h), none⟩ | _ => none) Try.f57 [0, 1, 2, 6, 7, 8, 9, 13, 38, 55] (fun _ => none) [0, 1] (Try.f57.body.getD .skip) [.box 0 0, .pv (.int .i32 r), .pv (.int .i64 d)] [.box [.pv (.ptr [tc, tg, tj, tf, tp, .mp M, .mp S]), .own 1], .sl (21, 1) false nl es] R = r_decomp_taker_take tc tg tj tf tp M S nl es r d R := by kernel_rfl
theorem a_decomp_taker_take (tc tg tj tf tp : PV) (M S : List (PV × PV)) (nl : Bool) (es : List (List PV)) (r d : Int) {R : LV → Hp → Prop} (h : r_decomp_taker_take tc tg tj tf tp M S nl es r d R) : ACall Try.prog 57 [.box 0 0, .pv (.int .i32 r), .pv (.int .i64 d)] [.box [.pv (.ptr [tc, tg, tj, tf, tp, .mp M, .mp S]), .own 1], .sl (21, 1) false nl es] R :=
  ACall.of Try.func57 (by kernel_rfl) (by kernel_rfl) (Nat.le_of_ble_eq_true (by kernel_rfl)) (Eq.mpr (e_decomp_taker_take tc tg tj tf tp M S nl es r d R) h)

def r_decomp_taker_take0 (tc tg tj tf tp : PV) (M S : List (PV × PV)) (r d : Int) (R : LV → Hp → Prop) : Prop :=
 PCall Try.prog 84 [PV.int .i32 r] fun (v : PV) ↦ ∃ (n : Bool), ∃ (f : Bool), ∃ (es : List (List PV)), v = PV.sl n f es ∧ if (bif false then n else !n) = true then ApOK true [] es 1 4 ∧ R (LV.tup []) [Ob.box [LV.pv (PV.ptr [tc, tg, tj, tf,
 tp, PV.mp M, PV.mp S]), LV.own 1], Ob.sl (21, 1) false es.isEmpty ([] ++ es)] else PCall Try.prog 81 [PV.ptr [tc, tg, tj, tf, tp, PV.mp M, PV.mp S], PV.int .i32 r] fun (v1 : PV) ↦ ∃ (vs : List PV), v1 = PV.tup vs ∧ vs.length = 3 ∧ ∃ (x :
 PV), vs.head? = some x ∧ ∃ (n1 : Int), x = PV.int .i32 n1 ∧ ∃ (x1 : PV), vs.tail.head? = some x1 ∧ ∃ (n2 : Int), x1 = PV.int .i32 n2 ∧ ∃ (x2 : PV), vs.tail.tail.head? = some x2 ∧ ∃ (b : Bool), x2 = PV.bool b ∧ if (!b || d == (0 : Int)) =
 true then ApOK true [] [[PV.int .i32 r]] 1 4 ∧ R (LV.tup []) [Ob.box [LV.pv (PV.ptr [tc, tg, tj, tf, tp, PV.mp M, PV.mp S]), LV.own 1], Ob.sl (21, 1) false false [[PV.int .i32 r]]] else ACall Try.prog 57 [LV.box 0 0, LV.pv (PV.int .i32 n1),
 LV.pv (PV.int .i64 (IntKind.i64.wrap (d - (1 : Int))))] [Ob.box [LV.pv (PV.ptr [tc, tg, tj, tf, tp, PV.mp M, PV.mp S]), LV.pv (PV.sl true true [])]] fun (r1 : LV) (h' : Hp) ↦ ∃ (t : Bool × List (List PV)), (r1 = LV.tup [] ∧ h' = [Ob.box
 [LV.pv (PV.ptr [tc, tg, tj, tf, tp, PV.mp M, PV.mp S]), LV.own 1], Ob.sl (21, 1) true t.fst t.snd]) ∧ (True ∧ True) ∧ if (n2 != (0 : Int)) = true then ACall Try.prog 57 [LV.box 0 0, LV.pv (PV.int .i32 n2), LV.pv (PV.int .i64
 (IntKind.i64.wrap (d - (1 : Int))))] [Ob.box [LV.pv (PV.ptr [tc, tg, tj, tf, tp, PV.mp M, PV.mp S]), LV.own 1], Ob.sl (21, 1) false t.fst t.snd] fun (r2 : LV) (h'1 : Hp) ↦ ∃ (t1 : Bool × List (List PV)), (r2 = LV.tup [] ∧ h'1 = [Ob.box
 [LV.pv (PV.ptr [tc, tg, tj, tf, tp, PV.mp M, PV.mp S]), LV.own 1], Ob.sl ((21 : Nat), 1) true t1.fst t1.snd]) ∧ (True ∧ True ∧ True) ∧ R (LV.tup []) [Ob.box [LV.pv (PV.ptr [tc, tg, tj, tf, tp, PV.mp M, PV.mp S]), LV.own 1], Ob.sl (21, 1)
 true t1.fst t1.snd] else R (LV.tup []) [Ob.box [LV.pv (PV.ptr [tc, tg, tj, tf, tp, PV.mp M, PV.mp S]), LV.own 1], Ob.sl (21, 1) true t.fst t.snd]
theorem e_decomp_taker_take0 (tc tg tj tf tp : PV) (M S : List (PV × PV)) (r d : Int) (R : LV → Hp → Prop) : aFnH Try.prog (fun zz_ => match zz_ with | 57 => some ⟨Bool × List (List PV), fun _ hs t => (.tup [], match hs with | [.box (x :: _), .sl ty _ _ _] => [.box [x, .own 1], .sl ty true t.1 t.2] | [.box (x :: _)] => [.box [x, .own 1], .sl (21, 1) true t.1 t.2] | h => h), none⟩ | _ => none) Try.f57 [0, 1, 2, 6, 7, 8, 9, 13, 38, 55] (fun _ => none) [0, 1] (Try.f57.body.getD .skip) [.box 0 0, .pv (.int .i32 r), .pv (.int .i64 d)] [.box [.pv (.ptr [tc, tg, tj, tf, tp, .mp M, .mp S]), .pv (.sl true true [])]] R = r_decomp_taker_take0 tc tg tj tf tp M S r d R := by kernel_rfl
theorem a_decomp_taker_take0 (tc tg tj tf tp : PV) (M S : List (PV × PV)) (r d : Int) {R : LV → Hp → Prop} (h : r_decomp_taker_take0 tc tg tj tf tp M S r d R) : ACall Try.prog 57 [.box 0 0, .pv (.int .i32 r), .pv (.int .i64 d)] [.box [.pv (.ptr [tc, tg, tj, tf, tp, .mp M, .mp S]), .pv (.sl true true [])]] R :=
  ACall.of Try.func57 (by kernel_rfl) (by kernel_rfl) (Nat.le_of_ble_eq_true (by kernel_rfl)) (Eq.mpr (e_decomp_taker_take0 tc tg tj tf tp M S r d R) h)

def r_decomp_Full (tc tg tj tf tp : PV) (M S : List (PV × PV)) (r : Int) (R : PV → Prop) : Prop :=
 isOne (PV.ptr [tc, tg, tj, tf, tp, PV.mp M, PV.mp S]) = true ∧ ACall Try.prog 57 [LV.box 0 0, LV.pv (PV.int .i32 r), LV.pv (PV.int .i64 (8 : Int))] [Ob.box [LV.pv (PV.ptr [tc, tg, tj, tf, tp, PV.mp M, PV.mp S]), LV.pv (PV.sl true true [])]]
 fun (r1 : LV) (h' : Hp) ↦ ∃ (t : Bool × List (List PV)), (r1 = LV.tup [] ∧ h' = [Ob.box [LV.pv (PV.ptr [tc, tg, tj, tf, tp, PV.mp M, PV.mp S]), LV.own 1], Ob.sl (21, 1) true t.fst t.snd]) ∧ (True ∧ True) ∧ R (PV.sl t.fst false t.snd)
theorem e_decomp_Full (tc tg tj tf tp : PV) (M S : List (PV × PV)) (r : Int) (R : PV → Prop) : aFn Try.prog (fun zz_ => match zz_ with | 57 => some ⟨Bool × List (List PV), fun _ hs t => (.tup [], match hs with | [.box (x :: _), .sl ty _ _ _] => [.box [x, .own 1], .sl ty true t.1 t.2] | [.box (x :: _)] => [.box [x, .own 1], .sl (21, 1) true t.1 t.2] | h => h), none⟩ | _ => none) Try.f25 [0, 1, 4, 5] (fun _ => none) (Try.f25.body.getD .skip) [.ptr [tc, tg, tj, tf, tp, .mp M, .mp S], .int .i32 r] R = r_decomp_Full tc tg tj tf tp M S r R := by kernel_rfl
theorem a_decomp_Full (tc tg tj tf tp : PV) (M S : List (PV × PV)) (r : Int) {R : PV → Prop} (h : r_decomp_Full tc tg tj tf tp M S r R) : PCall Try.prog 25 [.ptr [tc, tg, tj, tf, tp, .mp M, .mp S], .int .i32 r] R :=
  PCall.of Try.func25 (by kernel_rfl) (by kernel_rfl) (Nat.le_of_ble_eq_true (by kernel_rfl)) (Eq.mpr (e_decomp_Full tc tg tj tf tp M S r R) h)

def r_quick_Of (tc tg tj tf tp : PV) (M S : List (PV × PV)) (r : Int) (R : PV → Prop) : Prop :=
 PCall Try.prog 50 [PV.ptr [tc, tg, tj, tf, tp, PV.mp M, PV.mp S], PV.int .i32 r] fun (v : PV) ↦ ∃ (b : Bool), v = PV.bool b ∧ if b = true then R (PV.int .i64 (1 : Int)) else PCall Try.prog 51 [PV.ptr [tc, tg, tj, tf, tp, PV.mp M, PV.mp S],
 PV.int .i32 r] fun (v1 : PV) ↦ ∃ (b1 : Bool), v1 = PV.bool b1 ∧ if b1 = true then if b1 = true then R (PV.int .i64 (2 : Int)) else R (PV.int .i64 (0 : Int)) else PCall Try.prog 52 [PV.int .i32 r] fun (v2 : PV) ↦ ∃ (b2 : Bool), v2 = PV.bool
 b2 ∧ if b2 = true then R (PV.int .i64 (2 : Int)) else R (PV.int .i64 (0 : Int))
theorem e_quick_Of (tc tg tj tf tp : PV) (M S : List (PV × PV)) (r : Int) (R : PV → Prop) : aFn Try.prog (fun _ => none) Try.f15 [0, 1, 4, 5, 9] (fun _ => none) (Try.f15.body.getD .skip) [.ptr [tc, tg, tj, tf, tp, .mp M, .mp S], .int .i32 r] R = r_quick_Of tc tg tj tf tp M S r R := by kernel_rfl
theorem a_quick_Of (tc tg tj tf tp : PV) (M S : List (PV × PV)) (r : Int) {R : PV → Prop} (h : r_quick_Of tc tg tj tf tp M S r R) : PCall Try.prog 15 [.ptr [tc, tg, tj, tf, tp, .mp M, .mp S], .int .i32 r] R :=
  PCall.of Try.func15 (by kernel_rfl) (by kernel_rfl) (Nat.le_of_ble_eq_true (by kernel_rfl)) (Eq.mpr (e_quick_Of tc tg tj tf tp M S r R) h)

def r_quick_Stable (tc tg tj tf tp : PV) (M S : List (PV × PV)) (r : Int) (J : (Int) → (Int) → (Int) → Prop) (μ : (Int) → (Int) → (Int) → Nat) (R : PV → Prop) : Prop :=
 PCall Try.prog 25 [PV.ptr [tc, tg, tj, tf, tp, PV.mp M, PV.mp S], PV.int .i32 r] fun (v : PV) ↦ ∃ (n : Bool), ∃ (f : Bool), ∃ (es : List (List PV)), v = PV.sl n f es ∧ idxOK es (0 : Int) 1 ∧ ∃ (n1 : Int), (es.getD 0 []).head? = some (PV.int
 .i32 n1) ∧ (Same1 ([(0, LV.pv (PV.ptr [tc, tg, tj, tf, tp, PV.mp M, PV.mp S])), (13, LV.pv (PV.agg [PV.int .i32 r, PV.int .i32 n1])), (14, LV.pv (PV.int .i64 (0 : Int)))], []) ∧ J r n1 (0 : Int)) ∧ ∀ (x13_0 x13_1 x14 : Int), J x13_0 x13_1
 x14 → if decide (x14 < (2 : Int)) = true then ((0 : Int) ≤ x14 ∧ x14 < (↑2 : Int) ∧ x14.toNat * 1 + 1 ≤ 2) ∧ ∃ (n2 : Int), [PV.int .i32 x13_0, PV.int .i32 x13_1].getD x14.toNat PV.unit = PV.int .i32 n2 ∧ PCall Try.prog 56 [PV.ptr [tc, tg,
 tj, tf, tp, PV.mp M, PV.mp S], PV.int .i32 n2] fun (v1 : PV) ↦ ∃ (n3 : Int), v1 = PV.int .i64 n3 ∧ if (n3 != (0 : Int)) = true then R (PV.bool false) else PCall Try.prog 15 [PV.ptr [tc, tg, tj, tf, tp, PV.mp M, PV.mp S], PV.int .i32 n2] fun
 (v2 : PV) ↦ ∃ (n4 : Int), v2 = PV.int .i64 n4 ∧ if (n4 != (0 : Int)) = true then R (PV.bool false) else Same1 ([(0, LV.pv (PV.ptr [tc, tg, tj, tf, tp, PV.mp M, PV.mp S])), (13, LV.pv (PV.agg [PV.int .i32 x13_0, PV.int .i32 x13_1])), (14,
 LV.pv (PV.int .i64 (IntKind.i64.wrap (x14 + (1 : Int)))))], []) ∧ J x13_0 x13_1 (IntKind.i64.wrap (x14 + (1 : Int))) ∧ μ x13_0 x13_1 (IntKind.i64.wrap (x14 + (1 : Int))) < μ x13_0 x13_1 x14 else R (PV.bool true)
theorem e_quick_Stable (tc tg tj tf tp : PV) (M S : List (PV × PV)) (r : Int) (J : (Int) → (Int) → (Int) → Prop) (μ : (Int) → (Int) → (Int) → Nat) (R : PV → Prop) : aFn Try.prog (fun _ => none) Try.f17 [0, 1, 4, 6, 13, 14, 15, 26] (fun zz_ => match zz_ with | 2 => some ⟨Int × Int × Int, fun s => (fun (x13_0 : Int) (x13_1 : Int) (x14 : Int) => ([(0, LV.pv (PV.ptr [tc, tg, tj, tf, tp, PV.mp M, PV.mp S])), (13, .pv (.agg [.int IntKind.i32 x13_0, .int IntKind.i32 x13_1])), (14, .pv (.int IntKind.i64 x14))], [])) s.1 s.2.1 s.2.2, fun _ s => J s.1 s.2.1 s.2.2, fun s => μ s.1 s.2.1 s.2.2, fun e h => (gC e 13 0, gC e 13 1, gI e 14), [], [0, 13, 14], [], fun p => ∀ (x13_0 : Int) (x13_1 : Int) (x14 : Int), p (x13_0, x13_1, x14), fun p h s => h s.1 s.2.1 s.2.2⟩ | _ => none) (Try.f17.body.getD .skip) [.ptr [tc, tg, tj, tf, tp, .mp M, .mp S], .int .i32 r] R = r_quick_Stable tc tg tj tf tp M S r J μ R := by kernel_rfl
theorem a_quick_Stable (tc tg tj tf tp : PV) (M S : List (PV × PV)) (r : Int) (J : (Int) → (Int) → (Int) → Prop) (μ : (Int) → (Int) → (Int) → Nat) {R : PV → Prop} (h : r_quick_Stable tc tg tj tf tp M S r J μ R) : PCall Try.prog 17 [.ptr [tc, tg, tj, tf, tp, .mp M, .mp S], .int .i32 r] R :=
  PCall.of Try.func17 (by kernel_rfl) (by kernel_rfl) (Nat.le_of_ble_eq_true (by kernel_rfl)) (Eq.mpr (e_quick_Stable tc tg tj tf tp M S r J μ R) h)

def r_quick_Check (tc tg tj tf tp : PV) (M S : List (PV × PV)) (n f : Bool) (es : List (List PV)) (J : (Int) → (Int) → (Int) → Prop) (μ : (Int) → (Int) → (Int) → Nat) (R : PV → Prop) : Prop :=
 (Same1 ([(0, LV.pv (PV.ptr [tc, tg, tj, tf, tp, PV.mp M, PV.mp S])), (5, LV.pv (PV.int .i64 (0 : Int))), (6, LV.pv (PV.int .i64 (0 : Int))), (10, LV.pv (PV.sl n f es)), (11, LV.pv (PV.int .i64 (↑es.length : Int))), (12, LV.pv (PV.int .i64
 (0 : Int)))], []) ∧ J (0 : Int) (0 : Int) (0 : Int)) ∧ ∀ (x5 x6 x12 : Int), J x5 x6 x12 → if decide (x12 < (↑es.length : Int)) = true then idxOK es x12 1 ∧ ∃ (n1 : Int), (es.getD x12.toNat []).head? = some (PV.int .i32 n1) ∧ PCall Try.prog
 56 [PV.ptr [tc, tg, tj, tf, tp, PV.mp M, PV.mp S], PV.int .i32 n1] fun (v : PV) ↦ ∃ (n2 : Int), v = PV.int .i64 n2 ∧ if (n2 != (0 : Int) && decide (x6 > n2)) = true then R (PV.int .i64 (1 : Int)) else PCall Try.prog 15 [PV.ptr [tc, tg, tj,
 tf, tp, PV.mp M, PV.mp S], PV.int .i32 n1] fun (v1 : PV) ↦ ∃ (n3 : Int), v1 = PV.int .i64 n3 ∧ if (n3 == (1 : Int)) = true then R (PV.int .i64 (1 : Int)) else if (n3 == (2 : Int)) = true then Same1 ([(0, LV.pv (PV.ptr [tc, tg, tj, tf, tp,
 PV.mp M, PV.mp S])), (5, LV.pv (PV.int .i64 (2 : Int))), (6, LV.pv (PV.int .i64 n2)), (10, LV.pv (PV.sl n f es)), (11, LV.pv (PV.int .i64 (↑es.length : Int))), (12, LV.pv (PV.int .i64 (IntKind.i64.wrap (x12 + (1 : Int)))))], []) ∧ J (2 :
 Int) n2 (IntKind.i64.wrap (x12 + (1 : Int))) ∧ μ (2 : Int) n2 (IntKind.i64.wrap (x12 + (1 : Int))) < μ x5 x6 x12 else Same1 ([(0, LV.pv (PV.ptr [tc, tg, tj, tf, tp, PV.mp M, PV.mp S])), (5, LV.pv (PV.int .i64 x5)), (6, LV.pv (PV.int .i64
 n2)), (10, LV.pv (PV.sl n f es)), (11, LV.pv (PV.int .i64 (↑es.length : Int))), (12, LV.pv (PV.int .i64 (IntKind.i64.wrap (x12 + (1 : Int)))))], []) ∧ J x5 n2 (IntKind.i64.wrap (x12 + (1 : Int))) ∧ μ x5 n2 (IntKind.i64.wrap (x12 + (1 :
 Int))) < μ x5 x6 x12 else R (PV.int .i64 x5)
theorem e_quick_Check (tc tg tj tf tp : PV) (M S : List (PV × PV)) (n f : Bool) (es : List (List PV)) (J : (Int) → (Int) → (Int) → Prop) (μ : (Int) → (Int) → (Int) → Nat) (R : PV → Prop) : aFn Try.prog (fun _ => none) Try.f21 [0, 1, 4, 5, 6, 8, 9, 10, 11, 12, 13, 25, 29, 30, 32] (fun zz_ => match zz_ with | 3 => some ⟨Int × Int × Int, fun s => (fun (x5 : Int) (x6 : Int) (x12 : Int) => ([(0, LV.pv (PV.ptr [tc, tg, tj, tf, tp, PV.mp M, PV.mp S])), (5, .pv (.int IntKind.i64 x5)), (6, .pv (.int IntKind.i64 x6)), (10, LV.pv (PV.sl n f es)), (11, LV.pv (PV.int IntKind.i64 ↑es.length)), (12, .pv (.int IntKind.i64 x12))], [])) s.1 s.2.1 s.2.2, fun _ s => J s.1 s.2.1 s.2.2, fun s => μ s.1 s.2.1 s.2.2, fun e h => (gI e 5, gI e 6, gI e 12), [], [0, 5, 6, 10, 11, 12], [], fun p => ∀ (x5 : Int) (x6 : Int) (x12 : Int), p (x5, x6, x12), fun p h s => h s.1 s.2.1 s.2.2⟩ | _ => none) (Try.f21.body.getD .skip) [.ptr [tc, tg, tj, tf, tp, .mp M, .mp S], .sl n f es] R = r_quick_Check tc tg tj tf tp M S n f es J μ R := by kernel_rfl
theorem a_quick_Check (tc tg tj tf tp : PV) (M S : List (PV × PV)) (n f : Bool) (es : List (List PV)) (J : (Int) → (Int) → (Int) → Prop) (μ : (Int) → (Int) → (Int) → Nat) {R : PV → Prop} (h : r_quick_Check tc tg tj tf tp M S n f es J μ R) : PCall Try.prog 21 [.ptr [tc, tg, tj, tf, tp, .mp M, .mp S], .sl n f es] R :=
  PCall.of Try.func21 (by kernel_rfl) (by kernel_rfl) (Nat.le_of_ble_eq_true (by kernel_rfl)) (Eq.mpr (e_quick_Check tc tg tj tf tp M S n f es J μ R) h)

def r_quick_Points (tc tg tj tf tp : PV) (M S : List (PV × PV)) (n f : Bool) (es : List (List PV)) (J : (Int) → (Bool) → (List (List PV)) → Prop) (μ : (Int) → (Bool) → (List (List PV)) → Nat) (R : PV → Prop) : Prop :=
 (Same1 ([(0, LV.pv (PV.ptr [tc, tg, tj, tf, tp, PV.mp M, PV.mp S])), (5, LV.own 0), (8, LV.pv (PV.sl n f es)), (9, LV.pv (PV.int .i64 (↑es.length : Int))), (10, LV.pv (PV.int .i64 (0 : Int)))], [Ob.sl (3, 1) true true []]) ∧ J (0 : Int)
 true []) ∧ ∀ (x10 : Int) (n_0 : Bool) (s_0 : List (List PV)), J x10 n_0 s_0 → if decide (x10 < (↑es.length : Int)) = true then idxOK es x10 1 ∧ ∃ (n1 : Int), (es.getD x10.toNat []).head? = some (PV.int .i32 n1) ∧ PCall Try.prog 17 [PV.ptr
 [tc, tg, tj, tf, tp, PV.mp M, PV.mp S], PV.int .i32 n1] fun (v : PV) ↦ ∃ (b : Bool), v = PV.bool b ∧ if b = true then (szOK [[PV.int .i64 x10]] 1 ∧ (s_0.length + 1) * 8 ≤ 140737488355328) ∧ Same1 ([(0, LV.pv (PV.ptr [tc, tg, tj, tf, tp,
 PV.mp M, PV.mp S])), (5, LV.own 0), (8, LV.pv (PV.sl n f es)), (9, LV.pv (PV.int .i64 (↑es.length : Int))), (10, LV.pv (PV.int .i64 (IntKind.i64.wrap (x10 + (1 : Int)))))], [Ob.sl (3, 1) true (n_0 && false) (s_0 ++ [[PV.int .i64 x10]])]) ∧
 J (IntKind.i64.wrap (x10 + (1 : Int))) (n_0 && false) (s_0 ++ [[PV.int .i64 x10]]) ∧ μ (IntKind.i64.wrap (x10 + (1 : Int))) (n_0 && false) (s_0 ++ [[PV.int .i64 x10]]) < μ x10 n_0 s_0 else Same1 ([(0, LV.pv (PV.ptr [tc, tg, tj, tf, tp,
 PV.mp M, PV.mp S])), (5, LV.own 0), (8, LV.pv (PV.sl n f es)), (9, LV.pv (PV.int .i64 (↑es.length : Int))), (10, LV.pv (PV.int .i64 (IntKind.i64.wrap (x10 + (1 : Int)))))], [Ob.sl (3, 1) true n_0 s_0]) ∧ J (IntKind.i64.wrap (x10 + (1 :
 Int))) n_0 s_0 ∧ μ (IntKind.i64.wrap (x10 + (1 : Int))) n_0 s_0 < μ x10 n_0 s_0 else R (PV.sl n_0 false s_0)
theorem e_quick_Points (tc tg tj tf tp : PV) (M S : List (PV × PV)) (n f : Bool) (es : List (List PV)) (J : (Int) → (Bool) → (List (List PV)) → Prop) (μ : (Int) → (Bool) → (List (List PV)) → Nat) (R : PV → Prop) : aFn Try.prog (fun _ => none) Try.f23 [0, 1, 4, 5, 6, 7, 8, 9, 10, 11, 17] (fun zz_ => match zz_ with | 3 => some ⟨Int × Bool × (List (List PV)), fun s => (fun (x10 : Int) (n_0 : Bool) (s_0 : List (List PV)) => ([(0, LV.pv (PV.ptr [tc, tg, tj, tf, tp, PV.mp M, PV.mp S])), (5, LV.own 0), (8, LV.pv (PV.sl n f es)), (9, LV.pv (PV.int IntKind.i64 ↑es.length)), (10, .pv (.int IntKind.i64 x10))], [.sl (3, 1) true n_0 s_0])) s.1 s.2.1 s.2.2, fun _ s => J s.1 s.2.1 s.2.2, fun s => μ s.1 s.2.1 s.2.2, fun e h => (gI e 10, oN h 0, oS h 0), [(5, 3, 1)], [0, 5, 8, 9, 10], [], fun p => ∀ (x10 : Int) (n_0 : Bool) (s_0 : List (List PV)), p (x10, n_0, s_0), fun p h s => h s.1 s.2.1 s.2.2⟩ | _ => none) (Try.f23.body.getD .skip) [.ptr [tc, tg, tj, tf, tp, .mp M, .mp S], .sl n f es] R = r_quick_Points tc tg tj tf tp M S n f es J μ R := by kernel_rfl
theorem a_quick_Points (tc tg tj tf tp : PV) (M S : List (PV × PV)) (n f : Bool) (es : List (List PV)) (J : (Int) → (Bool) → (List (List PV)) → Prop) (μ : (Int) → (Bool) → (List (List PV)) → Nat) {R : PV → Prop} (h : r_quick_Points tc tg tj tf tp M S n f es J μ R) : PCall Try.prog 23 [.ptr [tc, tg, tj, tf, tp, .mp M, .mp S], .sl n f es] R :=
  PCall.of Try.func23 (by kernel_rfl) (by kernel_rfl) (Nat.le_of_ble_eq_true (by kernel_rfl)) (Eq.mpr (e_quick_Points tc tg tj tf tp M S n f es J μ R) h)

end Go.Eng
set_option linter.unusedVariables false
set_option maxRecDepth 100000
set_option linter.constructorNameAsVariable false
namespace Go.Eng
open Go Go.Proofs
def r_ucd_numbers (n f : Bool) (es : List (List PV)) (k : Int) (J : (Bool) → (Bool) → (List (List PV)) → (Int) → (Int) → (Bool) → (List (List PV)) → Prop) (μ : (Bool) → (Bool) → (List (List PV)) → (Int) → (Int) → (Bool) → (List (List PV)) → Nat) (R : PV → Prop) : Prop :=
 PCall Try.prog 47 [PV.sl n f es, PV.int .i64 k] fun (v : PV) ↦ ∃ (n1 : Bool), ∃ (f1 : Bool), ∃ (es1 : List (List PV)), v = PV.sl n1 f1 es1 ∧ (Same1 ([(5, LV.own 0), (10, LV.pv (PV.sl n1 f1 es1)), (11, LV.pv (PV.int .i64 (↑es1.length :
 Int))), (12, LV.pv (PV.int .i64 (0 : Int)))], [Ob.sl (87, 3) true true []]) ∧ J n1 f1 es1 (↑es1.length : Int) (0 : Int) true []) ∧ ∀ (n10 f10 : Bool) (s10 : List (List PV)) (x11 x12 : Int) (n_0 : Bool) (s_0 : List (List PV)), J n10 f10 s10
 x11 x12 n_0 s_0 → if decide (x12 < x11) = true then idxOK s10 x12 4 ∧ ∃ (n2 : Int), (s10.getD x12.toNat []).head? = some (PV.int .i64 n2) ∧ ∃ (n3 : Int), (s10.getD x12.toNat []).tail.head? = some (PV.int .i64 n3) ∧ ∃ (n4 : Int), (s10.getD
 x12.toNat []).tail.tail.head? = some (PV.int .i64 n4) ∧ ∃ (n5 : Int), (s10.getD x12.toNat []).tail.tail.tail.head? = some (PV.int .i64 n5) ∧ (szOK [[PV.int .i64 n2, PV.int .i64 n3, PV.int .i64 n4]] 3 ∧ (s_0.length + 1) * 24 ≤
 140737488355328) ∧ Same1 ([(5, LV.own 0), (10, LV.pv (PV.sl n10 f10 s10)), (11, LV.pv (PV.int .i64 x11)), (12, LV.pv (PV.int .i64 (IntKind.i64.wrap (x12 + (1 : Int)))))], [Ob.sl (87, 3) true (n_0 && false) (s_0 ++ [[PV.int .i64 n2, PV.int
 .i64 n3, PV.int .i64 n4]])]) ∧ J n10 f10 s10 x11 (IntKind.i64.wrap (x12 + (1 : Int))) (n_0 && false) (s_0 ++ [[PV.int .i64 n2, PV.int .i64 n3, PV.int .i64 n4]]) ∧ μ n10 f10 s10 x11 (IntKind.i64.wrap (x12 + (1 : Int))) (n_0 && false) (s_0 ++
 [[PV.int .i64 n2, PV.int .i64 n3, PV.int .i64 n4]]) < μ n10 f10 s10 x11 x12 n_0 s_0 else PCall Try.prog 69 [PV.int .i64 (1114112 : Int), PV.int .i64 (0 : Int), PV.sl n_0 false s_0] fun (v1 : PV) ↦ R v1
theorem e_ucd_numbers (n f : Bool) (es : List (List PV)) (k : Int) (J : (Bool) → (Bool) → (List (List PV)) → (Int) → (Int) → (Bool) → (List (List PV)) → Prop) (μ : (Bool) → (Bool) → (List (List PV)) → (Int) → (Int) → (Bool) → (List (List PV)) → Nat) (R : PV → Prop) : aFn Try.prog (fun _ => none) Try.f45 [0, 1, 4, 5, 7, 10, 11, 12, 13] (fun zz_ => match zz_ with | 3 => some ⟨Bool × Bool × (List (List PV)) × Int × Int × Bool × (List (List PV)), fun s => (fun (n10 : Bool) (f10 : Bool) (s10 : List (List PV)) (x11 : Int) (x12 : Int) (n_0 : Bool) (s_0 : List (List PV)) => ([(5, LV.own 0), (10, .pv (.sl n10 f10 s10)), (11, .pv (.int IntKind.i64 x11)), (12, .pv (.int IntKind.i64 x12))], [.sl (87, 3) true n_0 s_0])) s.1 s.2.1 s.2.2.1 s.2.2.2.1 s.2.2.2.2.1 s.2.2.2.2.2.1 s.2.2.2.2.2.2, fun _ s => J s.1 s.2.1 s.2.2.1 s.2.2.2.1 s.2.2.2.2.1 s.2.2.2.2.2.1 s.2.2.2.2.2.2, fun s => μ s.1 s.2.1 s.2.2.1 s.2.2.2.1 s.2.2.2.2.1 s.2.2.2.2.2.1 s.2.2.2.2.2.2, fun e h => (gN e 10, gF e 10, gS e 10, gI e 11, gI e 12, oN h 0, oS h 0), [(5, 87, 3)], [5, 10, 11, 12], [], fun p => ∀ (n10 : Bool) (f10 : Bool) (s10 : List (List PV)) (x11 : Int) (x12 : Int) (n_0 : Bool) (s_0 : List (List PV)), p (n10, f10, s10, x11, x12, n_0, s_0), fun p h s => h s.1 s.2.1 s.2.2.1 s.2.2.2.1 s.2.2.2.2.1 s.2.2.2.2.2.1 s.2.2.2.2.2.2⟩ | _ => none) (Try.f45.body.getD .skip) [.sl n f es, .int .i64 k] R = r_ucd_numbers n f es k J μ R := by kernel_rfl
theorem a_ucd_numbers (n f : Bool) (es : List (List PV)) (k : Int) (J : (Bool) → (Bool) → (List (List PV)) → (Int) → (Int) → (Bool) → (List (List PV)) → Prop) (μ : (Bool) → (Bool) → (List (List PV)) → (Int) → (Int) → (Bool) → (List (List PV)) → Nat) {R : PV → Prop} (h : r_ucd_numbers n f es k J μ R) : PCall Try.prog 45 [.sl n f es, .int .i64 k] R :=
  PCall.of Try.func45 (by kernel_rfl) (by kernel_rfl) (Nat.le_of_ble_eq_true (by kernel_rfl)) (Eq.mpr (e_ucd_numbers n f es k J μ R) h)

def r_ucd_cut (n f : Bool) (es : List (List PV)) (J : (Int) → (List (PV × PV)) → Prop) (μ : (Int) → (List (PV × PV)) → Nat) (J2 : (Int) → (Bool) → (Bool) → (List (List PV)) → (Int) → (Int) → (List (PV × PV)) → (Int) → (Bool) → (Bool) → (List (List PV)) → (Int) → (Int) → (List (PV × PV)) → Prop) (μ2 : (Int) → (Bool) → (Bool) → (List (List PV)) → (Int) → (Int) → (List (PV × PV)) → Nat) (J3 : (Bool) → (List (List PV)) → (List (PV × PV)) → (Option (PV × PV)) → Prop) (μ3 : (Bool) → (List (List PV)) → (List (PV × PV)) → (Option (PV × PV)) → Nat) (R : PV → Prop) : Prop :=
 keysInt .i64 [] ∧ (Same1 ([(3, LV.mp 0), (12, LV.pv (PV.sl n f es)), (13, LV.pv (PV.int .i64 (↑es.length : Int))), (14, LV.pv (PV.int .i64 (0 : Int)))], [Ob.mp [(PV.int .i64 (0 : Int), PV.bool true)]]) ∧ J (0 : Int) [(PV.int .i64 (0 : Int),
 PV.bool true)]) ∧ ∀ (x14 : Int) (m_0 : List (PV × PV)), J x14 m_0 → if decide (x14 < (↑es.length : Int)) = true then idxOK es x14 1 ∧ ∃ (n1 : Bool), ∃ (f1 : Bool), ∃ (es1 : List (List PV)), (es.getD x14.toNat []).head? = some (PV.sl n1 f1
 es1) ∧ (Same1 ([(3, LV.mp 0), (12, LV.pv (PV.sl n f es)), (13, LV.pv (PV.int .i64 (↑es.length : Int))), (14, LV.pv (PV.int .i64 x14)), (18, LV.pv (PV.sl n1 f1 es1)), (19, LV.pv (PV.int .i64 (↑es1.length : Int))), (20, LV.pv (PV.int .i64 (0
 : Int)))], [Ob.mp m_0]) ∧ J2 x14 n1 f1 es1 (↑es1.length : Int) (0 : Int) m_0 x14 n1 f1 es1 (↑es1.length : Int) (0 : Int) m_0) ∧ ∀ (x141 : Int) (n18 f18 : Bool) (s18 : List (List PV)) (x19 x20 : Int) (m_01 : List (PV × PV)), J2 x14 n1 f1 es1
 (↑es1.length : Int) (0 : Int) m_0 x141 n18 f18 s18 x19 x20 m_01 → if decide (x20 < x19) = true then idxOK s18 x20 4 ∧ ∃ (n2 : Int), (s18.getD x20.toNat []).head? = some (PV.int .i64 n2) ∧ ∃ (n3 : Int), (s18.getD x20.toNat []).tail.head? =
 some (PV.int .i64 n3) ∧ ∃ (n4 : Int), (s18.getD x20.toNat []).tail.tail.head? = some (PV.int .i64 n4) ∧ ∃ (n5 : Int), (s18.getD x20.toNat []).tail.tail.tail.head? = some (PV.int .i64 n5) ∧ (Dup (keysInt .i64 m_01 ∧ keysInt .i64 (mapSet
 (PV.int .i64 n2) (PV.bool true) m_01) ∧ Same1 ([(3, LV.mp 0), (12, LV.pv (PV.sl n f es)), (13, LV.pv (PV.int .i64 (↑es.length : Int))), (14, LV.pv (PV.int .i64 x141)), (18, LV.pv (PV.sl n18 f18 s18)), (19, LV.pv (PV.int .i64 x19)), (20,
 LV.pv (PV.int .i64 (IntKind.i64.wrap (x20 + (1 : Int)))))], [Ob.mp (mapSet (PV.int .i64 (IntKind.i64.wrap (n3 + (1 : Int)))) (PV.bool true) (mapSet (PV.int .i64 n2) (PV.bool true) m_01))]) ∧ J2 x14 n1 f1 es1 (↑es1.length : Int) (0 : Int)
 m_0 x141 n18 f18 s18 x19 (IntKind.i64.wrap (x20 + (1 : Int))) (mapSet (PV.int .i64 (IntKind.i64.wrap (n3 + (1 : Int)))) (PV.bool true) (mapSet (PV.int .i64 n2) (PV.bool true) m_01)) ∧ μ2 x141 n18 f18 s18 x19 (IntKind.i64.wrap (x20 + (1 :
 Int))) (mapSet (PV.int .i64 (IntKind.i64.wrap (n3 + (1 : Int)))) (PV.bool true) (mapSet (PV.int .i64 n2) (PV.bool true) m_01)) < μ2 x141 n18 f18 s18 x19 x20 m_01)) ∧ keysInt .i64 m_01 ∧ keysInt .i64 (mapSet (PV.int .i64 n2) (PV.bool true)
 m_01) ∧ Same1 ([(3, LV.mp 0), (12, LV.pv (PV.sl n f es)), (13, LV.pv (PV.int .i64 (↑es.length : Int))), (14, LV.pv (PV.int .i64 x141)), (18, LV.pv (PV.sl n18 f18 s18)), (19, LV.pv (PV.int .i64 x19)), (20, LV.pv (PV.int .i64
 (IntKind.i64.wrap (x20 + (1 : Int)))))], [Ob.mp (mapSet (PV.int .i64 (IntKind.i64.wrap (n3 + (1 : Int)))) (PV.bool true) (mapSet (PV.int .i64 n2) (PV.bool true) m_01))]) ∧ J2 x14 n1 f1 es1 (↑es1.length : Int) (0 : Int) m_0 x141 n18 f18 s18
 x19 (IntKind.i64.wrap (x20 + (1 : Int))) (mapSet (PV.int .i64 (IntKind.i64.wrap (n3 + (1 : Int)))) (PV.bool true) (mapSet (PV.int .i64 n2) (PV.bool true) m_01)) ∧ μ2 x141 n18 f18 s18 x19 (IntKind.i64.wrap (x20 + (1 : Int))) (mapSet (PV.int
 .i64 (IntKind.i64.wrap (n3 + (1 : Int)))) (PV.bool true) (mapSet (PV.int .i64 n2) (PV.bool true) m_01)) < μ2 x141 n18 f18 s18 x19 x20 m_01 else Same1 ([(3, LV.mp 0), (12, LV.pv (PV.sl n f es)), (13, LV.pv (PV.int .i64 (↑es.length : Int))),
 (14, LV.pv (PV.int .i64 (IntKind.i64.wrap (x141 + (1 : Int)))))], [Ob.mp m_01]) ∧ J (IntKind.i64.wrap (x141 + (1 : Int))) m_01 ∧ μ (IntKind.i64.wrap (x141 + (1 : Int))) m_01 < μ x14 m_0 else (Same1 ([(8, LV.own 0), (34, LV.it 1)], [Ob.sl
 (3, 1) true true [], Ob.iter (3, 4) m_0 none]) ∧ J3 true [] m_0 none) ∧ ∀ (n_0 : Bool) (s_0 : List (List PV)) (r_1 : List (PV × PV)) (q_1 : Option (PV × PV)), J3 n_0 s_0 r_1 q_1 → (r_1 = [] → R (PV.sl n_0 false s_0)) ∧ ∀ (j : Nat) (k v :
 PV), r_1[j]? = some (k, v) → ∃ (n1 : Int), k = PV.int .i64 n1 ∧ ∃ (b : Bool), v = PV.bool b ∧ ∃ (n2 : Int), PV.int .i64 n1 = PV.int .i64 n2 ∧ ∃ (b1 : Bool), PV.bool b = PV.bool b1 ∧ (szOK [[PV.int .i64 n2]] 1 ∧ (s_0.length + 1) * 8 ≤
 140737488355328) ∧ Same1 ([((8 : Nat), LV.own 0), (34, LV.it 1)], [Ob.sl (3, 1) true (n_0 && false) (s_0 ++ [[PV.int .i64 n2]]), Ob.iter (3, 4) (r_1.eraseIdx j) (some (PV.int .i64 n1, PV.bool b))]) ∧ J3 (n_0 && false) (s_0 ++ [[PV.int .i64
 n2]]) (r_1.eraseIdx j) (some (PV.int .i64 n1, PV.bool b)) ∧ μ3 (n_0 && false) (s_0 ++ [[PV.int .i64 n2]]) (r_1.eraseIdx j) (some (PV.int .i64 n1, PV.bool b)) < μ3 n_0 s_0 r_1 q_1
theorem e_ucd_cut (n f : Bool) (es : List (List PV)) (J : (Int) → (List (PV × PV)) → Prop) (μ : (Int) → (List (PV × PV)) → Nat) (J2 : (Int) → (Bool) → (Bool) → (List (List PV)) → (Int) → (Int) → (List (PV × PV)) → (Int) → (Bool) → (Bool) → (List (List PV)) → (Int) → (Int) → (List (PV × PV)) → Prop) (μ2 : (Int) → (Bool) → (Bool) → (List (List PV)) → (Int) → (Int) → (List (PV × PV)) → Nat) (J3 : (Bool) → (List (List PV)) → (List (PV × PV)) → (Option (PV × PV)) → Prop) (μ3 : (Bool) → (List (List PV)) → (List (PV × PV)) → (Option (PV × PV)) → Nat) (R : PV → Prop) : aFn Try.prog (fun _ => none) Try.f70 [0, 2, 3, 5, 7, 8, 9, 12, 13, 14, 15, 18, 19, 20, 21, 34, 36] (fun zz_ => match zz_ with | 3 => some ⟨Int × (List (PV × PV)), fun s => (fun (x14 : Int) (m_0 : List (PV × PV)) => ([(3, LV.mp 0), (12, LV.pv (PV.sl n f es)), (13, LV.pv (PV.int IntKind.i64 ↑es.length)), (14, .pv (.int IntKind.i64 x14))], [.mp m_0])) s.1 s.2, fun _ s => J s.1 s.2, fun s => μ s.1 s.2, fun e h => (gI e 14, oM h 0), [], [3, 12, 13, 14], [], fun p => ∀ (x14 : Int) (m_0 : List (PV × PV)), p (x14, m_0), fun p h s => h s.1 s.2⟩ | 6 => some ⟨Int × Bool × Bool × (List (List PV)) × Int × Int × (List (PV × PV)), fun s => (fun (x14 : Int) (n18 : Bool) (f18 : Bool) (s18 : List (List PV)) (x19 : Int) (x20 : Int) (m_0 : List (PV × PV)) => ([(3, LV.mp 0), (12, LV.pv (PV.sl n f es)), (13, LV.pv (PV.int IntKind.i64 ↑es.length)), (14, .pv (.int IntKind.i64 x14)), (18, .pv (.sl n18 f18 s18)), (19, .pv (.int IntKind.i64 x19)), (20, .pv (.int IntKind.i64 x20))], [.mp m_0])) s.1 s.2.1 s.2.2.1 s.2.2.2.1 s.2.2.2.2.1 s.2.2.2.2.2.1 s.2.2.2.2.2.2, fun t s => J2 t.1 t.2.1 t.2.2.1 t.2.2.2.1 t.2.2.2.2.1 t.2.2.2.2.2.1 t.2.2.2.2.2.2 s.1 s.2.1 s.2.2.1 s.2.2.2.1 s.2.2.2.2.1 s.2.2.2.2.2.1 s.2.2.2.2.2.2, fun s => μ2 s.1 s.2.1 s.2.2.1 s.2.2.2.1 s.2.2.2.2.1 s.2.2.2.2.2.1 s.2.2.2.2.2.2, fun e h => (gI e 14, gN e 18, gF e 18, gS e 18, gI e 19, gI e 20, oM h 0), [], [3, 12, 13, 14, 18, 19, 20], [], fun p => ∀ (x14 : Int) (n18 : Bool) (f18 : Bool) (s18 : List (List PV)) (x19 : Int) (x20 : Int) (m_0 : List (PV × PV)), p (x14, n18, f18, s18, x19, x20, m_0), fun p h s => h s.1 s.2.1 s.2.2.1 s.2.2.2.1 s.2.2.2.2.1 s.2.2.2.2.2.1 s.2.2.2.2.2.2⟩ | 13 => some ⟨Bool × (List (List PV)) × (List (PV × PV)) × (Option (PV × PV)), fun s => (fun (n_0 : Bool) (s_0 : List (List PV)) (r_1 : List (PV × PV)) (q_1 : Option (PV × PV)) => ([(8, LV.own 0), (34, LV.it 1)], [.sl (3, 1) true n_0 s_0, .iter (3, 4) r_1 q_1])) s.1 s.2.1 s.2.2.1 s.2.2.2, fun _ s => J3 s.1 s.2.1 s.2.2.1 s.2.2.2, fun s => μ3 s.1 s.2.1 s.2.2.1 s.2.2.2, fun e h => (oN h 0, oS h 0, oR h 1, oQ h 1), [(8, 3, 1)], [8, 34], [], fun p => ∀ (n_0 : Bool) (s_0 : List (List PV)) (r_1 : List (PV × PV)) (q_1 : Option (PV × PV)), p (n_0, s_0, r_1, q_1), fun p h s => h s.1 s.2.1 s.2.2.1 s.2.2.2⟩ | _ => none) (Try.f70.body.getD .skip) [.sl n f es] R = r_ucd_cut n f es J μ J2 μ2 J3 μ3 R := by kernel_rfl
theorem a_ucd_cut (n f : Bool) (es : List (List PV)) (J : (Int) → (List (PV × PV)) → Prop) (μ : (Int) → (List (PV × PV)) → Nat) (J2 : (Int) → (Bool) → (Bool) → (List (List PV)) → (Int) → (Int) → (List (PV × PV)) → (Int) → (Bool) → (Bool) → (List (List PV)) → (Int) → (Int) → (List (PV × PV)) → Prop) (μ2 : (Int) → (Bool) → (Bool) → (List (List PV)) → (Int) → (Int) → (List (PV × PV)) → Nat) (J3 : (Bool) → (List (List PV)) → (List (PV × PV)) → (Option (PV × PV)) → Prop) (μ3 : (Bool) → (List (List PV)) → (List (PV × PV)) → (Option (PV × PV)) → Nat) {R : PV → Prop} (h : r_ucd_cut n f es J μ J2 μ2 J3 μ3 R) : PCall Try.prog 70 [.sl n f es] R :=
  PCall.of Try.func70 (by kernel_rfl) (by kernel_rfl) (Nat.le_of_ble_eq_true (by kernel_rfl)) (Eq.mpr (e_ucd_cut n f es J μ J2 μ2 J3 μ3 R) h)

def r_ucd_upto (at_ last : Int) (n0 f0 n1 f1 n2 f2 n3 f3 : Bool) (e0 e1 e2 e3 : List (List PV)) (J : (Int) → (Bool) → (Bool) → (List (List PV)) → (Bool) → (Bool) → (List (List PV)) → (Bool) → (Bool) → (List (List PV)) → (Bool) → (Bool) → (List (List PV)) → (Int) → Prop) (μ : (Int) → (Bool) → (Bool) → (List (List PV)) → (Bool) → (Bool) → (List (List PV)) → (Bool) → (Bool) → (List (List PV)) → (Bool) → (Bool) → (List (List PV)) → (Int) → Nat) (J2 : (Int) → (Bool) → (Bool) → (List (List PV)) → (Bool) → (Bool) → (List (List PV)) → (Bool) → (Bool) → (List (List PV)) → (Bool) → (Bool) → (List (List PV)) → (Int) → (Bool) → (Bool) → (List (List PV)) → (Int) → (Int) → (Int) → (Bool) → (Bool) → (List (List PV)) → (Bool) → (Bool) → (List (List PV)) → (Bool) → (Bool) → (List (List PV)) → (Bool) → (Bool) → (List (List PV)) → (Int) → (Bool) → (Bool) → (List (List PV)) → (Int) → (Int) → Prop) (μ2 : (Int) → (Bool) → (Bool) → (List (List PV)) → (Bool) → (Bool) → (List (List PV)) → (Bool) → (Bool) → (List (List PV)) → (Bool) → (Bool) → (List (List PV)) → (Int) → (Bool) → (Bool) → (List (List PV)) → (Int) → (Int) → Nat) (R : PV → Prop) : Prop :=
 ∃ (n : Bool), ∃ (f : Bool), ∃ (es : List (List PV)), some (PV.sl n0 f0 e0) = some (PV.sl n f es) ∧ ∃ (n4 : Bool), ∃ (f4 : Bool), ∃ (es1 : List (List PV)), some (PV.sl n1 f1 e1) = some (PV.sl n4 f4 es1) ∧ ∃ (n5 : Bool), ∃ (f5 : Bool), ∃ (es2
 : List (List PV)), some (PV.sl n2 f2 e2) = some (PV.sl n5 f5 es2) ∧ ∃ (n6 : Bool), ∃ (f6 : Bool), ∃ (es3 : List (List PV)), some (PV.sl n3 f3 e3) = some (PV.sl n6 f6 es3) ∧ (Same1 ([(0, LV.pv (PV.int .i64 at_)), (1, LV.pv (PV.int .i64
 last)), (11, LV.pv (PV.agg [PV.sl n f es, PV.sl n4 f4 es1, PV.sl n5 f5 es2, PV.sl n6 f6 es3])), (12, LV.pv (PV.int .i64 (0 : Int)))], []) ∧ J last n f es n4 f4 es1 n5 f5 es2 n6 f6 es3 (0 : Int)) ∧ ∀ (x1 : Int) (n11_0 f11_0 : Bool) (s11_0 :
 List (List PV)) (n11_1 f11_1 : Bool) (s11_1 : List (List PV)) (n11_2 f11_2 : Bool) (s11_2 : List (List PV)) (n11_3 f11_3 : Bool) (s11_3 : List (List PV)) (x12 : Int), J x1 n11_0 f11_0 s11_0 n11_1 f11_1 s11_1 n11_2 f11_2 s11_2 n11_3 f11_3
 s11_3 x12 → if decide (x12 < (4 : Int)) = true then ((0 : Int) ≤ x12 ∧ x12 < (↑4 : Int) ∧ x12.toNat * 1 + 1 ≤ 4) ∧ ∃ (n7 : Bool), ∃ (f7 : Bool), ∃ (es4 : List (List PV)), [PV.sl n11_0 f11_0 s11_0, PV.sl n11_1 f11_1 s11_1, PV.sl n11_2 f11_2
 s11_2, PV.sl n11_3 f11_3 s11_3].getD x12.toNat PV.unit = PV.sl n7 f7 es4 ∧ (Same1 ([(0, LV.pv (PV.int .i64 at_)), (1, LV.pv (PV.int .i64 x1)), (11, LV.pv (PV.agg [PV.sl n11_0 f11_0 s11_0, PV.sl n11_1 f11_1 s11_1, PV.sl n11_2 f11_2 s11_2,
 PV.sl n11_3 f11_3 s11_3])), (12, LV.pv (PV.int .i64 x12)), (15, LV.pv (PV.sl n7 f7 es4)), (16, LV.pv (PV.int .i64 (↑es4.length : Int))), (17, LV.pv (PV.int .i64 (0 : Int)))], []) ∧ J2 x1 n11_0 f11_0 s11_0 n11_1 f11_1 s11_1 n11_2 f11_2 s11_2
 n11_3 f11_3 s11_3 x12 n7 f7 es4 (↑es4.length : Int) (0 : Int) x1 n11_0 f11_0 s11_0 n11_1 f11_1 s11_1 n11_2 f11_2 s11_2 n11_3 f11_3 s11_3 x12 n7 f7 es4 (↑es4.length : Int) (0 : Int)) ∧ ∀ (x11 : Int) (n11_01 f11_01 : Bool) (s11_01 : List
 (List PV)) (n11_11 f11_11 : Bool) (s11_11 : List (List PV)) (n11_21 f11_21 : Bool) (s11_21 : List (List PV)) (n11_31 f11_31 : Bool) (s11_31 : List (List PV)) (x121 : Int) (n15 f15 : Bool) (s15 : List (List PV)) (x16 x17 : Int), J2 x1 n11_0
 f11_0 s11_0 n11_1 f11_1 s11_1 n11_2 f11_2 s11_2 n11_3 f11_3 s11_3 x12 n7 f7 es4 (↑es4.length : Int) (0 : Int) x11 n11_01 f11_01 s11_01 n11_11 f11_11 s11_11 n11_21 f11_21 s11_21 n11_31 f11_31 s11_31 x121 n15 f15 s15 x16 x17 → if decide (x17
 < x16) = true then idxOK s15 x17 4 ∧ ∃ (n8 : Int), (s15.getD x17.toNat []).head? = some (PV.int .i64 n8) ∧ ∃ (n9 : Int), (s15.getD x17.toNat []).tail.head? = some (PV.int .i64 n9) ∧ ∃ (n10 : Int), (s15.getD x17.toNat []).tail.tail.head? =
 some (PV.int .i64 n10) ∧ ∃ (n11 : Int), (s15.getD x17.toNat []).tail.tail.tail.head? = some (PV.int .i64 n11) ∧ if decide (n8 > at_) = true then if decide (n8 ≤ x11) = true then Same1 ([(0, LV.pv (PV.int .i64 at_)), (1, LV.pv (PV.int .i64
 (IntKind.i64.wrap (n8 - (1 : Int))))), (11, LV.pv (PV.agg [PV.sl n11_01 f11_01 s11_01, PV.sl n11_11 f11_11 s11_11, PV.sl n11_21 f11_21 s11_21, PV.sl n11_31 f11_31 s11_31])), (12, LV.pv (PV.int .i64 x121)), (15, LV.pv (PV.sl n15 f15 s15)),
 (16, LV.pv (PV.int .i64 x16)), (17, LV.pv (PV.int .i64 (IntKind.i64.wrap (x17 + (1 : Int)))))], []) ∧ J2 x1 n11_0 f11_0 s11_0 n11_1 f11_1 s11_1 n11_2 f11_2 s11_2 n11_3 f11_3 s11_3 x12 n7 f7 es4 (↑es4.length : Int) (0 : Int)
 (IntKind.i64.wrap (n8 - (1 : Int))) n11_01 f11_01 s11_01 n11_11 f11_11 s11_11 n11_21 f11_21 s11_21 n11_31 f11_31 s11_31 x121 n15 f15 s15 x16 (IntKind.i64.wrap (x17 + (1 : Int))) ∧ μ2 (IntKind.i64.wrap (n8 - (1 : Int))) n11_01 f11_01 s11_01
 n11_11 f11_11 s11_11 n11_21 f11_21 s11_21 n11_31 f11_31 s11_31 x121 n15 f15 s15 x16 (IntKind.i64.wrap (x17 + (1 : Int))) < μ2 x11 n11_01 f11_01 s11_01 n11_11 f11_11 s11_11 n11_21 f11_21 s11_21 n11_31 f11_31 s11_31 x121 n15 f15 s15 x16 x17
 else Same1 ([(0, LV.pv (PV.int .i64 at_)), (1, LV.pv (PV.int .i64 x11)), (11, LV.pv (PV.agg [PV.sl n11_01 f11_01 s11_01, PV.sl n11_11 f11_11 s11_11, PV.sl n11_21 f11_21 s11_21, PV.sl n11_31 f11_31 s11_31])), (12, LV.pv (PV.int .i64 x121)),
 (15, LV.pv (PV.sl n15 f15 s15)), (16, LV.pv (PV.int .i64 x16)), (17, LV.pv (PV.int .i64 (IntKind.i64.wrap (x17 + (1 : Int)))))], []) ∧ J2 x1 n11_0 f11_0 s11_0 n11_1 f11_1 s11_1 n11_2 f11_2 s11_2 n11_3 f11_3 s11_3 x12 n7 f7 es4 (↑es4.length
 : Int) (0 : Int) x11 n11_01 f11_01 s11_01 n11_11 f11_11 s11_11 n11_21 f11_21 s11_21 n11_31 f11_31 s11_31 x121 n15 f15 s15 x16 (IntKind.i64.wrap (x17 + (1 : Int))) ∧ μ2 x11 n11_01 f11_01 s11_01 n11_11 f11_11 s11_11 n11_21 f11_21 s11_21
 n11_31 f11_31 s11_31 x121 n15 f15 s15 x16 (IntKind.i64.wrap (x17 + (1 : Int))) < μ2 x11 n11_01 f11_01 s11_01 n11_11 f11_11 s11_11 n11_21 f11_21 s11_21 n11_31 f11_31 s11_31 x121 n15 f15 s15 x16 x17 else Same1 ([(0, LV.pv (PV.int .i64 at_)),
 (1, LV.pv (PV.int .i64 x11)), (11, LV.pv (PV.agg [PV.sl n11_01 f11_01 s11_01, PV.sl n11_11 f11_11 s11_11, PV.sl n11_21 f11_21 s11_21, PV.sl n11_31 f11_31 s11_31])), (12, LV.pv (PV.int .i64 x121)), (15, LV.pv (PV.sl n15 f15 s15)), (16, LV.pv
 (PV.int .i64 x16)), (17, LV.pv (PV.int .i64 (IntKind.i64.wrap (x17 + (1 : Int)))))], []) ∧ J2 x1 n11_0 f11_0 s11_0 n11_1 f11_1 s11_1 n11_2 f11_2 s11_2 n11_3 f11_3 s11_3 x12 n7 f7 es4 (↑es4.length : Int) (0 : Int) x11 n11_01 f11_01 s11_01
 n11_11 f11_11 s11_11 n11_21 f11_21 s11_21 n11_31 f11_31 s11_31 x121 n15 f15 s15 x16 (IntKind.i64.wrap (x17 + (1 : Int))) ∧ μ2 x11 n11_01 f11_01 s11_01 n11_11 f11_11 s11_11 n11_21 f11_21 s11_21 n11_31 f11_31 s11_31 x121 n15 f15 s15 x16
 (IntKind.i64.wrap (x17 + (1 : Int))) < μ2 x11 n11_01 f11_01 s11_01 n11_11 f11_11 s11_11 n11_21 f11_21 s11_21 n11_31 f11_31 s11_31 x121 n15 f15 s15 x16 x17 else Same1 ([(0, LV.pv (PV.int .i64 at_)), (1, LV.pv (PV.int .i64 x11)), (11, LV.pv
 (PV.agg [PV.sl n11_01 f11_01 s11_01, PV.sl n11_11 f11_11 s11_11, PV.sl n11_21 f11_21 s11_21, PV.sl n11_31 f11_31 s11_31])), (12, LV.pv (PV.int .i64 (IntKind.i64.wrap (x121 + (1 : Int)))))], []) ∧ J x11 n11_01 f11_01 s11_01 n11_11 f11_11
 s11_11 n11_21 f11_21 s11_21 n11_31 f11_31 s11_31 (IntKind.i64.wrap (x121 + (1 : Int))) ∧ μ x11 n11_01 f11_01 s11_01 n11_11 f11_11 s11_11 n11_21 f11_21 s11_21 n11_31 f11_31 s11_31 (IntKind.i64.wrap (x121 + (1 : Int))) < μ x1 n11_0 f11_0
 s11_0 n11_1 f11_1 s11_1 n11_2 f11_2 s11_2 n11_3 f11_3 s11_3 x12 else R (PV.int .i64 x1)
theorem e_ucd_upto (at_ last : Int) (n0 f0 n1 f1 n2 f2 n3 f3 : Bool) (e0 e1 e2 e3 : List (List PV)) (J : (Int) → (Bool) → (Bool) → (List (List PV)) → (Bool) → (Bool) → (List (List PV)) → (Bool) → (Bool) → (List (List PV)) → (Bool) → (Bool) → (List (List PV)) → (Int) → Prop) (μ : (Int) → (Bool) → (Bool) → (List (List PV)) → (Bool) → (Bool) → (List (List PV)) → (Bool) → (Bool) → (List (List PV)) → (Bool) → (Bool) → (List (List PV)) → (Int) → Nat) (J2 : (Int) → (Bool) → (Bool) → (List (List PV)) → (Bool) → (Bool) → (List (List PV)) → (Bool) → (Bool) → (List (List PV)) → (Bool) → (Bool) → (List (List PV)) → (Int) → (Bool) → (Bool) → (List (List PV)) → (Int) → (Int) → (Int) → (Bool) → (Bool) → (List (List PV)) → (Bool) → (Bool) → (List (List PV)) → (Bool) → (Bool) → (List (List PV)) → (Bool) → (Bool) → (List (List PV)) → (Int) → (Bool) → (Bool) → (List (List PV)) → (Int) → (Int) → Prop) (μ2 : (Int) → (Bool) → (Bool) → (List (List PV)) → (Bool) → (Bool) → (List (List PV)) → (Bool) → (Bool) → (List (List PV)) → (Bool) → (Bool) → (List (List PV)) → (Int) → (Bool) → (Bool) → (List (List PV)) → (Int) → (Int) → Nat) (R : PV → Prop) : aFn Try.prog (fun _ => none) Try.f72 [0, 1, 2, 5, 6, 8, 10, 11, 12, 13, 15, 16, 17, 18, 30] (fun zz_ => match zz_ with | 2 => some ⟨Int × Bool × Bool × (List (List PV)) × Bool × Bool × (List (List PV)) × Bool × Bool × (List (List PV)) × Bool × Bool × (List (List PV)) × Int, fun s => (fun (x1 : Int) (n11_0 : Bool) (f11_0 : Bool) (s11_0 : List (List PV)) (n11_1 : Bool) (f11_1 : Bool) (s11_1 : List (List PV)) (n11_2 : Bool) (f11_2 : Bool) (s11_2 : List (List PV)) (n11_3 : Bool) (f11_3 : Bool) (s11_3 : List (List PV)) (x12 : Int) => ([(0, LV.pv (PV.int IntKind.i64 at_)), (1, .pv (.int IntKind.i64 x1)), (11, .pv (.agg [.sl n11_0 f11_0 s11_0, .sl n11_1 f11_1 s11_1, .sl n11_2 f11_2 s11_2, .sl n11_3 f11_3 s11_3])), (12, .pv (.int IntKind.i64 x12))], [])) s.1 s.2.1 s.2.2.1 s.2.2.2.1 s.2.2.2.2.1 s.2.2.2.2.2.1 s.2.2.2.2.2.2.1 s.2.2.2.2.2.2.2.1 s.2.2.2.2.2.2.2.2.1 s.2.2.2.2.2.2.2.2.2.1 s.2.2.2.2.2.2.2.2.2.2.1 s.2.2.2.2.2.2.2.2.2.2.2.1 s.2.2.2.2.2.2.2.2.2.2.2.2.1 s.2.2.2.2.2.2.2.2.2.2.2.2.2, fun _ s => J s.1 s.2.1 s.2.2.1 s.2.2.2.1 s.2.2.2.2.1 s.2.2.2.2.2.1 s.2.2.2.2.2.2.1 s.2.2.2.2.2.2.2.1 s.2.2.2.2.2.2.2.2.1 s.2.2.2.2.2.2.2.2.2.1 s.2.2.2.2.2.2.2.2.2.2.1 s.2.2.2.2.2.2.2.2.2.2.2.1 s.2.2.2.2.2.2.2.2.2.2.2.2.1 s.2.2.2.2.2.2.2.2.2.2.2.2.2, fun s => μ s.1 s.2.1 s.2.2.1 s.2.2.2.1 s.2.2.2.2.1 s.2.2.2.2.2.1 s.2.2.2.2.2.2.1 s.2.2.2.2.2.2.2.1 s.2.2.2.2.2.2.2.2.1 s.2.2.2.2.2.2.2.2.2.1 s.2.2.2.2.2.2.2.2.2.2.1 s.2.2.2.2.2.2.2.2.2.2.2.1 s.2.2.2.2.2.2.2.2.2.2.2.2.1 s.2.2.2.2.2.2.2.2.2.2.2.2.2, fun e h => (gI e 1, gXN e 11 0, gXF e 11 0, gXS e 11 0, gXN e 11 1, gXF e 11 1, gXS e 11 1, gXN e 11 2, gXF e 11 2, gXS e 11 2, gXN e 11 3, gXF e 11 3, gXS e 11 3, gI e 12), [], [0, 1, 11, 12], [], fun p => ∀ (x1 : Int) (n11_0 : Bool) (f11_0 : Bool) (s11_0 : List (List PV)) (n11_1 : Bool) (f11_1 : Bool) (s11_1 : List (List PV)) (n11_2 : Bool) (f11_2 : Bool) (s11_2 : List (List PV)) (n11_3 : Bool) (f11_3 : Bool) (s11_3 : List (List PV)) (x12 : Int), p (x1, n11_0, f11_0, s11_0, n11_1, f11_1, s11_1, n11_2, f11_2, s11_2, n11_3, f11_3, s11_3, x12), fun p h s => h s.1 s.2.1 s.2.2.1 s.2.2.2.1 s.2.2.2.2.1 s.2.2.2.2.2.1 s.2.2.2.2.2.2.1 s.2.2.2.2.2.2.2.1 s.2.2.2.2.2.2.2.2.1 s.2.2.2.2.2.2.2.2.2.1 s.2.2.2.2.2.2.2.2.2.2.1 s.2.2.2.2.2.2.2.2.2.2.2.1 s.2.2.2.2.2.2.2.2.2.2.2.2.1 s.2.2.2.2.2.2.2.2.2.2.2.2.2⟩ | 5 => some ⟨Int × Bool × Bool × (List (List PV)) × Bool × Bool × (List (List PV)) × Bool × Bool × (List (List PV)) × Bool × Bool × (List (List PV)) × Int × Bool × Bool × (List (List PV)) × Int × Int, fun s => (fun (x1 : Int) (n11_0 : Bool) (f11_0 : Bool) (s11_0 : List (List PV)) (n11_1 : Bool) (f11_1 : Bool) (s11_1 : List (List PV)) (n11_2 : Bool) (f11_2 : Bool) (s11_2 : List (List PV)) (n11_3 : Bool) (f11_3 : Bool) (s11_3 : List (List PV)) (x12 : Int) (n15 : Bool) (f15 : Bool) (s15 : List (List PV)) (x16 : Int) (x17 : Int) => ([(0, LV.pv (PV.int IntKind.i64 at_)), (1, .pv (.int IntKind.i64 x1)), (11, .pv (.agg [.sl n11_0 f11_0 s11_0, .sl n11_1 f11_1 s11_1, .sl n11_2 f11_2 s11_2, .sl n11_3 f11_3 s11_3])), (12, .pv (.int IntKind.i64 x12)), (15, .pv (.sl n15 f15 s15)), (16, .pv (.int IntKind.i64 x16)), (17, .pv (.int IntKind.i64 x17))], [])) s.1 s.2.1 s.2.2.1 s.2.2.2.1 s.2.2.2.2.1 s.2.2.2.2.2.1 s.2.2.2.2.2.2.1 s.2.2.2.2.2.2.2.1 s.2.2.2.2.2.2.2.2.1 s.2.2.2.2.2.2.2.2.2.1 s.2.2.2.2.2.2.2.2.2.2.1 s.2.2.2.2.2.2.2.2.2.2.2.1 s.2.2.2.2.2.2.2.2.2.2.2.2.1 s.2.2.2.2.2.2.2.2.2.2.2.2.2.1 s.2.2.2.2.2.2.2.2.2.2.2.2.2.2.1 s.2.2.2.2.2.2.2.2.2.2.2.2.2.2.2.1 s.2.2.2.2.2.2.2.2.2.2.2.2.2.2.2.2.1 s.2.2.2.2.2.2.2.2.2.2.2.2.2.2.2.2.2.1 s.2.2.2.2.2.2.2.2.2.2.2.2.2.2.2.2.2.2, fun t s => J2 t.1 t.2.1 t.2.2.1 t.2.2.2.1 t.2.2.2.2.1 t.2.2.2.2.2.1 t.2.2.2.2.2.2.1 t.2.2.2.2.2.2.2.1 t.2.2.2.2.2.2.2.2.1 t.2.2.2.2.2.2.2.2.2.1 t.2.2.2.2.2.2.2.2.2.2.1 t.2.2.2.2.2.2.2.2.2.2.2.1 t.2.2.2.2.2.2.2.2.2.2.2.2.1 t.2.2.2.2.2.2.2.2.2.2.2.2.2.1 t.2.2.2.2.2.2.2.2.2.2.2.2.2.2.1 t.2.2.2.2.2.2.2.2.2.2.2.2.2.2.2.1 t.2.2.2.2.2.2.2.2.2.2.2.2.2.2.2.2.1 t.2.2.2.2.2.2.2.2.2.2.2.2.2.2.2.2.2.1 t.2.2.2.2.2.2.2.2.2.2.2.2.2.2.2.2.2.2 s.1 s.2.1 s.2.2.1 s.2.2.2.1 s.2.2.2.2.1 s.2.2.2.2.2.1 s.2.2.2.2.2.2.1 s.2.2.2.2.2.2.2.1 s.2.2.2.2.2.2.2.2.1 s.2.2.2.2.2.2.2.2.2.1 s.2.2.2.2.2.2.2.2.2.2.1 s.2.2.2.2.2.2.2.2.2.2.2.1 s.2.2.2.2.2.2.2.2.2.2.2.2.1 s.2.2.2.2.2.2.2.2.2.2.2.2.2.1 s.2.2.2.2.2.2.2.2.2.2.2.2.2.2.1 s.2.2.2.2.2.2.2.2.2.2.2.2.2.2.2.1 s.2.2.2.2.2.2.2.2.2.2.2.2.2.2.2.2.1 s.2.2.2.2.2.2.2.2.2.2.2.2.2.2.2.2.2.1 s.2.2.2.2.2.2.2.2.2.2.2.2.2.2.2.2.2.2, fun s => μ2 s.1 s.2.1 s.2.2.1 s.2.2.2.1 s.2.2.2.2.1 s.2.2.2.2.2.1 s.2.2.2.2.2.2.1 s.2.2.2.2.2.2.2.1 s.2.2.2.2.2.2.2.2.1 s.2.2.2.2.2.2.2.2.2.1 s.2.2.2.2.2.2.2.2.2.2.1 s.2.2.2.2.2.2.2.2.2.2.2.1 s.2.2.2.2.2.2.2.2.2.2.2.2.1 s.2.2.2.2.2.2.2.2.2.2.2.2.2.1 s.2.2.2.2.2.2.2.2.2.2.2.2.2.2.1 s.2.2.2.2.2.2.2.2.2.2.2.2.2.2.2.1 s.2.2.2.2.2.2.2.2.2.2.2.2.2.2.2.2.1 s.2.2.2.2.2.2.2.2.2.2.2.2.2.2.2.2.2.1 s.2.2.2.2.2.2.2.2.2.2.2.2.2.2.2.2.2.2, fun e h => (gI e 1, gXN e 11 0, gXF e 11 0, gXS e 11 0, gXN e 11 1, gXF e 11 1, gXS e 11 1, gXN e 11 2, gXF e 11 2, gXS e 11 2, gXN e 11 3, gXF e 11 3, gXS e 11 3, gI e 12, gN e 15, gF e 15, gS e 15, gI e 16, gI e 17), [], [0, 1, 11, 12, 15, 16, 17], [], fun p => ∀ (x1 : Int) (n11_0 : Bool) (f11_0 : Bool) (s11_0 : List (List PV)) (n11_1 : Bool) (f11_1 : Bool) (s11_1 : List (List PV)) (n11_2 : Bool) (f11_2 : Bool) (s11_2 : List (List PV)) (n11_3 : Bool) (f11_3 : Bool) (s11_3 : List (List PV)) (x12 : Int) (n15 : Bool) (f15 : Bool) (s15 : List (List PV)) (x16 : Int) (x17 : Int), p (x1, n11_0, f11_0, s11_0, n11_1, f11_1, s11_1, n11_2, f11_2, s11_2, n11_3, f11_3, s11_3, x12, n15, f15, s15, x16, x17), fun p h s => h s.1 s.2.1 s.2.2.1 s.2.2.2.1 s.2.2.2.2.1 s.2.2.2.2.2.1 s.2.2.2.2.2.2.1 s.2.2.2.2.2.2.2.1 s.2.2.2.2.2.2.2.2.1 s.2.2.2.2.2.2.2.2.2.1 s.2.2.2.2.2.2.2.2.2.2.1 s.2.2.2.2.2.2.2.2.2.2.2.1 s.2.2.2.2.2.2.2.2.2.2.2.2.1 s.2.2.2.2.2.2.2.2.2.2.2.2.2.1 s.2.2.2.2.2.2.2.2.2.2.2.2.2.2.1 s.2.2.2.2.2.2.2.2.2.2.2.2.2.2.2.1 s.2.2.2.2.2.2.2.2.2.2.2.2.2.2.2.2.1 s.2.2.2.2.2.2.2.2.2.2.2.2.2.2.2.2.2.1 s.2.2.2.2.2.2.2.2.2.2.2.2.2.2.2.2.2.2⟩ | _ => none) (Try.f72.body.getD .skip) [.int .i64 at_, .int .i64 last, .agg [.sl n0 f0 e0, .sl n1 f1 e1, .sl n2 f2 e2, .sl n3 f3 e3]] R = r_ucd_upto at_ last n0 f0 n1 f1 n2 f2 n3 f3 e0 e1 e2 e3 J μ J2 μ2 R := by kernel_rfl
theorem a_ucd_upto (at_ last : Int) (n0 f0 n1 f1 n2 f2 n3 f3 : Bool) (e0 e1 e2 e3 : List (List PV)) (J : (Int) → (Bool) → (Bool) → (List (List PV)) → (Bool) → (Bool) → (List (List PV)) → (Bool) → (Bool) → (List (List PV)) → (Bool) → (Bool) → (List (List PV)) → (Int) → Prop) (μ : (Int) → (Bool) → (Bool) → (List (List PV)) → (Bool) → (Bool) → (List (List PV)) → (Bool) → (Bool) → (List (List PV)) → (Bool) → (Bool) → (List (List PV)) → (Int) → Nat) (J2 : (Int) → (Bool) → (Bool) → (List (List PV)) → (Bool) → (Bool) → (List (List PV)) → (Bool) → (Bool) → (List (List PV)) → (Bool) → (Bool) → (List (List PV)) → (Int) → (Bool) → (Bool) → (List (List PV)) → (Int) → (Int) → (Int) → (Bool) → (Bool) → (List (List PV)) → (Bool) → (Bool) → (List (List PV)) → (Bool) → (Bool) → (List (List PV)) → (Bool) → (Bool) → (List (List PV)) → (Int) → (Bool) → (Bool) → (List (List PV)) → (Int) → (Int) → Prop) (μ2 : (Int) → (Bool) → (Bool) → (List (List PV)) → (Bool) → (Bool) → (List (List PV)) → (Bool) → (Bool) → (List (List PV)) → (Bool) → (Bool) → (List (List PV)) → (Int) → (Bool) → (Bool) → (List (List PV)) → (Int) → (Int) → Nat) {R : PV → Prop} (h : r_ucd_upto at_ last n0 f0 n1 f1 n2 f2 n3 f3 e0 e1 e2 e3 J μ J2 μ2 R) : PCall Try.prog 72 [.int .i64 at_, .int .i64 last, .agg [.sl n0 f0 e0, .sl n1 f1 e1, .sl n2 f2 e2, .sl n3 f3 e3]] R :=
  PCall.of Try.func72 (by kernel_rfl) (by kernel_rfl) (Nat.le_of_ble_eq_true (by kernel_rfl)) (Eq.mpr (e_ucd_upto at_ last n0 f0 n1 f1 n2 f2 n3 f3 e0 e1 e2 e3 J μ J2 μ2 R) h)

def r_ucd_truths (n f : Bool) (es : List (List PV)) (J : (Int) → (Int) → (Int) → (Int) → (Int) → (List PV) → Prop) (μ : (Int) → (Int) → (Int) → (Int) → (Int) → (List PV) → Nat) (J2 : (List PV) → (Bool) → (Bool) → (List (List PV)) → (Int) → (Int) → (Bool) → (List (List PV)) → Prop) (μ2 : (List PV) → (Bool) → (Bool) → (List (List PV)) → (Int) → (Int) → (Bool) → (List (List PV)) → Nat) (J3 : (List PV) → (Int) → (Int) → (Bool) → (Bool) → (List (List PV)) → (Int) → (Int) → (Bool) → (Bool) → (List (List PV)) → (Bool) → (Bool) → (List (List PV)) → (Bool) → (Bool) → (List (List PV)) → (Bool) → (Bool) → (List (List PV)) → (Int) → (Bool) → (List (List PV)) → (List PV) → (List PV) → (Int) → (Int) → (Bool) → (Bool) → (List (List PV)) → (Int) → (Int) → (Bool) → (Bool) → (List (List PV)) → (Bool) → (Bool) → (List (List PV)) → (Bool) → (Bool) → (List (List PV)) → (Bool) → (Bool) → (List (List PV)) → (Int) → (Bool) → (List (List PV)) → (List PV) → Prop) (μ3 : (List PV) → (Int) → (Int) → (Bool) → (Bool) → (List (List PV)) → (Int) → (Int) → (Bool) → (Bool) → (List (List PV)) → (Bool) → (Bool) → (List (List PV)) → (Bool) → (Bool) → (List (List PV)) → (Bool) → (Bool) → (List (List PV)) → (Int) → (Bool) → (List (List PV)) → (List PV) → Nat) (R : PV → Prop) : Prop :=
 (4 = 4 ∧ 4 ≤ 4) ∧ ∃ (n1 : Int), some (PV.int .i64 (5 : Int)) = some (PV.int .i64 n1) ∧ ∃ (n2 : Int), some (PV.int .i64 (7 : Int)) = some (PV.int .i64 n2) ∧ ∃ (n3 : Int), some (PV.int .i64 (8 : Int)) = some (PV.int .i64 n3) ∧ ∃ (n4 : Int),
 some (PV.int .i64 (3 : Int)) = some (PV.int .i64 n4) ∧ (Same1 ([(0, LV.pv (PV.sl n f es)), (4, LV.box 0 0), (17, LV.pv (PV.agg [PV.int .i64 n1, PV.int .i64 n2, PV.int .i64 n3, PV.int .i64 n4])), (18, LV.pv (PV.int .i64 (0 : Int)))], [Ob.arr
 [PV.sl true true [], PV.sl true true [], PV.sl true true [], PV.sl true true []]]) ∧ J n1 n2 n3 n4 (0 : Int) [PV.sl true true [], PV.sl true true [], PV.sl true true [], PV.sl true true []]) ∧ ∀ (x17_0 x17_1 x17_2 x17_3 x18 : Int) (c_0 :
 List PV), J x17_0 x17_1 x17_2 x17_3 x18 c_0 → if decide (x18 < (4 : Int)) = true then ((0 : Int) ≤ x18 ∧ x18 < (↑4 : Int) ∧ x18.toNat * 1 + 1 ≤ 4) ∧ ∃ (n5 : Int), [PV.int .i64 x17_0, PV.int .i64 x17_1, PV.int .i64 x17_2, PV.int .i64
 x17_3].getD x18.toNat PV.unit = PV.int .i64 n5 ∧ PCall Try.prog 47 [PV.sl n f es, PV.int .i64 n5] fun (v : PV) ↦ ∃ (n6 : Bool), ∃ (f1 : Bool), ∃ (es1 : List (List PV)), v = PV.sl n6 f1 es1 ∧ ((0 : Int) ≤ x18 ∧ x18 < (↑4 : Int)) ∧ (1 = 1 ∧ 0
 + x18.toNat * 1 + (1 : Nat) ≤ c_0.length) ∧ Same1 ([(0, LV.pv (PV.sl n f es)), (4, LV.box 0 0), (17, LV.pv (PV.agg [PV.int .i64 x17_0, PV.int .i64 x17_1, PV.int .i64 x17_2, PV.int .i64 x17_3])), (18, LV.pv (PV.int .i64 (IntKind.i64.wrap
 (x18 + (1 : Int)))))], [Ob.arr (spl c_0 (0 + x18.toNat * 1) [PV.sl n6 f1 es1])]) ∧ J x17_0 x17_1 x17_2 x17_3 (IntKind.i64.wrap (x18 + (1 : Int))) (spl c_0 (0 + x18.toNat * 1) [PV.sl n6 f1 es1]) ∧ μ x17_0 x17_1 x17_2 x17_3 (IntKind.i64.wrap
 (x18 + (1 : Int))) (spl c_0 (0 + x18.toNat * 1) [PV.sl n6 f1 es1]) < μ x17_0 x17_1 x17_2 x17_3 x18 c_0 else (slOK 4 none none none ∧ c_0.length = 4) ∧ PCall Try.prog 70 [PV.sl false true [List.take 1 c_0, List.take 1 (List.drop 1 c_0),
 List.take 1 (List.drop 1 (List.drop 1 c_0)), List.take 1 (List.drop 1 (List.drop 1 (List.drop 1 c_0)))]] fun (v : PV) ↦ ∃ (n5 : Bool), ∃ (f1 : Bool), ∃ (es1 : List (List PV)), v = PV.sl n5 f1 es1 ∧ (Same1 ([(4, LV.pv (PV.ptr (List.drop 0
 c_0))), (7, LV.own 0), (29, LV.pv (PV.sl n5 f1 es1)), (30, LV.pv (PV.int .i64 (↑es1.length : Int))), (31, LV.pv (PV.int .i64 (0 : Int)))], [Ob.sl (101, 6) true true []]) ∧ J2 (List.drop 0 c_0) n5 f1 es1 (↑es1.length : Int) (0 : Int) true
 []) ∧ ∀ (p4 : List PV) (n29 f29 : Bool) (s29 : List (List PV)) (x30 x31 : Int) (n_0 : Bool) (s_0 : List (List PV)), J2 p4 n29 f29 s29 x30 x31 n_0 s_0 → if decide (x31 < x30) = true then idxOK s29 x31 1 ∧ ∃ (n6 : Int), (s29.getD x31.toNat
 []).head? = some (PV.int .i64 n6) ∧ ∃ (n7 : Bool), ∃ (f2 : Bool), ∃ (es2 : List (List PV)), p4.head? = some (PV.sl n7 f2 es2) ∧ ∃ (n8 : Bool), ∃ (f3 : Bool), ∃ (es3 : List (List PV)), p4.tail.head? = some (PV.sl n8 f3 es3) ∧ ∃ (n9 : Bool),
 ∃ (f4 : Bool), ∃ (es4 : List (List PV)), p4.tail.tail.head? = some (PV.sl n9 f4 es4) ∧ ∃ (n10 : Bool), ∃ (f5 : Bool), ∃ (es5 : List (List PV)), p4.tail.tail.tail.head? = some (PV.sl n10 f5 es5) ∧ (Same1 ([(4, LV.pv (PV.ptr p4)), (7, LV.own
 0), (9, LV.pv (PV.int .i64 n6)), (10, LV.box 1 0), (11, LV.pv (PV.int .i64 (1114111 : Int))), (29, LV.pv (PV.sl n29 f29 s29)), (30, LV.pv (PV.int .i64 x30)), (31, LV.pv (PV.int .i64 x31)), (35, LV.pv (PV.agg [PV.sl n7 f2 es2, PV.sl n8 f3
 es3, PV.sl n9 f4 es4, PV.sl n10 f5 es5])), (36, LV.pv (PV.int .i64 (0 : Int)))], [Ob.sl (101, 6) true n_0 s_0, Ob.arr [PV.bool false, PV.bool false, PV.bool false, PV.bool false]]) ∧ J3 p4 n6 (1114111 : Int) n29 f29 s29 x30 x31 n7 f2 es2 n8
 f3 es3 n9 f4 es4 n10 f5 es5 (0 : Int) n_0 s_0 [PV.bool false, PV.bool false, PV.bool false, PV.bool false] p4 n6 (1114111 : Int) n29 f29 s29 x30 x31 n7 f2 es2 n8 f3 es3 n9 f4 es4 n10 f5 es5 (0 : Int) n_0 s_0 [PV.bool false, PV.bool false,
 PV.bool false, PV.bool false]) ∧ ∀ (p41 : List PV) (x9 x11 : Int) (n291 f291 : Bool) (s291 : List (List PV)) (x301 x311 : Int) (n35_0 f35_0 : Bool) (s35_0 : List (List PV)) (n35_1 f35_1 : Bool) (s35_1 : List (List PV)) (n35_2 f35_2 : Bool)
 (s35_2 : List (List PV)) (n35_3 f35_3 : Bool) (s35_3 : List (List PV)) (x36 : Int) (n_01 : Bool) (s_01 : List (List PV)) (c_1 : List PV), J3 p4 n6 (1114111 : Int) n29 f29 s29 x30 x31 n7 f2 es2 n8 f3 es3 n9 f4 es4 n10 f5 es5 (0 : Int) n_0
 s_0 [PV.bool false, PV.bool false, PV.bool false, PV.bool false] p41 x9 x11 n291 f291 s291 x301 x311 n35_0 f35_0 s35_0 n35_1 f35_1 s35_1 n35_2 f35_2 s35_2 n35_3 f35_3 s35_3 x36 n_01 s_01 c_1 → if decide (x36 < (4 : Int)) = true then ((0 :
 Int) ≤ x36 ∧ x36 < (↑4 : Int) ∧ x36.toNat * 1 + (1 : Nat) ≤ 4) ∧ ∃ (n11 : Bool), ∃ (f6 : Bool), ∃ (es6 : List (List PV)), [PV.sl n35_0 f35_0 s35_0, PV.sl n35_1 f35_1 s35_1, PV.sl n35_2 f35_2 s35_2, PV.sl n35_3 f35_3 s35_3].getD x36.toNat
 PV.unit = PV.sl n11 f6 es6 ∧ PCall Try.prog 71 [PV.sl n11 f6 es6, PV.int .i32 (IntKind.i32.wrap x9)] fun (v1 : PV) ↦ ∃ (vs : List PV), v1 = PV.tup vs ∧ vs.length = 2 ∧ ∃ (x : PV), vs.head? = some x ∧ ∃ (cs : List PV), x = PV.agg cs ∧
 cs.length = 4 ∧ ∃ (n12 : Int), cs.head? = some (PV.int .i64 n12) ∧ ∃ (n13 : Int), cs.tail.head? = some (PV.int .i64 n13) ∧ ∃ (n14 : Int), cs.tail.tail.head? = some (PV.int .i64 n14) ∧ ∃ (n15 : Int), cs.tail.tail.tail.head? = some (PV.int
 .i64 n15) ∧ ∃ (x1 : PV), vs.tail.head? = some x1 ∧ ∃ (b : Bool), x1 = PV.bool b ∧ if b = true then ((0 : Int) ≤ x36 ∧ x36 < (↑4 : Int)) ∧ (1 = 1 ∧ 0 + x36.toNat * 1 + 1 ≤ c_1.length) ∧ if b = true then Same1 ([(4, LV.pv (PV.ptr p41)), (7,
 LV.own 0), (9, LV.pv (PV.int .i64 x9)), (10, LV.box 1 0), (11, LV.pv (PV.int .i64 (if n13 < x11 then n13 else x11))), (29, LV.pv (PV.sl n291 f291 s291)), (30, LV.pv (PV.int .i64 x301)), (31, LV.pv (PV.int .i64 x311)), (35, LV.pv (PV.agg
 [PV.sl n35_0 f35_0 s35_0, PV.sl n35_1 f35_1 s35_1, PV.sl n35_2 f35_2 s35_2, PV.sl n35_3 f35_3 s35_3])), (36, LV.pv (PV.int .i64 (IntKind.i64.wrap (x36 + (1 : Int)))))], [Ob.sl (101, 6) true n_01 s_01, Ob.arr (spl c_1 (0 + x36.toNat * 1)
 [PV.bool (n14 == (1 : Int))])]) ∧ J3 p4 n6 (1114111 : Int) n29 f29 s29 x30 x31 n7 f2 es2 n8 f3 es3 n9 f4 es4 n10 f5 es5 (0 : Int) n_0 s_0 [PV.bool false, PV.bool false, PV.bool false, PV.bool false] p41 x9 (if n13 < x11 then n13 else x11)
 n291 f291 s291 x301 x311 n35_0 f35_0 s35_0 n35_1 f35_1 s35_1 n35_2 f35_2 s35_2 n35_3 f35_3 s35_3 (IntKind.i64.wrap (x36 + (1 : Int))) n_01 s_01 (spl c_1 (0 + x36.toNat * 1) [PV.bool (n14 == (1 : Int))]) ∧ μ3 p41 x9 (if n13 < x11 then n13
 else x11) n291 f291 s291 x301 x311 n35_0 f35_0 s35_0 n35_1 f35_1 s35_1 n35_2 f35_2 s35_2 n35_3 f35_3 s35_3 (IntKind.i64.wrap (x36 + (1 : Int))) n_01 s_01 (spl c_1 (0 + x36.toNat * 1) [PV.bool (n14 == (1 : Int))]) < μ3 p41 x9 x11 n291 f291
 s291 x301 x311 n35_0 f35_0 s35_0 n35_1 f35_1 s35_1 n35_2 f35_2 s35_2 n35_3 f35_3 s35_3 x36 n_01 s_01 c_1 else Same1 ([(4, LV.pv (PV.ptr p41)), (7, LV.own 0), (9, LV.pv (PV.int .i64 x9)), (10, LV.box 1 0), (11, LV.pv (PV.int .i64 x11)), (29,
 LV.pv (PV.sl n291 f291 s291)), (30, LV.pv (PV.int .i64 x301)), (31, LV.pv (PV.int .i64 x311)), (35, LV.pv (PV.agg [PV.sl n35_0 f35_0 s35_0, PV.sl n35_1 f35_1 s35_1, PV.sl n35_2 f35_2 s35_2, PV.sl n35_3 f35_3 s35_3])), (36, LV.pv (PV.int
 .i64 (IntKind.i64.wrap (x36 + (1 : Int)))))], [Ob.sl (101, 6) true n_01 s_01, Ob.arr (spl c_1 (0 + x36.toNat * 1) [PV.bool (n14 == (1 : Int))])]) ∧ J3 p4 n6 (1114111 : Int) n29 f29 s29 x30 x31 n7 f2 es2 n8 f3 es3 n9 f4 es4 n10 f5 es5 (0 :
 Int) n_0 s_0 [PV.bool false, PV.bool false, PV.bool false, PV.bool false] p41 x9 x11 n291 f291 s291 x301 x311 n35_0 f35_0 s35_0 n35_1 f35_1 s35_1 n35_2 f35_2 s35_2 n35_3 f35_3 s35_3 (IntKind.i64.wrap (x36 + (1 : Int))) n_01 s_01 (spl c_1 (0
 + x36.toNat * (1 : Nat)) [PV.bool (n14 == (1 : Int))]) ∧ μ3 p41 x9 x11 n291 f291 s291 x301 x311 n35_0 f35_0 s35_0 n35_1 f35_1 s35_1 n35_2 f35_2 s35_2 n35_3 f35_3 s35_3 (IntKind.i64.wrap (x36 + (1 : Int))) n_01 s_01 (spl c_1 (0 + x36.toNat *
 1) [PV.bool (n14 == (1 : Int))]) < μ3 p41 x9 x11 n291 f291 s291 x301 x311 n35_0 f35_0 s35_0 n35_1 f35_1 s35_1 n35_2 f35_2 s35_2 n35_3 f35_3 s35_3 x36 n_01 s_01 c_1 else ((0 : Int) ≤ x36 ∧ x36 < (↑4 : Int)) ∧ ((1 : Nat) = 1 ∧ 0 + x36.toNat *
 1 + 1 ≤ c_1.length) ∧ if b = true then Same1 ([(4, LV.pv (PV.ptr p41)), (7, LV.own 0), (9, LV.pv (PV.int .i64 x9)), (10, LV.box 1 0), (11, LV.pv (PV.int .i64 (if n13 < x11 then n13 else x11))), (29, LV.pv (PV.sl n291 f291 s291)), (30, LV.pv
 (PV.int .i64 x301)), (31, LV.pv (PV.int .i64 x311)), (35, LV.pv (PV.agg [PV.sl n35_0 f35_0 s35_0, PV.sl n35_1 f35_1 s35_1, PV.sl n35_2 f35_2 s35_2, PV.sl n35_3 f35_3 s35_3])), (36, LV.pv (PV.int .i64 (IntKind.i64.wrap (x36 + (1 : Int)))))],
 [Ob.sl (101, 6) true n_01 s_01, Ob.arr (spl c_1 (0 + x36.toNat * 1) [PV.bool false])]) ∧ J3 p4 n6 (1114111 : Int) n29 f29 s29 x30 x31 n7 f2 es2 n8 f3 es3 n9 f4 es4 n10 f5 es5 (0 : Int) n_0 s_0 [PV.bool false, PV.bool false, PV.bool false,
 PV.bool false] p41 x9 (if n13 < x11 then n13 else x11) n291 f291 s291 x301 x311 n35_0 f35_0 s35_0 n35_1 f35_1 s35_1 n35_2 f35_2 s35_2 n35_3 f35_3 s35_3 (IntKind.i64.wrap (x36 + (1 : Int))) n_01 s_01 (spl c_1 (0 + x36.toNat * (1 : Nat))
 [PV.bool false]) ∧ μ3 p41 x9 (if n13 < x11 then n13 else x11) n291 f291 s291 x301 x311 n35_0 f35_0 s35_0 n35_1 f35_1 s35_1 n35_2 f35_2 s35_2 n35_3 f35_3 s35_3 (IntKind.i64.wrap (x36 + (1 : Int))) n_01 s_01 (spl c_1 ((0 : Nat) + x36.toNat *
 1) [PV.bool false]) < μ3 p41 x9 x11 n291 f291 s291 x301 x311 n35_0 f35_0 s35_0 n35_1 f35_1 s35_1 n35_2 f35_2 s35_2 n35_3 f35_3 s35_3 x36 n_01 s_01 c_1 else Same1 ([(4, LV.pv (PV.ptr p41)), ((7 : Nat), LV.own 0), (9, LV.pv (PV.int .i64 x9)),
 (10, LV.box 1 0), (11, LV.pv (PV.int .i64 x11)), (29, LV.pv (PV.sl n291 f291 s291)), (30, LV.pv (PV.int .i64 x301)), (31, LV.pv (PV.int .i64 x311)), (35, LV.pv (PV.agg [PV.sl n35_0 f35_0 s35_0, PV.sl n35_1 f35_1 s35_1, PV.sl n35_2 f35_2
 s35_2, PV.sl n35_3 f35_3 s35_3])), (36, LV.pv (PV.int .i64 (IntKind.i64.wrap (x36 + (1 : Int)))))], [Ob.sl (101, 6) true n_01 s_01, Ob.arr (spl c_1 (0 + x36.toNat * 1) [PV.bool false])]) ∧ J3 p4 n6 (1114111 : Int) n29 f29 s29 x30 x31 n7 f2
 es2 n8 f3 es3 n9 f4 es4 n10 f5 es5 (0 : Int) n_0 s_0 [PV.bool false, PV.bool false, PV.bool false, PV.bool false] p41 x9 x11 n291 f291 s291 x301 x311 n35_0 f35_0 s35_0 n35_1 f35_1 s35_1 n35_2 f35_2 s35_2 n35_3 f35_3 s35_3 (IntKind.i64.wrap
 (x36 + (1 : Int))) n_01 s_01 (spl c_1 (0 + x36.toNat * 1) [PV.bool false]) ∧ μ3 p41 x9 x11 n291 f291 s291 x301 x311 n35_0 f35_0 s35_0 n35_1 f35_1 s35_1 n35_2 f35_2 s35_2 n35_3 f35_3 s35_3 (IntKind.i64.wrap (x36 + (1 : Int))) n_01 s_01 (spl
 c_1 (0 + x36.toNat * 1) [PV.bool false]) < μ3 p41 x9 x11 n291 f291 s291 x301 x311 n35_0 f35_0 s35_0 n35_1 f35_1 s35_1 n35_2 f35_2 s35_2 n35_3 f35_3 s35_3 x36 n_01 s_01 c_1 else ∃ (b : Bool), (List.drop 0 c_1).head? = some (PV.bool b) ∧ ∃
 (b1 : Bool), (List.drop 0 c_1).tail.head? = some (PV.bool b1) ∧ ∃ (b2 : Bool), (List.drop 0 c_1).tail.tail.head? = some (PV.bool b2) ∧ ∃ (b3 : Bool), (List.drop 0 c_1).tail.tail.tail.head? = some (PV.bool b3) ∧ if (bif false then b == false
 && (b1 == false && (b2 == false && (b3 == false && true))) else !(b == false && (b1 == false && (b2 == false && (b3 == false && true))))) = true then ∃ (n11 : Bool), ∃ (f6 : Bool), ∃ (es6 : List (List PV)), p41.head? = some (PV.sl n11 f6
 es6) ∧ ∃ (n12 : Bool), ∃ (f7 : Bool), ∃ (es7 : List (List PV)), p41.tail.head? = some (PV.sl n12 f7 es7) ∧ ∃ (n13 : Bool), ∃ (f8 : Bool), ∃ (es8 : List (List PV)), p41.tail.tail.head? = some (PV.sl n13 f8 es8) ∧ ∃ (n14 : Bool), ∃ (f9 :
 Bool), ∃ (es9 : List (List PV)), p41.tail.tail.tail.head? = some (PV.sl n14 f9 es9) ∧ ((0 : Int) ≤ (0 : Int) ∧ (0 : Int) < (↑4 : Int)) ∧ ∃ (b4 : Bool), (List.drop 0 c_1).head? = some (PV.bool b4) ∧ ((0 : Int) ≤ (1 : Int) ∧ (1 : Int) < (↑4 :
 Int)) ∧ ∃ (b5 : Bool), (List.drop 1 c_1).head? = some (PV.bool b5) ∧ ((0 : Int) ≤ (2 : Int) ∧ (2 : Int) < (↑4 : Int)) ∧ ∃ (b6 : Bool), (List.drop 2 c_1).head? = some (PV.bool b6) ∧ ((0 : Int) ≤ (3 : Int) ∧ (3 : Int) < (↑4 : Int)) ∧ ∃ (b7 :
 Bool), (List.drop 3 c_1).head? = some (PV.bool b7) ∧ PCall Try.prog 72 [PV.int .i64 x9, PV.int .i64 x11, PV.agg [PV.sl n11 f6 es6, PV.sl n12 f7 es7, PV.sl n13 f8 es8, PV.sl n14 f9 es9]] fun (v1 : PV) ↦ ∃ (n15 : Int), v1 = PV.int .i64 n15 ∧
 (szOK [[PV.int .i64 x9, PV.int .i64 n15, PV.bool b4, PV.bool b5, PV.bool b6, PV.bool b7]] 6 ∧ (s_01.length + 1) * 24 ≤ 140737488355328) ∧ Same1 ([(4, LV.pv (PV.ptr p41)), (7, LV.own 0), (29, LV.pv (PV.sl n291 f291 s291)), (30, LV.pv (PV.int
 .i64 x301)), (31, LV.pv (PV.int .i64 (IntKind.i64.wrap (x311 + (1 : Int)))))], [Ob.sl (101, 6) true (n_01 && false) (s_01 ++ [[PV.int .i64 x9, PV.int .i64 n15, PV.bool b4, PV.bool b5, PV.bool b6, PV.bool b7]])]) ∧ J2 p41 n291 f291 s291 x301
 (IntKind.i64.wrap (x311 + (1 : Int))) (n_01 && false) (s_01 ++ [[PV.int .i64 x9, PV.int .i64 n15, PV.bool b4, PV.bool b5, PV.bool b6, PV.bool b7]]) ∧ μ2 p41 n291 f291 s291 x301 (IntKind.i64.wrap (x311 + (1 : Int))) (n_01 && false) (s_01 ++
 [[PV.int .i64 x9, PV.int .i64 n15, PV.bool b4, PV.bool b5, PV.bool b6, PV.bool b7]]) < μ2 p4 n29 f29 s29 x30 x31 n_0 s_0 else Same1 ([(4, LV.pv (PV.ptr p41)), (7, LV.own 0), (29, LV.pv (PV.sl n291 f291 s291)), (30, LV.pv (PV.int .i64
 x301)), (31, LV.pv (PV.int .i64 (IntKind.i64.wrap (x311 + (1 : Int)))))], [Ob.sl (101, 6) true n_01 s_01]) ∧ J2 p41 n291 f291 s291 x301 (IntKind.i64.wrap (x311 + (1 : Int))) n_01 s_01 ∧ μ2 p41 n291 f291 s291 x301 (IntKind.i64.wrap (x311 +
 (1 : Int))) n_01 s_01 < μ2 p4 n29 f29 s29 x30 x31 n_0 s_0 else PCall Try.prog 73 [PV.int .i64 (1114112 : Int), PV.agg [PV.bool false, PV.bool false, PV.bool false, PV.bool false], PV.sl n_0 false s_0] fun (v1 : PV) ↦ R v1
theorem e_ucd_truths (n f : Bool) (es : List (List PV)) (J : (Int) → (Int) → (Int) → (Int) → (Int) → (List PV) → Prop) (μ : (Int) → (Int) → (Int) → (Int) → (Int) → (List PV) → Nat) (J2 : (List PV) → (Bool) → (Bool) → (List (List PV)) → (Int) → (Int) → (Bool) → (List (List PV)) → Prop) (μ2 : (List PV) → (Bool) → (Bool) → (List (List PV)) → (Int) → (Int) → (Bool) → (List (List PV)) → Nat) (J3 : (List PV) → (Int) → (Int) → (Bool) → (Bool) → (List (List PV)) → (Int) → (Int) → (Bool) → (Bool) → (List (List PV)) → (Bool) → (Bool) → (List (List PV)) → (Bool) → (Bool) → (List (List PV)) → (Bool) → (Bool) → (List (List PV)) → (Int) → (Bool) → (List (List PV)) → (List PV) → (List PV) → (Int) → (Int) → (Bool) → (Bool) → (List (List PV)) → (Int) → (Int) → (Bool) → (Bool) → (List (List PV)) → (Bool) → (Bool) → (List (List PV)) → (Bool) → (Bool) → (List (List PV)) → (Bool) → (Bool) → (List (List PV)) → (Int) → (Bool) → (List (List PV)) → (List PV) → Prop) (μ3 : (List PV) → (Int) → (Int) → (Bool) → (Bool) → (List (List PV)) → (Int) → (Int) → (Bool) → (Bool) → (List (List PV)) → (Bool) → (Bool) → (List (List PV)) → (Bool) → (Bool) → (List (List PV)) → (Bool) → (Bool) → (List (List PV)) → (Int) → (Bool) → (List (List PV)) → (List PV) → Nat) (R : PV → Prop) : aFn Try.prog (fun _ => none) Try.f46 [0, 2, 3, 4, 5, 6, 7, 9, 10, 11, 12, 13, 14, 15, 17, 18, 19, 29, 30, 31, 32, 35, 36, 37, 55, 63] (fun zz_ => match zz_ with | 4 => some ⟨Int × Int × Int × Int × Int × (List PV), fun s => (fun (x17_0 : Int) (x17_1 : Int) (x17_2 : Int) (x17_3 : Int) (x18 : Int) (c_0 : List PV) => ([(0, LV.pv (PV.sl n f es)), (4, LV.box 0 0), (17, .pv (.agg [.int IntKind.i64 x17_0, .int IntKind.i64 x17_1, .int IntKind.i64 x17_2, .int IntKind.i64 x17_3])), (18, .pv (.int IntKind.i64 x18))], [.arr c_0])) s.1 s.2.1 s.2.2.1 s.2.2.2.1 s.2.2.2.2.1 s.2.2.2.2.2, fun _ s => J s.1 s.2.1 s.2.2.1 s.2.2.2.1 s.2.2.2.2.1 s.2.2.2.2.2, fun s => μ s.1 s.2.1 s.2.2.1 s.2.2.2.1 s.2.2.2.2.1 s.2.2.2.2.2, fun e h => (gC e 17 0, gC e 17 1, gC e 17 2, gC e 17 3, gI e 18, oA h 0), [], [0, 4, 17, 18], [], fun p => ∀ (x17_0 : Int) (x17_1 : Int) (x17_2 : Int) (x17_3 : Int) (x18 : Int) (c_0 : List PV), p (x17_0, x17_1, x17_2, x17_3, x18, c_0), fun p h s => h s.1 s.2.1 s.2.2.1 s.2.2.2.1 s.2.2.2.2.1 s.2.2.2.2.2⟩ | 10 => some ⟨(List PV) × Bool × Bool × (List (List PV)) × Int × Int × Bool × (List (List PV)), fun s => (fun (p4 : List PV) (n29 : Bool) (f29 : Bool) (s29 : List (List PV)) (x30 : Int) (x31 : Int) (n_0 : Bool) (s_0 : List (List PV)) => ([(4, .pv (.ptr p4)), (7, LV.own 0), (29, .pv (.sl n29 f29 s29)), (30, .pv (.int IntKind.i64 x30)), (31, .pv (.int IntKind.i64 x31))], [.sl (101, 6) true n_0 s_0])) s.1 s.2.1 s.2.2.1 s.2.2.2.1 s.2.2.2.2.1 s.2.2.2.2.2.1 s.2.2.2.2.2.2.1 s.2.2.2.2.2.2.2, fun _ s => J2 s.1 s.2.1 s.2.2.1 s.2.2.2.1 s.2.2.2.2.1 s.2.2.2.2.2.1 s.2.2.2.2.2.2.1 s.2.2.2.2.2.2.2, fun s => μ2 s.1 s.2.1 s.2.2.1 s.2.2.2.1 s.2.2.2.2.1 s.2.2.2.2.2.1 s.2.2.2.2.2.2.1 s.2.2.2.2.2.2.2, fun e h => (gR e 4, gN e 29, gF e 29, gS e 29, gI e 30, gI e 31, oN h 0, oS h 0), [(7, 101, 6)], [4, 7, 29, 30, 31], [], fun p => ∀ (p4 : List PV) (n29 : Bool) (f29 : Bool) (s29 : List (List PV)) (x30 : Int) (x31 : Int) (n_0 : Bool) (s_0 : List (List PV)), p (p4, n29, f29, s29, x30, x31, n_0, s_0), fun p h s => h s.1 s.2.1 s.2.2.1 s.2.2.2.1 s.2.2.2.2.1 s.2.2.2.2.2.1 s.2.2.2.2.2.2.1 s.2.2.2.2.2.2.2⟩ | 15 => some ⟨(List PV) × Int × Int × Bool × Bool × (List (List PV)) × Int × Int × Bool × Bool × (List (List PV)) × Bool × Bool × (List (List PV)) × Bool × Bool × (List (List PV)) × Bool × Bool × (List (List PV)) × Int × Bool × (List (List PV)) × (List PV), fun s => (fun (p4 : List PV) (x9 : Int) (x11 : Int) (n29 : Bool) (f29 : Bool) (s29 : List (List PV)) (x30 : Int) (x31 : Int) (n35_0 : Bool) (f35_0 : Bool) (s35_0 : List (List PV)) (n35_1 : Bool) (f35_1 : Bool) (s35_1 : List (List PV)) (n35_2 : Bool) (f35_2 : Bool) (s35_2 : List (List PV)) (n35_3 : Bool) (f35_3 : Bool) (s35_3 : List (List PV)) (x36 : Int) (n_0 : Bool) (s_0 : List (List PV)) (c_1 : List PV) => ([(4, .pv (.ptr p4)), (7, LV.own 0), (9, .pv (.int IntKind.i64 x9)), (10, LV.box 1 0), (11, .pv (.int IntKind.i64 x11)), (29, .pv (.sl n29 f29 s29)), (30, .pv (.int IntKind.i64 x30)), (31, .pv (.int IntKind.i64 x31)), (35, .pv (.agg [.sl n35_0 f35_0 s35_0, .sl n35_1 f35_1 s35_1, .sl n35_2 f35_2 s35_2, .sl n35_3 f35_3 s35_3])), (36, .pv (.int IntKind.i64 x36))], [.sl (101, 6) true n_0 s_0, .arr c_1])) s.1 s.2.1 s.2.2.1 s.2.2.2.1 s.2.2.2.2.1 s.2.2.2.2.2.1 s.2.2.2.2.2.2.1 s.2.2.2.2.2.2.2.1 s.2.2.2.2.2.2.2.2.1 s.2.2.2.2.2.2.2.2.2.1 s.2.2.2.2.2.2.2.2.2.2.1 s.2.2.2.2.2.2.2.2.2.2.2.1 s.2.2.2.2.2.2.2.2.2.2.2.2.1 s.2.2.2.2.2.2.2.2.2.2.2.2.2.1 s.2.2.2.2.2.2.2.2.2.2.2.2.2.2.1 s.2.2.2.2.2.2.2.2.2.2.2.2.2.2.2.1 s.2.2.2.2.2.2.2.2.2.2.2.2.2.2.2.2.1 s.2.2.2.2.2.2.2.2.2.2.2.2.2.2.2.2.2.1 s.2.2.2.2.2.2.2.2.2.2.2.2.2.2.2.2.2.2.1 s.2.2.2.2.2.2.2.2.2.2.2.2.2.2.2.2.2.2.2.1 s.2.2.2.2.2.2.2.2.2.2.2.2.2.2.2.2.2.2.2.2.1 s.2.2.2.2.2.2.2.2.2.2.2.2.2.2.2.2.2.2.2.2.2.1 s.2.2.2.2.2.2.2.2.2.2.2.2.2.2.2.2.2.2.2.2.2.2.1 s.2.2.2.2.2.2.2.2.2.2.2.2.2.2.2.2.2.2.2.2.2.2.2, fun t s => J3 t.1 t.2.1 t.2.2.1 t.2.2.2.1 t.2.2.2.2.1 t.2.2.2.2.2.1 t.2.2.2.2.2.2.1 t.2.2.2.2.2.2.2.1 t.2.2.2.2.2.2.2.2.1 t.2.2.2.2.2.2.2.2.2.1 t.2.2.2.2.2.2.2.2.2.2.1 t.2.2.2.2.2.2.2.2.2.2.2.1 t.2.2.2.2.2.2.2.2.2.2.2.2.1 t.2.2.2.2.2.2.2.2.2.2.2.2.2.1 t.2.2.2.2.2.2.2.2.2.2.2.2.2.2.1 t.2.2.2.2.2.2.2.2.2.2.2.2.2.2.2.1 t.2.2.2.2.2.2.2.2.2.2.2.2.2.2.2.2.1 t.2.2.2.2.2.2.2.2.2.2.2.2.2.2.2.2.2.1 t.2.2.2.2.2.2.2.2.2.2.2.2.2.2.2.2.2.2.1 t.2.2.2.2.2.2.2.2.2.2.2.2.2.2.2.2.2.2.2.1 t.2.2.2.2.2.2.2.2.2.2.2.2.2.2.2.2.2.2.2.2.1 t.2.2.2.2.2.2.2.2.2.2.2.2.2.2.2.2.2.2.2.2.2.1 t.2.2.2.2.2.2.2.2.2.2.2.2.2.2.2.2.2.2.2.2.2.2.1 t.2.2.2.2.2.2.2.2.2.2.2.2.2.2.2.2.2.2.2.2.2.2.2 s.1 s.2.1 s.2.2.1 s.2.2.2.1 s.2.2.2.2.1 s.2.2.2.2.2.1 s.2.2.2.2.2.2.1 s.2.2.2.2.2.2.2.1 s.2.2.2.2.2.2.2.2.1 s.2.2.2.2.2.2.2.2.2.1 s.2.2.2.2.2.2.2.2.2.2.1 s.2.2.2.2.2.2.2.2.2.2.2.1 s.2.2.2.2.2.2.2.2.2.2.2.2.1 s.2.2.2.2.2.2.2.2.2.2.2.2.2.1 s.2.2.2.2.2.2.2.2.2.2.2.2.2.2.1 s.2.2.2.2.2.2.2.2.2.2.2.2.2.2.2.1 s.2.2.2.2.2.2.2.2.2.2.2.2.2.2.2.2.1 s.2.2.2.2.2.2.2.2.2.2.2.2.2.2.2.2.2.1 s.2.2.2.2.2.2.2.2.2.2.2.2.2.2.2.2.2.2.1 s.2.2.2.2.2.2.2.2.2.2.2.2.2.2.2.2.2.2.2.1 s.2.2.2.2.2.2.2.2.2.2.2.2.2.2.2.2.2.2.2.2.1 s.2.2.2.2.2.2.2.2.2.2.2.2.2.2.2.2.2.2.2.2.2.1 s.2.2.2.2.2.2.2.2.2.2.2.2.2.2.2.2.2.2.2.2.2.2.1 s.2.2.2.2.2.2.2.2.2.2.2.2.2.2.2.2.2.2.2.2.2.2.2, fun s => μ3 s.1 s.2.1 s.2.2.1 s.2.2.2.1 s.2.2.2.2.1 s.2.2.2.2.2.1 s.2.2.2.2.2.2.1 s.2.2.2.2.2.2.2.1 s.2.2.2.2.2.2.2.2.1 s.2.2.2.2.2.2.2.2.2.1 s.2.2.2.2.2.2.2.2.2.2.1 s.2.2.2.2.2.2.2.2.2.2.2.1 s.2.2.2.2.2.2.2.2.2.2.2.2.1 s.2.2.2.2.2.2.2.2.2.2.2.2.2.1 s.2.2.2.2.2.2.2.2.2.2.2.2.2.2.1 s.2.2.2.2.2.2.2.2.2.2.2.2.2.2.2.1 s.2.2.2.2.2.2.2.2.2.2.2.2.2.2.2.2.1 s.2.2.2.2.2.2.2.2.2.2.2.2.2.2.2.2.2.1 s.2.2.2.2.2.2.2.2.2.2.2.2.2.2.2.2.2.2.1 s.2.2.2.2.2.2.2.2.2.2.2.2.2.2.2.2.2.2.2.1 s.2.2.2.2.2.2.2.2.2.2.2.2.2.2.2.2.2.2.2.2.1 s.2.2.2.2.2.2.2.2.2.2.2.2.2.2.2.2.2.2.2.2.2.1 s.2.2.2.2.2.2.2.2.2.2.2.2.2.2.2.2.2.2.2.2.2.2.1 s.2.2.2.2.2.2.2.2.2.2.2.2.2.2.2.2.2.2.2.2.2.2.2, fun e h => (gR e 4, gI e 9, gI e 11, gN e 29, gF e 29, gS e 29, gI e 30, gI e 31, gXN e 35 0, gXF e 35 0, gXS e 35 0, gXN e 35 1, gXF e 35 1, gXS e 35 1, gXN e 35 2, gXF e 35 2, gXS e 35 2, gXN e 35 3, gXF e 35 3, gXS e 35 3, gI e 36, oN h 0, oS h 0, oA h 1), [], [4, 7, 9, 10, 11, 29, 30, 31, 35, 36], [], fun p => ∀ (p4 : List PV) (x9 : Int) (x11 : Int) (n29 : Bool) (f29 : Bool) (s29 : List (List PV)) (x30 : Int) (x31 : Int) (n35_0 : Bool) (f35_0 : Bool) (s35_0 : List (List PV)) (n35_1 : Bool) (f35_1 : Bool) (s35_1 : List (List PV)) (n35_2 : Bool) (f35_2 : Bool) (s35_2 : List (List PV)) (n35_3 : Bool) (f35_3 : Bool) (s35_3 : List (List PV)) (x36 : Int) (n_0 : Bool) (s_0 : List (List PV)) (c_1 : List PV), p (p4, x9, x11, n29, f29, s29, x30, x31, n35_0, f35_0, s35_0, n35_1, f35_1, s35_1, n35_2, f35_2, s35_2, n35_3, f35_3, s35_3, x36, n_0, s_0, c_1), fun p h s => h s.1 s.2.1 s.2.2.1 s.2.2.2.1 s.2.2.2.2.1 s.2.2.2.2.2.1 s.2.2.2.2.2.2.1 s.2.2.2.2.2.2.2.1 s.2.2.2.2.2.2.2.2.1 s.2.2.2.2.2.2.2.2.2.1 s.2.2.2.2.2.2.2.2.2.2.1 s.2.2.2.2.2.2.2.2.2.2.2.1 s.2.2.2.2.2.2.2.2.2.2.2.2.1 s.2.2.2.2.2.2.2.2.2.2.2.2.2.1 s.2.2.2.2.2.2.2.2.2.2.2.2.2.2.1 s.2.2.2.2.2.2.2.2.2.2.2.2.2.2.2.1 s.2.2.2.2.2.2.2.2.2.2.2.2.2.2.2.2.1 s.2.2.2.2.2.2.2.2.2.2.2.2.2.2.2.2.2.1 s.2.2.2.2.2.2.2.2.2.2.2.2.2.2.2.2.2.2.1 s.2.2.2.2.2.2.2.2.2.2.2.2.2.2.2.2.2.2.2.1 s.2.2.2.2.2.2.2.2.2.2.2.2.2.2.2.2.2.2.2.2.1 s.2.2.2.2.2.2.2.2.2.2.2.2.2.2.2.2.2.2.2.2.2.1 s.2.2.2.2.2.2.2.2.2.2.2.2.2.2.2.2.2.2.2.2.2.2.1 s.2.2.2.2.2.2.2.2.2.2.2.2.2.2.2.2.2.2.2.2.2.2.2⟩ | _ => none) (Try.f46.body.getD .skip) [.sl n f es] R = r_ucd_truths n f es J μ J2 μ2 J3 μ3 R := by kernel_rfl
theorem a_ucd_truths (n f : Bool) (es : List (List PV)) (J : (Int) → (Int) → (Int) → (Int) → (Int) → (List PV) → Prop) (μ : (Int) → (Int) → (Int) → (Int) → (Int) → (List PV) → Nat) (J2 : (List PV) → (Bool) → (Bool) → (List (List PV)) → (Int) → (Int) → (Bool) → (List (List PV)) → Prop) (μ2 : (List PV) → (Bool) → (Bool) → (List (List PV)) → (Int) → (Int) → (Bool) → (List (List PV)) → Nat) (J3 : (List PV) → (Int) → (Int) → (Bool) → (Bool) → (List (List PV)) → (Int) → (Int) → (Bool) → (Bool) → (List (List PV)) → (Bool) → (Bool) → (List (List PV)) → (Bool) → (Bool) → (List (List PV)) → (Bool) → (Bool) → (List (List PV)) → (Int) → (Bool) → (List (List PV)) → (List PV) → (List PV) → (Int) → (Int) → (Bool) → (Bool) → (List (List PV)) → (Int) → (Int) → (Bool) → (Bool) → (List (List PV)) → (Bool) → (Bool) → (List (List PV)) → (Bool) → (Bool) → (List (List PV)) → (Bool) → (Bool) → (List (List PV)) → (Int) → (Bool) → (List (List PV)) → (List PV) → Prop) (μ3 : (List PV) → (Int) → (Int) → (Bool) → (Bool) → (List (List PV)) → (Int) → (Int) → (Bool) → (Bool) → (List (List PV)) → (Bool) → (Bool) → (List (List PV)) → (Bool) → (Bool) → (List (List PV)) → (Bool) → (Bool) → (List (List PV)) → (Int) → (Bool) → (List (List PV)) → (List PV) → Nat) {R : PV → Prop} (h : r_ucd_truths n f es J μ J2 μ2 J3 μ3 R) : PCall Try.prog 46 [.sl n f es] R :=
  PCall.of Try.func46 (by kernel_rfl) (by kernel_rfl) (Nat.le_of_ble_eq_true (by kernel_rfl)) (Eq.mpr (e_ucd_truths n f es J μ J2 μ2 J3 μ3 R) h)

def r_ucd_Tables_Class (tc tg tj tf tp : PV) (M S : List (PV × PV)) (r : Int) (R : PV → Prop) : Prop :=
 (∃ (ps : List PV), some tc = some (PV.ptr ps) ∧ PCall Try.prog 83 [PV.ptr ps, PV.int .i64 (IntKind.i64.wrap r)] fun (v : PV) ↦ ∃ (n : Int), v = PV.int .i64 n ∧ R (PV.int .i64 n)) ∨ some tc = some PV.nilp ∧ PCall Try.prog 83 [PV.nilp, PV.int
 .i64 (IntKind.i64.wrap r)] fun (v : PV) ↦ ∃ (n : Int), v = PV.int .i64 n ∧ R (PV.int .i64 n)
theorem e_ucd_Tables_Class (tc tg tj tf tp : PV) (M S : List (PV × PV)) (r : Int) (R : PV → Prop) : aFn Try.prog (fun _ => none) Try.f56 [0, 1, 4, 6] (fun _ => none) (Try.f56.body.getD .skip) [.ptr [tc, tg, tj, tf, tp, .mp M, .mp S], .int .i32 r] R = r_ucd_Tables_Class tc tg tj tf tp M S r R := by kernel_rfl
theorem a_ucd_Tables_Class (tc tg tj tf tp : PV) (M S : List (PV × PV)) (r : Int) {R : PV → Prop} (h : r_ucd_Tables_Class tc tg tj tf tp M S r R) : PCall Try.prog 56 [.ptr [tc, tg, tj, tf, tp, .mp M, .mp S], .int .i32 r] R :=
  PCall.of Try.func56 (by kernel_rfl) (by kernel_rfl) (Nat.le_of_ble_eq_true (by kernel_rfl)) (Eq.mpr (e_ucd_Tables_Class tc tg tj tf tp M S r R) h)

def r_ucd_Tables_Pair (tc tg tj tf tp : PV) (M S : List (PV × PV)) (r : Int) (R : PV → Prop) : Prop :=
 (∃ (ps : List PV), some tp = some (PV.ptr ps) ∧ PCall Try.prog 49 [PV.ptr ps, PV.int .i64 (IntKind.i64.wrap r)] fun (v : PV) ↦ ∃ (cs : List PV), v = PV.agg cs ∧ cs.length = 2 ∧ ∃ (n : Int), cs.head? = some (PV.int .i32 n) ∧ ∃ (n1 : Int),
 cs.tail.head? = some (PV.int .i32 n1) ∧ R (PV.tup [PV.int .i32 n, PV.int .i32 n1, PV.bool (bif false then n == (0 : Int) && (n1 == (0 : Int) && true) else !(n == (0 : Int) && (n1 == (0 : Int) && true)))])) ∨ some tp = some PV.nilp ∧ PCall
 Try.prog 49 [PV.nilp, PV.int .i64 (IntKind.i64.wrap r)] fun (v : PV) ↦ ∃ (cs : List PV), v = PV.agg cs ∧ cs.length = 2 ∧ ∃ (n : Int), cs.head? = some (PV.int .i32 n) ∧ ∃ (n1 : Int), cs.tail.head? = some (PV.int .i32 n1) ∧ R (PV.tup [PV.int
 .i32 n, PV.int .i32 n1, PV.bool (bif false then n == (0 : Int) && (n1 == (0 : Int) && true) else !(n == (0 : Int) && (n1 == (0 : Int) && true)))])
theorem e_ucd_Tables_Pair (tc tg tj tf tp : PV) (M S : List (PV × PV)) (r : Int) (R : PV → Prop) : aFn Try.prog (fun _ => none) Try.f81 [0, 1, 4, 5, 6, 7, 9] (fun _ => none) (Try.f81.body.getD .skip) [.ptr [tc, tg, tj, tf, tp, .mp M, .mp S], .int .i32 r] R = r_ucd_Tables_Pair tc tg tj tf tp M S r R := by kernel_rfl
theorem a_ucd_Tables_Pair (tc tg tj tf tp : PV) (M S : List (PV × PV)) (r : Int) {R : PV → Prop} (h : r_ucd_Tables_Pair tc tg tj tf tp M S r R) : PCall Try.prog 81 [.ptr [tc, tg, tj, tf, tp, .mp M, .mp S], .int .i32 r] R :=
  PCall.of Try.func81 (by kernel_rfl) (by kernel_rfl) (Nat.le_of_ble_eq_true (by kernel_rfl)) (Eq.mpr (e_ucd_Tables_Pair tc tg tj tf tp M S r R) h)

def r_ucd_Tables_Out (tc tg tj tf tp : PV) (M S : List (PV × PV)) (r : Int) (R : PV → Prop) : Prop :=
 PCall Try.prog 81 [PV.ptr [tc, tg, tj, tf, tp, PV.mp M, PV.mp S], PV.int .i32 r] fun (v : PV) ↦ ∃ (vs : List PV), v = PV.tup vs ∧ vs.length = 3 ∧ ∃ (x : PV), vs.head? = some x ∧ ∃ (n : Int), x = PV.int .i32 n ∧ ∃ (x1 : PV), vs.tail.head? =
 some x1 ∧ ∃ (n1 : Int), x1 = PV.int .i32 n1 ∧ ∃ (x2 : PV), vs.tail.tail.head? = some x2 ∧ ∃ (b : Bool), x2 = PV.bool b ∧ if b = true then if (n1 == (0 : Int)) = true then R (PV.bool true) else (∃ (ps : List PV), some tf = some (PV.ptr ps) ∧
 PCall Try.prog 82 [PV.ptr ps, PV.int .i64 (IntKind.i64.wrap r)] fun (v1 : PV) ↦ ∃ (cs : List PV), v1 = PV.agg cs ∧ cs.length = 4 ∧ ∃ (b1 : Bool), cs.head? = some (PV.bool b1) ∧ ∃ (b2 : Bool), cs.tail.head? = some (PV.bool b2) ∧ ∃ (b3 :
 Bool), cs.tail.tail.head? = some (PV.bool b3) ∧ ∃ (b4 : Bool), cs.tail.tail.tail.head? = some (PV.bool b4) ∧ if b4 = true then R (PV.bool true) else PCall Try.prog 56 [PV.ptr [tc, tg, tj, tf, tp, PV.mp M, PV.mp S], PV.int .i32 r] fun (v2 :
 PV) ↦ ∃ (n2 : Int), v2 = PV.int .i64 n2 ∧ if (n2 != (0 : Int)) = true then R (PV.bool true) else PCall Try.prog 56 [PV.ptr [tc, tg, tj, tf, tp, PV.mp M, PV.mp S], PV.int .i32 n] fun (v3 : PV) ↦ ∃ (n3 : Int), v3 = PV.int .i64 n3 ∧ R (PV.bool
 (n3 != (0 : Int)))) ∨ some tf = some PV.nilp ∧ PCall Try.prog 82 [PV.nilp, PV.int .i64 (IntKind.i64.wrap r)] fun (v1 : PV) ↦ ∃ (cs : List PV), v1 = PV.agg cs ∧ cs.length = 4 ∧ ∃ (b1 : Bool), cs.head? = some (PV.bool b1) ∧ ∃ (b2 : Bool),
 cs.tail.head? = some (PV.bool b2) ∧ ∃ (b3 : Bool), cs.tail.tail.head? = some (PV.bool b3) ∧ ∃ (b4 : Bool), cs.tail.tail.tail.head? = some (PV.bool b4) ∧ if b4 = true then R (PV.bool true) else PCall Try.prog 56 [PV.ptr [tc, tg, tj, tf, tp,
 PV.mp M, PV.mp S], PV.int .i32 r] fun (v2 : PV) ↦ ∃ (n2 : Int), v2 = PV.int .i64 n2 ∧ if (n2 != (0 : Int)) = true then R (PV.bool true) else PCall Try.prog 56 [PV.ptr [tc, tg, tj, tf, tp, PV.mp M, PV.mp S], PV.int .i32 n] fun (v3 : PV) ↦ ∃
 (n3 : Int), v3 = PV.int .i64 n3 ∧ R (PV.bool (n3 != (0 : Int))) else R (PV.bool false)
theorem e_ucd_Tables_Out (tc tg tj tf tp : PV) (M S : List (PV × PV)) (r : Int) (R : PV → Prop) : aFn Try.prog (fun _ => none) Try.f50 [0, 1, 4, 5, 6, 7] (fun _ => none) (Try.f50.body.getD .skip) [.ptr [tc, tg, tj, tf, tp, .mp M, .mp S], .int .i32 r] R = r_ucd_Tables_Out tc tg tj tf tp M S r R := by kernel_rfl
theorem a_ucd_Tables_Out (tc tg tj tf tp : PV) (M S : List (PV × PV)) (r : Int) {R : PV → Prop} (h : r_ucd_Tables_Out tc tg tj tf tp M S r R) : PCall Try.prog 50 [.ptr [tc, tg, tj, tf, tp, .mp M, .mp S], .int .i32 r] R :=
  PCall.of Try.func50 (by kernel_rfl) (by kernel_rfl) (Nat.le_of_ble_eq_true (by kernel_rfl)) (Eq.mpr (e_ucd_Tables_Out tc tg tj tf tp M S r R) h)

def r_ucd_Tables_Second (tc tg tj tf tp : PV) (M S : List (PV × PV)) (r : Int) (R : PV → Prop) : Prop :=
 (∃ (kvs : List (PV × PV)), some (PV.mp S) = some (PV.mp kvs) ∧ keysInt .i32 kvs ∧ (∀ (v : PV), mapGet (PV.int .i32 r) kvs = some v → ∃ (b : Bool), v = PV.bool b ∧ R (PV.bool b)) ∧ (mapGet (PV.int .i32 r) kvs = none → R (PV.bool false))) ∨
 some (PV.mp S) = some PV.nilm ∧ keysInt .i32 [] ∧ (∀ (v : PV), mapGet (PV.int .i32 r) [] = some v → ∃ (b : Bool), v = PV.bool b ∧ R (PV.bool b)) ∧ (mapGet (PV.int .i32 r) [] = none → R (PV.bool false))
theorem e_ucd_Tables_Second (tc tg tj tf tp : PV) (M S : List (PV × PV)) (r : Int) (R : PV → Prop) : aFn Try.prog (fun _ => none) Try.f51 [0, 1, 4] (fun _ => none) (Try.f51.body.getD .skip) [.ptr [tc, tg, tj, tf, tp, .mp M, .mp S], .int .i32 r] R = r_ucd_Tables_Second tc tg tj tf tp M S r R := by kernel_rfl
theorem a_ucd_Tables_Second (tc tg tj tf tp : PV) (M S : List (PV × PV)) (r : Int) {R : PV → Prop} (h : r_ucd_Tables_Second tc tg tj tf tp M S r R) : PCall Try.prog 51 [.ptr [tc, tg, tj, tf, tp, .mp M, .mp S], .int .i32 r] R :=
  PCall.of Try.func51 (by kernel_rfl) (by kernel_rfl) (Nat.le_of_ble_eq_true (by kernel_rfl)) (Eq.mpr (e_ucd_Tables_Second tc tg tj tf tp M S r R) h)

def r_ucd_Tables_Compose (tc tg tj tf tp : PV) (M S : List (PV × PV)) (a b : Int) (R : PV → Prop) : Prop :=
 if (b == (0 : Int)) = true then R (PV.tup [PV.int .i32 (0 : Int), PV.bool false]) else (∃ (kvs : List (PV × PV)), some (PV.mp M) = some (PV.mp kvs) ∧ keysOk Try.prog 60 kvs ∧ keyOk Try.prog 60 (PV.agg [PV.int .i32 a, PV.int .i32 b]) = true
 ∧ (∀ (v : PV), mapGet (PV.agg [PV.int .i32 a, PV.int .i32 b]) kvs = some v → ∃ (n : Int), v = PV.int .i32 n ∧ R (PV.tup [PV.int .i32 n, PV.bool true])) ∧ (mapGet (PV.agg [PV.int .i32 a, PV.int .i32 b]) kvs = none → R (PV.tup [PV.int .i32 (0
 : Int), PV.bool false]))) ∨ some (PV.mp M) = some PV.nilm ∧ keysOk Try.prog 60 [] ∧ keyOk Try.prog 60 (PV.agg [PV.int .i32 a, PV.int .i32 b]) = true ∧ (∀ (v : PV), mapGet (PV.agg [PV.int .i32 a, PV.int .i32 b]) [] = some v → ∃ (n : Int), v
 = PV.int .i32 n ∧ R (PV.tup [PV.int .i32 n, PV.bool true])) ∧ (mapGet (PV.agg [PV.int .i32 a, PV.int .i32 b]) [] = none → R (PV.tup [PV.int .i32 (0 : Int), PV.bool false]))
theorem e_ucd_Tables_Compose (tc tg tj tf tp : PV) (M S : List (PV × PV)) (a b : Int) (R : PV → Prop) : aFn Try.prog (fun _ => none) Try.f105 [0, 1, 2, 6, 7, 8, 9, 15] (fun _ => none) (Try.f105.body.getD .skip) [.ptr [tc, tg, tj, tf, tp, .mp M, .mp S], .int .i32 a, .int .i32 b] R = r_ucd_Tables_Compose tc tg tj tf tp M S a b R := by kernel_rfl
theorem a_ucd_Tables_Compose (tc tg tj tf tp : PV) (M S : List (PV × PV)) (a b : Int) {R : PV → Prop} (h : r_ucd_Tables_Compose tc tg tj tf tp M S a b R) : PCall Try.prog 105 [.ptr [tc, tg, tj, tf, tp, .mp M, .mp S], .int .i32 a, .int .i32 b] R :=
  PCall.of Try.func105 (by kernel_rfl) (by kernel_rfl) (Nat.le_of_ble_eq_true (by kernel_rfl)) (Eq.mpr (e_ucd_Tables_Compose tc tg tj tf tp M S a b R) h)

def r_ucd_Build (n f : Bool) (es : List (List PV)) (J : (Bool) → (Bool) → (List (List PV)) → (Bool) → (Bool) → (List (List PV)) → (Int) → (Int) → (PV) → (PV) → (PV) → (PV) → (Bool) → (List (List PV)) → (List (PV × PV)) → (List (PV × PV)) → Prop) (μ : (Bool) → (Bool) → (List (List PV)) → (Bool) → (Bool) → (List (List PV)) → (Int) → (Int) → (PV) → (PV) → (PV) → (PV) → (Bool) → (List (List PV)) → (List (PV × PV)) → (List (PV × PV)) → Nat) (J2 : (Bool) → (Bool) → (List (List PV)) → (Int) → (Int) → (PV) → (PV) → (PV) → (PV) → (PV) → (List (PV × PV)) → (List (PV × PV)) → Prop) (μ2 : (Bool) → (Bool) → (List (List PV)) → (Int) → (Int) → (PV) → (PV) → (PV) → (PV) → (PV) → (List (PV × PV)) → (List (PV × PV)) → Nat) (J3 : (Int) → (Bool) → (Bool) → (List (List PV)) → (Int) → (Int) → (PV) → (PV) → (PV) → (PV) → (PV) → (Int) → (Int) → (Int) → (Int) → (List (PV × PV)) → (List (PV × PV)) → (Int) → (Bool) → (Bool) → (List (List PV)) → (Int) → (Int) → (PV) → (PV) → (PV) → (PV) → (PV) → (Int) → (Int) → (Int) → (Int) → (List (PV × PV)) → (List (PV × PV)) → Prop) (μ3 : (Int) → (Bool) → (Bool) → (List (List PV)) → (Int) → (Int) → (PV) → (PV) → (PV) → (PV) → (PV) → (Int) → (Int) → (Int) → (Int) → (List (PV × PV)) → (List (PV × PV)) → Nat) (R : PV → Prop) : Prop :=
 PCall Try.prog 45 [PV.sl n f es, PV.int .i64 (1 : Int)] fun (v : PV) ↦ PCall Try.prog 45 [PV.sl n f es, PV.int .i64 (4 : Int)] fun (v1 : PV) ↦ PCall Try.prog 45 [PV.sl n f es, PV.int .i64 (6 : Int)] fun (v2 : PV) ↦ PCall Try.prog 46 [PV.sl
 n f es] fun (v3 : PV) ↦ isOne v = true ∧ isOne v1 = true ∧ isOne v2 = true ∧ isOne v3 = true ∧ PCall Try.prog 47 [PV.sl n f es, PV.int .i64 (2 : Int)] fun (v4 : PV) ↦ ∃ (n1 : Bool), ∃ (f1 : Bool), ∃ (es1 : List (List PV)), v4 = PV.sl n1 f1
 es1 ∧ (Same1 ([(3, LV.box 0 0), (4, LV.own 1), (5, LV.pv (PV.sl n1 f1 es1)), (28, LV.pv (PV.sl n1 f1 es1)), (29, LV.pv (PV.int .i64 (↑es1.length : Int))), (30, LV.pv (PV.int .i64 (0 : Int)))], [Ob.box [LV.pv v, LV.pv v1, LV.pv v2, LV.pv v3,
 LV.pv PV.nilp, LV.mp 2, LV.mp 3], Ob.sl (62, 4) true true [], Ob.mp [], Ob.mp []]) ∧ J n1 f1 es1 n1 f1 es1 (↑es1.length : Int) (0 : Int) v v1 v2 v3 true [] [] []) ∧ ∀ (n5 f5 : Bool) (s5 : List (List PV)) (n28 f28 : Bool) (s28 : List (List
 PV)) (x29 x30 : Int) (h0_0 h0_1 h0_2 h0_3 : PV) (n_1 : Bool) (s_1 : List (List PV)) (m_2 m_3 : List (PV × PV)), J n5 f5 s5 n28 f28 s28 x29 x30 h0_0 h0_1 h0_2 h0_3 n_1 s_1 m_2 m_3 → if decide (x30 < x29) = true then idxOK s28 x30 4 ∧ ∃ (n2 :
 Int), (s28.getD x30.toNat []).head? = some (PV.int .i64 n2) ∧ ∃ (n3 : Int), (s28.getD x30.toNat []).tail.head? = some (PV.int .i64 n3) ∧ ∃ (n4 : Int), (s28.getD x30.toNat []).tail.tail.head? = some (PV.int .i64 n4) ∧ ∃ (n6 : Int), (s28.getD
 x30.toNat []).tail.tail.tail.head? = some (PV.int .i64 n6) ∧ (szOK [[PV.int .i64 n2, PV.int .i64 n3, PV.int .i32 (IntKind.i32.wrap n4), PV.int .i32 (IntKind.i32.wrap n6)]] 4 ∧ (s_1.length + 1) * 24 ≤ 140737488355328) ∧ Same1 ([(3, LV.box 0
 0), (4, LV.own 1), (5, LV.pv (PV.sl n5 f5 s5)), (28, LV.pv (PV.sl n28 f28 s28)), (29, LV.pv (PV.int .i64 x29)), (30, LV.pv (PV.int .i64 (IntKind.i64.wrap (x30 + (1 : Int)))))], [Ob.box [LV.pv h0_0, LV.pv h0_1, LV.pv h0_2, LV.pv h0_3, LV.pv
 PV.nilp, LV.mp 2, LV.mp 3], Ob.sl (62, 4) true (n_1 && false) (s_1 ++ [[PV.int .i64 n2, PV.int .i64 n3, PV.int .i32 (IntKind.i32.wrap n4), PV.int .i32 (IntKind.i32.wrap n6)]]), Ob.mp m_2, Ob.mp m_3]) ∧ J n5 f5 s5 n28 f28 s28 x29
 (IntKind.i64.wrap (x30 + (1 : Int))) h0_0 h0_1 h0_2 h0_3 (n_1 && false) (s_1 ++ [[PV.int .i64 n2, PV.int .i64 n3, PV.int .i32 (IntKind.i32.wrap n4), PV.int .i32 (IntKind.i32.wrap n6)]]) m_2 m_3 ∧ μ n5 f5 s5 n28 f28 s28 x29 (IntKind.i64.wrap
 (x30 + (1 : Int))) h0_0 h0_1 h0_2 h0_3 (n_1 && false) (s_1 ++ [[PV.int .i64 n2, PV.int .i64 n3, PV.int .i32 (IntKind.i32.wrap n4), PV.int .i32 (IntKind.i32.wrap n6)]]) m_2 m_3 < μ n5 f5 s5 n28 f28 s28 x29 x30 h0_0 h0_1 h0_2 h0_3 n_1 s_1 m_2
 m_3 else PCall Try.prog 48 [PV.int .i64 (1114112 : Int), PV.agg [PV.int .i32 (0 : Int), PV.int .i32 (0 : Int)], PV.sl n_1 false s_1] fun (v5 : PV) ↦ isOne v5 = true ∧ (Same1 ([(3, LV.box 0 0), (56, LV.pv (PV.sl n5 f5 s5)), ((57 : Nat),
 LV.pv (PV.int .i64 (↑s5.length : Int))), (58, LV.pv (PV.int .i64 (0 : Int)))], [Ob.box [LV.pv h0_0, LV.pv h0_1, LV.pv h0_2, LV.pv h0_3, LV.pv v5, LV.mp 1, LV.mp 2], Ob.mp m_2, Ob.mp m_3]) ∧ J2 n5 f5 s5 (↑s5.length : Int) (0 : Int) h0_0 h0_1
 h0_2 h0_3 v5 m_2 m_3) ∧ ∀ (n56 f56 : Bool) (s56 : List (List PV)) (x57 x58 : Int) (h0_01 h0_11 h0_21 h0_31 h0_4 : PV) (m_1 m_21 : List (PV × PV)), J2 n56 f56 s56 x57 x58 h0_01 h0_11 h0_21 h0_31 h0_4 m_1 m_21 → if decide (x58 < x57) = true
 then idxOK s56 x58 4 ∧ ∃ (n2 : Int), (s56.getD x58.toNat []).head? = some (PV.int .i64 n2) ∧ ∃ (n3 : Int), (s56.getD x58.toNat []).tail.head? = some (PV.int .i64 n3) ∧ ∃ (n4 : Int), (s56.getD x58.toNat []).tail.tail.head? = some (PV.int
 .i64 n4) ∧ ∃ (n6 : Int), (s56.getD x58.toNat []).tail.tail.tail.head? = some (PV.int .i64 n6) ∧ (Same1 ([(3, LV.box 0 0), (9, LV.box 1 0), (10, LV.pv (PV.int .i32 (IntKind.i32.wrap n2))), (56, LV.pv (PV.sl n56 f56 s56)), (57, LV.pv (PV.int
 .i64 x57)), (58, LV.pv (PV.int .i64 x58))], [Ob.box [LV.pv h0_01, LV.pv h0_11, LV.pv h0_21, LV.pv h0_31, LV.pv h0_4, LV.mp 2, LV.mp 3], Ob.box [LV.pv (PV.int .i64 n2), LV.pv (PV.int .i64 n3), LV.pv (PV.int .i64 n4), LV.pv (PV.int .i64 n6)],
 Ob.mp m_1, Ob.mp m_21]) ∧ J3 (IntKind.i32.wrap n2) n56 f56 s56 x57 x58 h0_01 h0_11 h0_21 h0_31 h0_4 n2 n3 n4 n6 m_1 m_21 (IntKind.i32.wrap n2) n56 f56 s56 x57 x58 h0_01 h0_11 h0_21 h0_31 h0_4 n2 n3 n4 n6 m_1 m_21) ∧ ∀ (x10 : Int) (n561 f561
 : Bool) (s561 : List (List PV)) (x571 x581 : Int) (h0_02 h0_12 h0_22 h0_32 h0_41 : PV) (h1_0 h1_1 h1_2 h1_3 : Int) (m_22 m_31 : List (PV × PV)), J3 (IntKind.i32.wrap n2) n56 f56 s56 x57 x58 h0_01 h0_11 h0_21 h0_31 h0_4 n2 n3 n4 n6 m_1 m_21
 x10 n561 f561 s561 x571 x581 h0_02 h0_12 h0_22 h0_32 h0_41 h1_0 h1_1 h1_2 h1_3 m_22 m_31 → if decide (IntKind.i64.wrap x10 ≤ h1_1) = true then PCall Try.prog 49 [h0_41, PV.int .i64 (IntKind.i64.wrap x10)] fun (v6 : PV) ↦ ∃ (cs : List PV),
 v6 = PV.agg cs ∧ cs.length = 2 ∧ ∃ (n7 : Int), cs.head? = some (PV.int .i32 n7) ∧ ∃ (n8 : Int), cs.tail.head? = some (PV.int .i32 n8) ∧ keysOk Try.prog 60 m_22 ∧ keyOk Try.prog 60 (PV.agg [PV.int .i32 n7, PV.int .i32 n8]) = true ∧ (∀ (v7 :
 PV), mapGet (PV.agg [PV.int .i32 n7, PV.int .i32 n8]) m_22 = some v7 → ∃ (n9 : Int), v7 = PV.int .i32 n9 ∧ Same1 ([(3, LV.box 0 0), (9, LV.box 1 0), (10, LV.pv (PV.int .i32 (IntKind.i32.wrap (x10 + (1 : Int))))), (56, LV.pv (PV.sl n561 f561
 s561)), (57, LV.pv (PV.int .i64 x571)), (58, LV.pv (PV.int .i64 x581))], [Ob.box [LV.pv h0_02, LV.pv h0_12, LV.pv h0_22, LV.pv h0_32, LV.pv h0_41, LV.mp 2, LV.mp 3], Ob.box [LV.pv (PV.int .i64 h1_0), LV.pv (PV.int .i64 h1_1), LV.pv (PV.int
 .i64 h1_2), LV.pv (PV.int .i64 h1_3)], Ob.mp m_22, Ob.mp m_31]) ∧ J3 (IntKind.i32.wrap n2) n56 f56 s56 x57 x58 h0_01 h0_11 h0_21 h0_31 h0_4 n2 n3 n4 n6 m_1 m_21 (IntKind.i32.wrap (x10 + (1 : Int))) n561 f561 s561 x571 x581 h0_02 h0_12 h0_22
 h0_32 h0_41 h1_0 h1_1 h1_2 h1_3 m_22 m_31 ∧ μ3 (IntKind.i32.wrap (x10 + (1 : Int))) n561 f561 s561 x571 x581 h0_02 h0_12 h0_22 h0_32 h0_41 h1_0 h1_1 h1_2 h1_3 m_22 m_31 < μ3 x10 n561 f561 s561 x571 x581 h0_02 h0_12 h0_22 h0_32 h0_41 h1_0
 h1_1 h1_2 h1_3 m_22 m_31) ∧ (mapGet (PV.agg [PV.int .i32 n7, PV.int .i32 n8]) m_22 = none → PCall Try.prog 50 [PV.ptr [h0_02, h0_12, h0_22, h0_32, h0_41, PV.mp m_22, PV.mp m_31], PV.int .i32 x10] fun (v7 : PV) ↦ ∃ (b : Bool), v7 = PV.bool b
 ∧ true = true ∧ if (!b) = true then (keysOk Try.prog 60 m_22 ∧ keyOk Try.prog 60 (PV.agg [PV.int .i32 n7, PV.int .i32 n8]) = true ∧ ((0 : Int) ≤ (↑(mapIx (PV.agg [PV.int .i32 n7, PV.int .i32 n8]) m_22) : Int) ∧ (↑(mapIx (PV.agg [PV.int .i32
 n7, PV.int .i32 n8]) m_22) : Int).toNat < (mapSet (PV.agg [PV.int .i32 n7, PV.int .i32 n8]) (mapVal (PV.agg [PV.int .i32 n7, PV.int .i32 n8]) (PV.int .i32 (0 : Int)) m_22) m_22).length) ∧ keysInt .i32 m_31 ∧ ((0 : Int) ≤ (↑(mapIx (PV.int
 .i32 n8) m_31) : Int) ∧ (↑(mapIx (PV.int .i32 n8) m_31) : Int).toNat < (mapSet (PV.int .i32 n8) (mapVal (PV.int .i32 n8) (PV.bool false) m_31) m_31).length) ∧ Same1 ([(3, LV.box 0 0), (9, LV.box 1 0), (10, LV.pv (PV.int .i32
 (IntKind.i32.wrap (x10 + (1 : Int))))), (56, LV.pv (PV.sl n561 f561 s561)), (57, LV.pv (PV.int .i64 x571)), (58, LV.pv (PV.int .i64 x581))], [Ob.box [LV.pv h0_02, LV.pv h0_12, LV.pv h0_22, LV.pv h0_32, LV.pv h0_41, LV.mp 2, LV.mp 3], Ob.box
 [LV.pv (PV.int .i64 h1_0), LV.pv (PV.int .i64 h1_1), LV.pv (PV.int .i64 h1_2), LV.pv (PV.int .i64 h1_3)], Ob.mp (entSet (↑(mapIx (PV.agg [PV.int .i32 n7, PV.int .i32 n8]) m_22) : Int).toNat (PV.int .i32 x10) (mapSet (PV.agg [PV.int .i32 n7,
 PV.int .i32 n8]) (mapVal (PV.agg [PV.int .i32 n7, PV.int .i32 n8]) (PV.int .i32 (0 : Int)) m_22) m_22)), Ob.mp (entSet (↑(mapIx (PV.int .i32 n8) m_31) : Int).toNat (PV.bool true) (mapSet (PV.int .i32 n8) (mapVal (PV.int .i32 n8) (PV.bool
 false) m_31) m_31))]) ∧ J3 (IntKind.i32.wrap n2) n56 f56 s56 x57 x58 h0_01 h0_11 h0_21 h0_31 h0_4 n2 n3 n4 n6 m_1 m_21 (IntKind.i32.wrap (x10 + (1 : Int))) n561 f561 s561 x571 x581 h0_02 h0_12 h0_22 h0_32 h0_41 h1_0 h1_1 h1_2 h1_3 (entSet
 (↑(mapIx (PV.agg [PV.int .i32 n7, PV.int .i32 n8]) m_22) : Int).toNat (PV.int .i32 x10) (mapSet (PV.agg [PV.int .i32 n7, PV.int .i32 n8]) (mapVal (PV.agg [PV.int .i32 n7, PV.int .i32 n8]) (PV.int .i32 (0 : Int)) m_22) m_22)) (entSet
 (↑(mapIx (PV.int .i32 n8) m_31) : Int).toNat (PV.bool true) (mapSet (PV.int .i32 n8) (mapVal (PV.int .i32 n8) (PV.bool false) m_31) m_31)) ∧ μ3 (IntKind.i32.wrap (x10 + (1 : Int))) n561 f561 s561 x571 x581 h0_02 h0_12 h0_22 h0_32 h0_41 h1_0
 h1_1 h1_2 h1_3 (entSet (↑(mapIx (PV.agg [PV.int .i32 n7, PV.int .i32 n8]) m_22) : Int).toNat (PV.int .i32 x10) (mapSet (PV.agg [PV.int .i32 n7, PV.int .i32 n8]) (mapVal (PV.agg [PV.int .i32 n7, PV.int .i32 n8]) (PV.int .i32 (0 : Int)) m_22)
 m_22)) (entSet (↑(mapIx (PV.int .i32 n8) m_31) : Int).toNat (PV.bool true) (mapSet (PV.int .i32 n8) (mapVal (PV.int .i32 n8) (PV.bool false) m_31) m_31)) < μ3 x10 n561 f561 s561 x571 x581 h0_02 h0_12 h0_22 h0_32 h0_41 h1_0 h1_1 h1_2 h1_3
 m_22 m_31) ∧ keysOk Try.prog 60 m_22 ∧ keyOk Try.prog 60 (PV.agg [PV.int .i32 n7, PV.int .i32 n8]) = true ∧ (((0 : Int) ≤ (↑(mapIx (PV.agg [PV.int .i32 n7, PV.int .i32 n8]) m_22) : Int) ∧ (↑(mapIx (PV.agg [PV.int .i32 n7, PV.int .i32 n8])
 m_22) : Int).toNat < (mapSet (PV.agg [PV.int .i32 n7, PV.int .i32 n8]) (mapVal (PV.agg [PV.int .i32 n7, PV.int .i32 n8]) (PV.int .i32 (0 : Int)) m_22) m_22).length) ∧ keysInt .i32 m_31 ∧ ((0 : Int) ≤ (↑(mapIx (PV.int .i32 n8) m_31) : Int) ∧
 (↑(mapIx (PV.int .i32 n8) m_31) : Int).toNat < (mapSet (PV.int .i32 n8) (mapVal (PV.int .i32 n8) (PV.bool false) m_31) m_31).length) ∧ Same1 ([(3, LV.box 0 0), (9, LV.box 1 0), (10, LV.pv (PV.int .i32 (IntKind.i32.wrap (x10 + (1 : Int))))),
 (56, LV.pv (PV.sl n561 f561 s561)), (57, LV.pv (PV.int .i64 x571)), (58, LV.pv (PV.int .i64 x581))], [Ob.box [LV.pv h0_02, LV.pv h0_12, LV.pv h0_22, LV.pv h0_32, LV.pv h0_41, LV.mp 2, LV.mp 3], Ob.box [LV.pv (PV.int .i64 h1_0), LV.pv
 (PV.int .i64 h1_1), LV.pv (PV.int .i64 h1_2), LV.pv (PV.int .i64 h1_3)], Ob.mp (entSet (↑(mapIx (PV.agg [PV.int .i32 n7, PV.int .i32 n8]) m_22) : Int).toNat (PV.int .i32 x10) (mapSet (PV.agg [PV.int .i32 n7, PV.int .i32 n8]) (mapVal (PV.agg
 [PV.int .i32 n7, PV.int .i32 n8]) (PV.int .i32 (0 : Int)) m_22) m_22)), Ob.mp (entSet (↑(mapIx (PV.int .i32 n8) m_31) : Int).toNat (PV.bool true) (mapSet (PV.int .i32 n8) (mapVal (PV.int .i32 n8) (PV.bool false) m_31) m_31))]) ∧ J3
 (IntKind.i32.wrap n2) n56 f56 s56 x57 x58 h0_01 h0_11 h0_21 h0_31 h0_4 n2 n3 n4 n6 m_1 m_21 (IntKind.i32.wrap (x10 + (1 : Int))) n561 f561 s561 x571 x581 h0_02 h0_12 h0_22 h0_32 h0_41 h1_0 h1_1 h1_2 h1_3 (entSet (↑(mapIx (PV.agg [PV.int
 .i32 n7, PV.int .i32 n8]) m_22) : Int).toNat (PV.int .i32 x10) (mapSet (PV.agg [PV.int .i32 n7, PV.int .i32 n8]) (mapVal (PV.agg [PV.int .i32 n7, PV.int .i32 n8]) (PV.int .i32 (0 : Int)) m_22) m_22)) (entSet (↑(mapIx (PV.int .i32 n8) m_31)
 : Int).toNat (PV.bool true) (mapSet (PV.int .i32 n8) (mapVal (PV.int .i32 n8) (PV.bool false) m_31) m_31)) ∧ μ3 (IntKind.i32.wrap (x10 + (1 : Int))) n561 f561 s561 x571 x581 h0_02 h0_12 h0_22 h0_32 h0_41 h1_0 h1_1 h1_2 h1_3 (entSet (↑(mapIx
 (PV.agg [PV.int .i32 n7, PV.int .i32 n8]) m_22) : Int).toNat (PV.int .i32 x10) (mapSet (PV.agg [PV.int .i32 n7, PV.int .i32 n8]) (mapVal (PV.agg [PV.int .i32 n7, PV.int .i32 n8]) (PV.int .i32 (0 : Int)) m_22) m_22)) (entSet (↑(mapIx (PV.int
 .i32 n8) m_31) : Int).toNat (PV.bool true) (mapSet (PV.int .i32 n8) (mapVal (PV.int .i32 n8) (PV.bool false) m_31) m_31)) < μ3 x10 n561 f561 s561 x571 x581 h0_02 h0_12 h0_22 h0_32 h0_41 h1_0 h1_1 h1_2 h1_3 m_22 m_31) ∧ ((0 : Int) ≤ (↑(mapIx
 (PV.agg [PV.int .i32 n7, PV.int .i32 n8]) m_22) : Int) ∧ (↑(mapIx (PV.agg [PV.int .i32 n7, PV.int .i32 n8]) m_22) : Int).toNat < (mapSet (PV.agg [PV.int .i32 n7, PV.int .i32 n8]) (mapVal (PV.agg [PV.int .i32 n7, PV.int .i32 n8]) (PV.int
 .i32 (0 : Int)) m_22) m_22).length) ∧ keysInt .i32 m_31 ∧ ((0 : Int) ≤ (↑(mapIx (PV.int .i32 n8) m_31) : Int) ∧ (↑(mapIx (PV.int .i32 n8) m_31) : Int).toNat < (mapSet (PV.int .i32 n8) (mapVal (PV.int .i32 n8) (PV.bool false) m_31)
 m_31).length) ∧ Same1 ([(3, LV.box 0 0), (9, LV.box 1 0), (10, LV.pv (PV.int .i32 (IntKind.i32.wrap (x10 + (1 : Int))))), (56, LV.pv (PV.sl n561 f561 s561)), (57, LV.pv (PV.int .i64 x571)), (58, LV.pv (PV.int .i64 x581))], [Ob.box [LV.pv
 h0_02, LV.pv h0_12, LV.pv h0_22, LV.pv h0_32, LV.pv h0_41, LV.mp 2, LV.mp 3], Ob.box [LV.pv (PV.int .i64 h1_0), LV.pv (PV.int .i64 h1_1), LV.pv (PV.int .i64 h1_2), LV.pv (PV.int .i64 h1_3)], Ob.mp (entSet (↑(mapIx (PV.agg [PV.int .i32 n7,
 PV.int .i32 n8]) m_22) : Int).toNat (PV.int .i32 x10) (mapSet (PV.agg [PV.int .i32 n7, PV.int .i32 n8]) (mapVal (PV.agg [PV.int .i32 n7, PV.int .i32 n8]) (PV.int .i32 (0 : Int)) m_22) m_22)), Ob.mp (entSet (↑(mapIx (PV.int .i32 n8) m_31) :
 Int).toNat (PV.bool true) (mapSet (PV.int .i32 n8) (mapVal (PV.int .i32 n8) (PV.bool false) m_31) m_31))]) ∧ J3 (IntKind.i32.wrap n2) n56 f56 s56 x57 x58 h0_01 h0_11 h0_21 h0_31 h0_4 n2 n3 n4 n6 m_1 m_21 (IntKind.i32.wrap (x10 + (1 : Int)))
 n561 f561 s561 x571 x581 h0_02 h0_12 h0_22 h0_32 h0_41 h1_0 h1_1 h1_2 h1_3 (entSet (↑(mapIx (PV.agg [PV.int .i32 n7, PV.int .i32 n8]) m_22) : Int).toNat (PV.int .i32 x10) (mapSet (PV.agg [PV.int .i32 n7, PV.int .i32 n8]) (mapVal (PV.agg
 [PV.int .i32 n7, PV.int .i32 n8]) (PV.int .i32 (0 : Int)) m_22) m_22)) (entSet (↑(mapIx (PV.int .i32 n8) m_31) : Int).toNat (PV.bool true) (mapSet (PV.int .i32 n8) (mapVal (PV.int .i32 n8) (PV.bool false) m_31) m_31)) ∧ μ3 (IntKind.i32.wrap
 (x10 + (1 : Int))) n561 f561 s561 x571 x581 h0_02 h0_12 h0_22 h0_32 h0_41 h1_0 h1_1 h1_2 h1_3 (entSet (↑(mapIx (PV.agg [PV.int .i32 n7, PV.int .i32 n8]) m_22) : Int).toNat (PV.int .i32 x10) (mapSet (PV.agg [PV.int .i32 n7, PV.int .i32 n8])
 (mapVal (PV.agg [PV.int .i32 n7, PV.int .i32 n8]) (PV.int .i32 (0 : Int)) m_22) m_22)) (entSet (↑(mapIx (PV.int .i32 n8) m_31) : Int).toNat (PV.bool true) (mapSet (PV.int .i32 n8) (mapVal (PV.int .i32 n8) (PV.bool false) m_31) m_31)) < μ3
 x10 n561 f561 s561 x571 x581 h0_02 h0_12 h0_22 h0_32 h0_41 h1_0 h1_1 h1_2 h1_3 m_22 m_31 else Same1 ([(3, LV.box 0 0), (9, LV.box 1 0), (10, LV.pv (PV.int .i32 (IntKind.i32.wrap (x10 + (1 : Int))))), (56, LV.pv (PV.sl n561 f561 s561)), (57,
 LV.pv (PV.int .i64 x571)), (58, LV.pv (PV.int .i64 x581))], [Ob.box [LV.pv h0_02, LV.pv h0_12, LV.pv h0_22, LV.pv h0_32, LV.pv h0_41, LV.mp 2, LV.mp 3], Ob.box [LV.pv (PV.int .i64 h1_0), LV.pv (PV.int .i64 h1_1), LV.pv (PV.int .i64 h1_2),
 LV.pv (PV.int .i64 h1_3)], Ob.mp m_22, Ob.mp m_31]) ∧ J3 (IntKind.i32.wrap n2) n56 f56 s56 x57 x58 h0_01 h0_11 h0_21 h0_31 h0_4 n2 n3 n4 n6 m_1 m_21 (IntKind.i32.wrap (x10 + (1 : Int))) n561 f561 s561 x571 x581 h0_02 h0_12 h0_22 h0_32 h0_41
 h1_0 h1_1 h1_2 h1_3 m_22 m_31 ∧ μ3 (IntKind.i32.wrap (x10 + (1 : Int))) n561 f561 s561 x571 x581 h0_02 h0_12 h0_22 h0_32 h0_41 h1_0 h1_1 h1_2 h1_3 m_22 m_31 < μ3 x10 n561 f561 s561 x571 x581 h0_02 h0_12 h0_22 h0_32 h0_41 h1_0 h1_1 h1_2 h1_3
 m_22 m_31) else Same1 ([(3, LV.box 0 0), (56, LV.pv (PV.sl n561 f561 s561)), (57, LV.pv (PV.int .i64 x571)), (58, LV.pv (PV.int .i64 (IntKind.i64.wrap (x581 + (1 : Int)))))], [Ob.box [LV.pv h0_02, LV.pv h0_12, LV.pv h0_22, LV.pv h0_32,
 LV.pv h0_41, LV.mp 1, LV.mp 2], Ob.mp m_22, Ob.mp m_31]) ∧ J2 n561 f561 s561 x571 (IntKind.i64.wrap (x581 + (1 : Int))) h0_02 h0_12 h0_22 h0_32 h0_41 m_22 m_31 ∧ μ2 n561 f561 s561 x571 (IntKind.i64.wrap (x581 + (1 : Int))) h0_02 h0_12 h0_22
 h0_32 h0_41 m_22 m_31 < μ2 n56 f56 s56 x57 x58 h0_01 h0_11 h0_21 h0_31 h0_4 m_1 m_21 else R (PV.ptr [h0_01, h0_11, h0_21, h0_31, h0_4, PV.mp m_1, PV.mp m_21])
theorem e_ucd_Build (n f : Bool) (es : List (List PV)) (J : (Bool) → (Bool) → (List (List PV)) → (Bool) → (Bool) → (List (List PV)) → (Int) → (Int) → (PV) → (PV) → (PV) → (PV) → (Bool) → (List (List PV)) → (List (PV × PV)) → (List (PV × PV)) → Prop) (μ : (Bool) → (Bool) → (List (List PV)) → (Bool) → (Bool) → (List (List PV)) → (Int) → (Int) → (PV) → (PV) → (PV) → (PV) → (Bool) → (List (List PV)) → (List (PV × PV)) → (List (PV × PV)) → Nat) (J2 : (Bool) → (Bool) → (List (List PV)) → (Int) → (Int) → (PV) → (PV) → (PV) → (PV) → (PV) → (List (PV × PV)) → (List (PV × PV)) → Prop) (μ2 : (Bool) → (Bool) → (List (List PV)) → (Int) → (Int) → (PV) → (PV) → (PV) → (PV) → (PV) → (List (PV × PV)) → (List (PV × PV)) → Nat) (J3 : (Int) → (Bool) → (Bool) → (List (List PV)) → (Int) → (Int) → (PV) → (PV) → (PV) → (PV) → (PV) → (Int) → (Int) → (Int) → (Int) → (List (PV × PV)) → (List (PV × PV)) → (Int) → (Bool) → (Bool) → (List (List PV)) → (Int) → (Int) → (PV) → (PV) → (PV) → (PV) → (PV) → (Int) → (Int) → (Int) → (Int) → (List (PV × PV)) → (List (PV × PV)) → Prop) (μ3 : (Int) → (Bool) → (Bool) → (List (List PV)) → (Int) → (Int) → (PV) → (PV) → (PV) → (PV) → (PV) → (Int) → (Int) → (Int) → (Int) → (List (PV × PV)) → (List (PV × PV)) → Nat) (R : PV → Prop) : aFn Try.prog (fun _ => none) Try.f14 [0, 2, 3, 4, 5, 7, 9, 10, 11, 13, 28, 29, 30, 31, 56, 57, 58, 59, 69, 95] (fun zz_ => match zz_ with | 5 => some ⟨Bool × Bool × (List (List PV)) × Bool × Bool × (List (List PV)) × Int × Int × PV × PV × PV × PV × Bool × (List (List PV)) × (List (PV × PV)) × (List (PV × PV)), fun s => (fun (n5 : Bool) (f5 : Bool) (s5 : List (List PV)) (n28 : Bool) (f28 : Bool) (s28 : List (List PV)) (x29 : Int) (x30 : Int) (h0_0 : PV) (h0_1 : PV) (h0_2 : PV) (h0_3 : PV) (n_1 : Bool) (s_1 : List (List PV)) (m_2 : List (PV × PV)) (m_3 : List (PV × PV)) => ([(3, LV.box 0 0), (4, LV.own 1), (5, .pv (.sl n5 f5 s5)), (28, .pv (.sl n28 f28 s28)), (29, .pv (.int IntKind.i64 x29)), (30, .pv (.int IntKind.i64 x30))], [.box [.pv h0_0, .pv h0_1, .pv h0_2, .pv h0_3, LV.pv PV.nilp, LV.mp 2, LV.mp 3], .sl (62, 4) true n_1 s_1, .mp m_2, .mp m_3])) s.1 s.2.1 s.2.2.1 s.2.2.2.1 s.2.2.2.2.1 s.2.2.2.2.2.1 s.2.2.2.2.2.2.1 s.2.2.2.2.2.2.2.1 s.2.2.2.2.2.2.2.2.1 s.2.2.2.2.2.2.2.2.2.1 s.2.2.2.2.2.2.2.2.2.2.1 s.2.2.2.2.2.2.2.2.2.2.2.1 s.2.2.2.2.2.2.2.2.2.2.2.2.1 s.2.2.2.2.2.2.2.2.2.2.2.2.2.1 s.2.2.2.2.2.2.2.2.2.2.2.2.2.2.1 s.2.2.2.2.2.2.2.2.2.2.2.2.2.2.2, fun _ s => J s.1 s.2.1 s.2.2.1 s.2.2.2.1 s.2.2.2.2.1 s.2.2.2.2.2.1 s.2.2.2.2.2.2.1 s.2.2.2.2.2.2.2.1 s.2.2.2.2.2.2.2.2.1 s.2.2.2.2.2.2.2.2.2.1 s.2.2.2.2.2.2.2.2.2.2.1 s.2.2.2.2.2.2.2.2.2.2.2.1 s.2.2.2.2.2.2.2.2.2.2.2.2.1 s.2.2.2.2.2.2.2.2.2.2.2.2.2.1 s.2.2.2.2.2.2.2.2.2.2.2.2.2.2.1 s.2.2.2.2.2.2.2.2.2.2.2.2.2.2.2, fun s => μ s.1 s.2.1 s.2.2.1 s.2.2.2.1 s.2.2.2.2.1 s.2.2.2.2.2.1 s.2.2.2.2.2.2.1 s.2.2.2.2.2.2.2.1 s.2.2.2.2.2.2.2.2.1 s.2.2.2.2.2.2.2.2.2.1 s.2.2.2.2.2.2.2.2.2.2.1 s.2.2.2.2.2.2.2.2.2.2.2.1 s.2.2.2.2.2.2.2.2.2.2.2.2.1 s.2.2.2.2.2.2.2.2.2.2.2.2.2.1 s.2.2.2.2.2.2.2.2.2.2.2.2.2.2.1 s.2.2.2.2.2.2.2.2.2.2.2.2.2.2.2, fun e h => (gN e 5, gF e 5, gS e 5, gN e 28, gF e 28, gS e 28, gI e 29, gI e 30, hP h 0 0, hP h 0 1, hP h 0 2, hP h 0 3, oN h 1, oS h 1, oM h 2, oM h 3), [(4, 62, 4)], [3, 4, 5, 28, 29, 30], [], fun p => ∀ (n5 : Bool) (f5 : Bool) (s5 : List (List PV)) (n28 : Bool) (f28 : Bool) (s28 : List (List PV)) (x29 : Int) (x30 : Int) (h0_0 : PV) (h0_1 : PV) (h0_2 : PV) (h0_3 : PV) (n_1 : Bool) (s_1 : List (List PV)) (m_2 : List (PV × PV)) (m_3 : List (PV × PV)), p (n5, f5, s5, n28, f28, s28, x29, x30, h0_0, h0_1, h0_2, h0_3, n_1, s_1, m_2, m_3), fun p h s => h s.1 s.2.1 s.2.2.1 s.2.2.2.1 s.2.2.2.2.1 s.2.2.2.2.2.1 s.2.2.2.2.2.2.1 s.2.2.2.2.2.2.2.1 s.2.2.2.2.2.2.2.2.1 s.2.2.2.2.2.2.2.2.2.1 s.2.2.2.2.2.2.2.2.2.2.1 s.2.2.2.2.2.2.2.2.2.2.2.1 s.2.2.2.2.2.2.2.2.2.2.2.2.1 s.2.2.2.2.2.2.2.2.2.2.2.2.2.1 s.2.2.2.2.2.2.2.2.2.2.2.2.2.2.1 s.2.2.2.2.2.2.2.2.2.2.2.2.2.2.2⟩ | 11 => some ⟨Bool × Bool × (List (List PV)) × Int × Int × PV × PV × PV × PV × PV × (List (PV × PV)) × (List (PV × PV)), fun s => (fun (n56 : Bool) (f56 : Bool) (s56 : List (List PV)) (x57 : Int) (x58 : Int) (h0_0 : PV) (h0_1 : PV) (h0_2 : PV) (h0_3 : PV) (h0_4 : PV) (m_1 : List (PV × PV)) (m_2 : List (PV × PV)) => ([(3, LV.box 0 0), (56, .pv (.sl n56 f56 s56)), (57, .pv (.int IntKind.i64 x57)), (58, .pv (.int IntKind.i64 x58))], [.box [.pv h0_0, .pv h0_1, .pv h0_2, .pv h0_3, .pv h0_4, LV.mp 1, LV.mp 2], .mp m_1, .mp m_2])) s.1 s.2.1 s.2.2.1 s.2.2.2.1 s.2.2.2.2.1 s.2.2.2.2.2.1 s.2.2.2.2.2.2.1 s.2.2.2.2.2.2.2.1 s.2.2.2.2.2.2.2.2.1 s.2.2.2.2.2.2.2.2.2.1 s.2.2.2.2.2.2.2.2.2.2.1 s.2.2.2.2.2.2.2.2.2.2.2, fun _ s => J2 s.1 s.2.1 s.2.2.1 s.2.2.2.1 s.2.2.2.2.1 s.2.2.2.2.2.1 s.2.2.2.2.2.2.1 s.2.2.2.2.2.2.2.1 s.2.2.2.2.2.2.2.2.1 s.2.2.2.2.2.2.2.2.2.1 s.2.2.2.2.2.2.2.2.2.2.1 s.2.2.2.2.2.2.2.2.2.2.2, fun s => μ2 s.1 s.2.1 s.2.2.1 s.2.2.2.1 s.2.2.2.2.1 s.2.2.2.2.2.1 s.2.2.2.2.2.2.1 s.2.2.2.2.2.2.2.1 s.2.2.2.2.2.2.2.2.1 s.2.2.2.2.2.2.2.2.2.1 s.2.2.2.2.2.2.2.2.2.2.1 s.2.2.2.2.2.2.2.2.2.2.2, fun e h => (gN e 56, gF e 56, gS e 56, gI e 57, gI e 58, hP h 0 0, hP h 0 1, hP h 0 2, hP h 0 3, hP h 0 4, oM h 1, oM h 2), [], [3, 56, 57, 58], [], fun p => ∀ (n56 : Bool) (f56 : Bool) (s56 : List (List PV)) (x57 : Int) (x58 : Int) (h0_0 : PV) (h0_1 : PV) (h0_2 : PV) (h0_3 : PV) (h0_4 : PV) (m_1 : List (PV × PV)) (m_2 : List (PV × PV)), p (n56, f56, s56, x57, x58, h0_0, h0_1, h0_2, h0_3, h0_4, m_1, m_2), fun p h s => h s.1 s.2.1 s.2.2.1 s.2.2.2.1 s.2.2.2.2.1 s.2.2.2.2.2.1 s.2.2.2.2.2.2.1 s.2.2.2.2.2.2.2.1 s.2.2.2.2.2.2.2.2.1 s.2.2.2.2.2.2.2.2.2.1 s.2.2.2.2.2.2.2.2.2.2.1 s.2.2.2.2.2.2.2.2.2.2.2⟩ | 14 => some ⟨Int × Bool × Bool × (List (List PV)) × Int × Int × PV × PV × PV × PV × PV × Int × Int × Int × Int × (List (PV × PV)) × (List (PV × PV)), fun s => (fun (x10 : Int) (n56 : Bool) (f56 : Bool) (s56 : List (List PV)) (x57 : Int) (x58 : Int) (h0_0 : PV) (h0_1 : PV) (h0_2 : PV) (h0_3 : PV) (h0_4 : PV) (h1_0 : Int) (h1_1 : Int) (h1_2 : Int) (h1_3 : Int) (m_2 : List (PV × PV)) (m_3 : List (PV × PV)) => ([(3, LV.box 0 0), (9, LV.box 1 0), (10, .pv (.int IntKind.i32 x10)), (56, .pv (.sl n56 f56 s56)), (57, .pv (.int IntKind.i64 x57)), (58, .pv (.int IntKind.i64 x58))], [.box [.pv h0_0, .pv h0_1, .pv h0_2, .pv h0_3, .pv h0_4, LV.mp 2, LV.mp 3], .box [.pv (.int IntKind.i64 h1_0), .pv (.int IntKind.i64 h1_1), .pv (.int IntKind.i64 h1_2), .pv (.int IntKind.i64 h1_3)], .mp m_2, .mp m_3])) s.1 s.2.1 s.2.2.1 s.2.2.2.1 s.2.2.2.2.1 s.2.2.2.2.2.1 s.2.2.2.2.2.2.1 s.2.2.2.2.2.2.2.1 s.2.2.2.2.2.2.2.2.1 s.2.2.2.2.2.2.2.2.2.1 s.2.2.2.2.2.2.2.2.2.2.1 s.2.2.2.2.2.2.2.2.2.2.2.1 s.2.2.2.2.2.2.2.2.2.2.2.2.1 s.2.2.2.2.2.2.2.2.2.2.2.2.2.1 s.2.2.2.2.2.2.2.2.2.2.2.2.2.2.1 s.2.2.2.2.2.2.2.2.2.2.2.2.2.2.2.1 s.2.2.2.2.2.2.2.2.2.2.2.2.2.2.2.2, fun t s => J3 t.1 t.2.1 t.2.2.1 t.2.2.2.1 t.2.2.2.2.1 t.2.2.2.2.2.1 t.2.2.2.2.2.2.1 t.2.2.2.2.2.2.2.1 t.2.2.2.2.2.2.2.2.1 t.2.2.2.2.2.2.2.2.2.1 t.2.2.2.2.2.2.2.2.2.2.1 t.2.2.2.2.2.2.2.2.2.2.2.1 t.2.2.2.2.2.2.2.2.2.2.2.2.1 t.2.2.2.2.2.2.2.2.2.2.2.2.2.1 t.2.2.2.2.2.2.2.2.2.2.2.2.2.2.1 t.2.2.2.2.2.2.2.2.2.2.2.2.2.2.2.1 t.2.2.2.2.2.2.2.2.2.2.2.2.2.2.2.2 s.1 s.2.1 s.2.2.1 s.2.2.2.1 s.2.2.2.2.1 s.2.2.2.2.2.1 s.2.2.2.2.2.2.1 s.2.2.2.2.2.2.2.1 s.2.2.2.2.2.2.2.2.1 s.2.2.2.2.2.2.2.2.2.1 s.2.2.2.2.2.2.2.2.2.2.1 s.2.2.2.2.2.2.2.2.2.2.2.1 s.2.2.2.2.2.2.2.2.2.2.2.2.1 s.2.2.2.2.2.2.2.2.2.2.2.2.2.1 s.2.2.2.2.2.2.2.2.2.2.2.2.2.2.1 s.2.2.2.2.2.2.2.2.2.2.2.2.2.2.2.1 s.2.2.2.2.2.2.2.2.2.2.2.2.2.2.2.2, fun s => μ3 s.1 s.2.1 s.2.2.1 s.2.2.2.1 s.2.2.2.2.1 s.2.2.2.2.2.1 s.2.2.2.2.2.2.1 s.2.2.2.2.2.2.2.1 s.2.2.2.2.2.2.2.2.1 s.2.2.2.2.2.2.2.2.2.1 s.2.2.2.2.2.2.2.2.2.2.1 s.2.2.2.2.2.2.2.2.2.2.2.1 s.2.2.2.2.2.2.2.2.2.2.2.2.1 s.2.2.2.2.2.2.2.2.2.2.2.2.2.1 s.2.2.2.2.2.2.2.2.2.2.2.2.2.2.1 s.2.2.2.2.2.2.2.2.2.2.2.2.2.2.2.1 s.2.2.2.2.2.2.2.2.2.2.2.2.2.2.2.2, fun e h => (gI e 10, gN e 56, gF e 56, gS e 56, gI e 57, gI e 58, hP h 0 0, hP h 0 1, hP h 0 2, hP h 0 3, hP h 0 4, hI h 1 0, hI h 1 1, hI h 1 2, hI h 1 3, oM h 2, oM h 3), [], [3, 9, 10, 56, 57, 58], [], fun p => ∀ (x10 : Int) (n56 : Bool) (f56 : Bool) (s56 : List (List PV)) (x57 : Int) (x58 : Int) (h0_0 : PV) (h0_1 : PV) (h0_2 : PV) (h0_3 : PV) (h0_4 : PV) (h1_0 : Int) (h1_1 : Int) (h1_2 : Int) (h1_3 : Int) (m_2 : List (PV × PV)) (m_3 : List (PV × PV)), p (x10, n56, f56, s56, x57, x58, h0_0, h0_1, h0_2, h0_3, h0_4, h1_0, h1_1, h1_2, h1_3, m_2, m_3), fun p h s => h s.1 s.2.1 s.2.2.1 s.2.2.2.1 s.2.2.2.2.1 s.2.2.2.2.2.1 s.2.2.2.2.2.2.1 s.2.2.2.2.2.2.2.1 s.2.2.2.2.2.2.2.2.1 s.2.2.2.2.2.2.2.2.2.1 s.2.2.2.2.2.2.2.2.2.2.1 s.2.2.2.2.2.2.2.2.2.2.2.1 s.2.2.2.2.2.2.2.2.2.2.2.2.1 s.2.2.2.2.2.2.2.2.2.2.2.2.2.1 s.2.2.2.2.2.2.2.2.2.2.2.2.2.2.1 s.2.2.2.2.2.2.2.2.2.2.2.2.2.2.2.1 s.2.2.2.2.2.2.2.2.2.2.2.2.2.2.2.2⟩ | _ => none) (Try.f14.body.getD .skip) [.sl n f es] R = r_ucd_Build n f es J μ J2 μ2 J3 μ3 R := by kernel_rfl
theorem a_ucd_Build (n f : Bool) (es : List (List PV)) (J : (Bool) → (Bool) → (List (List PV)) → (Bool) → (Bool) → (List (List PV)) → (Int) → (Int) → (PV) → (PV) → (PV) → (PV) → (Bool) → (List (List PV)) → (List (PV × PV)) → (List (PV × PV)) → Prop) (μ : (Bool) → (Bool) → (List (List PV)) → (Bool) → (Bool) → (List (List PV)) → (Int) → (Int) → (PV) → (PV) → (PV) → (PV) → (Bool) → (List (List PV)) → (List (PV × PV)) → (List (PV × PV)) → Nat) (J2 : (Bool) → (Bool) → (List (List PV)) → (Int) → (Int) → (PV) → (PV) → (PV) → (PV) → (PV) → (List (PV × PV)) → (List (PV × PV)) → Prop) (μ2 : (Bool) → (Bool) → (List (List PV)) → (Int) → (Int) → (PV) → (PV) → (PV) → (PV) → (PV) → (List (PV × PV)) → (List (PV × PV)) → Nat) (J3 : (Int) → (Bool) → (Bool) → (List (List PV)) → (Int) → (Int) → (PV) → (PV) → (PV) → (PV) → (PV) → (Int) → (Int) → (Int) → (Int) → (List (PV × PV)) → (List (PV × PV)) → (Int) → (Bool) → (Bool) → (List (List PV)) → (Int) → (Int) → (PV) → (PV) → (PV) → (PV) → (PV) → (Int) → (Int) → (Int) → (Int) → (List (PV × PV)) → (List (PV × PV)) → Prop) (μ3 : (Int) → (Bool) → (Bool) → (List (List PV)) → (Int) → (Int) → (PV) → (PV) → (PV) → (PV) → (PV) → (Int) → (Int) → (Int) → (Int) → (List (PV × PV)) → (List (PV × PV)) → Nat) {R : PV → Prop} (h : r_ucd_Build n f es J μ J2 μ2 J3 μ3 R) : PCall Try.prog 14 [.sl n f es] R :=
  PCall.of Try.func14 (by kernel_rfl) (by kernel_rfl) (Nat.le_of_ble_eq_true (by kernel_rfl)) (Eq.mpr (e_ucd_Build n f es J μ J2 μ2 J3 μ3 R) h)

end Go.Eng
set_option linter.unusedVariables false
set_option maxRecDepth 100000
set_option linter.constructorNameAsVariable false
namespace Go.Eng
open Go Go.Proofs
def r_rows_rest (a b c d : Int) (n1 : Bool) (es : List (List PV)) (J : (Int) → (Int) → (Int) → (Int) → (Int) → (Bool) → (List (List PV)) → Prop) (μ : (Int) → (Int) → (Int) → (Int) → (Int) → (Bool) → (List (List PV)) → Nat) (R : LV → Hp → Prop) : Prop :=
 (Same1 ([(2, LV.box 1 0), (5, LV.own 2), (8, LV.own 0), (9, LV.pv (PV.int .i64 (↑es.length : Int))), (10, LV.pv (PV.int .i64 (0 : Int)))], [Ob.sl (58, 4) false n1 es, Ob.box [LV.pv (PV.int .i64 a), LV.pv (PV.int .i64 b), LV.pv (PV.int .i64
 c), LV.pv (PV.int .i64 d)], Ob.sl (58, 4) true true []]) ∧ J (0 : Int) a b c d true []) ∧ ∀ (x10 h1_0 h1_1 h1_2 h1_3 : Int) (n_2 : Bool) (s_2 : List (List PV)), J x10 h1_0 h1_1 h1_2 h1_3 n_2 s_2 → if decide (x10 < (↑es.length : Int)) = true
 then idxOK es x10 4 ∧ ∃ (n : Int), (List.drop 0 (es.getD x10.toNat [])).head? = some (PV.int .i64 n) ∧ ∃ (n2 : Int), (List.drop 0 (es.getD x10.toNat [])).tail.head? = some (PV.int .i64 n2) ∧ ∃ (n3 : Int), (List.drop 0 (es.getD x10.toNat
 [])).tail.tail.head? = some (PV.int .i64 n3) ∧ ∃ (n4 : Int), (List.drop 0 (es.getD x10.toNat [])).tail.tail.tail.head? = some (PV.int .i64 n4) ∧ if decide (n2 < h1_0) = true then Same1 ([(2, LV.box 1 0), (5, LV.own 2), (8, LV.own 0), (9,
 LV.pv (PV.int .i64 (↑es.length : Int))), (10, LV.pv (PV.int .i64 (IntKind.i64.wrap (x10 + (1 : Int)))))], [Ob.sl (58, 4) false n1 es, Ob.box [LV.pv (PV.int .i64 h1_0), LV.pv (PV.int .i64 h1_1), LV.pv (PV.int .i64 h1_2), LV.pv (PV.int .i64
 h1_3)], Ob.sl (58, 4) true n_2 s_2]) ∧ J (IntKind.i64.wrap (x10 + (1 : Int))) h1_0 h1_1 h1_2 h1_3 n_2 s_2 ∧ μ (IntKind.i64.wrap (x10 + (1 : Int))) h1_0 h1_1 h1_2 h1_3 n_2 s_2 < μ x10 h1_0 h1_1 h1_2 h1_3 n_2 s_2 else if decide (n > h1_1) =
 true then Same1 ([(2, LV.box 1 0), (5, LV.own 2), (8, LV.own 0), (9, LV.pv (PV.int .i64 (↑es.length : Int))), (10, LV.pv (PV.int .i64 (IntKind.i64.wrap (x10 + (1 : Int)))))], [Ob.sl (58, 4) false n1 es, Ob.box [LV.pv (PV.int .i64 h1_0),
 LV.pv (PV.int .i64 h1_1), LV.pv (PV.int .i64 h1_2), LV.pv (PV.int .i64 h1_3)], Ob.sl (58, 4) true n_2 s_2]) ∧ J (IntKind.i64.wrap (x10 + (1 : Int))) h1_0 h1_1 h1_2 h1_3 n_2 s_2 ∧ μ (IntKind.i64.wrap (x10 + (1 : Int))) h1_0 h1_1 h1_2 h1_3
 n_2 s_2 < μ x10 h1_0 h1_1 h1_2 h1_3 n_2 s_2 else if decide (n > h1_0) = true then (szOK [[PV.int .i64 h1_0, PV.int .i64 (IntKind.i64.wrap (n - (1 : Int))), PV.int .i64 h1_2, PV.int .i64 h1_3]] 4 ∧ (s_2.length + 1) * 32 ≤ 140737488355328) ∧
 Same1 ([(2, LV.box 1 0), (5, LV.own 2), (8, LV.own 0), (9, LV.pv (PV.int .i64 (↑es.length : Int))), (10, LV.pv (PV.int .i64 (IntKind.i64.wrap (x10 + (1 : Int)))))], [Ob.sl ((58 : Nat), 4) false n1 es, Ob.box [LV.pv (PV.int .i64
 (IntKind.i64.wrap (n2 + (1 : Int)))), LV.pv (PV.int .i64 h1_1), LV.pv (PV.int .i64 h1_2), LV.pv (PV.int .i64 h1_3)], Ob.sl (58, 4) true (n_2 && false) (s_2 ++ [[PV.int .i64 h1_0, PV.int .i64 (IntKind.i64.wrap (n - (1 : Int))), PV.int .i64
 h1_2, PV.int .i64 h1_3]])]) ∧ J (IntKind.i64.wrap (x10 + (1 : Int))) (IntKind.i64.wrap (n2 + (1 : Int))) h1_1 h1_2 h1_3 (n_2 && false) (s_2 ++ [[PV.int .i64 h1_0, PV.int .i64 (IntKind.i64.wrap (n - (1 : Int))), PV.int .i64 h1_2, PV.int .i64
 h1_3]]) ∧ μ (IntKind.i64.wrap (x10 + (1 : Int))) (IntKind.i64.wrap (n2 + (1 : Int))) h1_1 h1_2 h1_3 (n_2 && false) (s_2 ++ [[PV.int .i64 h1_0, PV.int .i64 (IntKind.i64.wrap (n - (1 : Int))), PV.int .i64 h1_2, PV.int .i64 h1_3]]) < μ x10
 h1_0 h1_1 h1_2 h1_3 n_2 s_2 else Same1 ([(2, LV.box 1 0), (5, LV.own 2), (8, LV.own 0), (9, LV.pv (PV.int .i64 (↑es.length : Int))), (10, LV.pv (PV.int .i64 (IntKind.i64.wrap (x10 + (1 : Int)))))], [Ob.sl (58, 4) false n1 es, Ob.box [LV.pv
 (PV.int .i64 (IntKind.i64.wrap (n2 + (1 : Int)))), LV.pv (PV.int .i64 h1_1), LV.pv (PV.int .i64 h1_2), LV.pv (PV.int .i64 h1_3)], Ob.sl (58, 4) true n_2 s_2]) ∧ J (IntKind.i64.wrap (x10 + (1 : Int))) (IntKind.i64.wrap (n2 + (1 : Int))) h1_1
 h1_2 h1_3 n_2 s_2 ∧ μ (IntKind.i64.wrap (x10 + (1 : Int))) (IntKind.i64.wrap (n2 + (1 : Int))) h1_1 h1_2 h1_3 n_2 s_2 < μ x10 h1_0 h1_1 h1_2 h1_3 n_2 s_2 else if decide (h1_0 ≤ h1_1) = true then (szOK [[PV.int .i64 h1_0, PV.int .i64 h1_1,
 PV.int .i64 h1_2, PV.int .i64 h1_3]] 4 ∧ (s_2.length + (1 : Nat)) * 32 ≤ 140737488355328) ∧ R (LV.own 1) [Ob.sl (58, 4) false n1 es, Ob.sl (58, 4) true (n_2 && false) (s_2 ++ [[PV.int .i64 h1_0, PV.int .i64 h1_1, PV.int .i64 h1_2, PV.int
 .i64 h1_3]])] else R (LV.own 1) [Ob.sl (58, 4) false n1 es, Ob.sl (58, 4) true n_2 s_2]
theorem e_rows_rest (a b c d : Int) (n1 : Bool) (es : List (List PV)) (J : (Int) → (Int) → (Int) → (Int) → (Int) → (Bool) → (List (List PV)) → Prop) (μ : (Int) → (Int) → (Int) → (Int) → (Int) → (Bool) → (List (List PV)) → Nat) (R : LV → Hp → Prop) : aFnH Try.prog (fun _ => none) Try.f75 [0, 1, 2, 4, 5, 7, 8, 9, 10, 11, 25, 30, 53] (fun zz_ => match zz_ with | 3 => some ⟨Int × Int × Int × Int × Int × Bool × (List (List PV)), fun s => (fun (x10 : Int) (h1_0 : Int) (h1_1 : Int) (h1_2 : Int) (h1_3 : Int) (n_2 : Bool) (s_2 : List (List PV)) => ([(2, LV.box 1 0), (5, LV.own 2), (8, LV.own 0), (9, LV.pv (PV.int IntKind.i64 ↑es.length)), (10, .pv (.int IntKind.i64 x10))], [.sl (58, 4) false n1 es, .box [.pv (.int IntKind.i64 h1_0), .pv (.int IntKind.i64 h1_1), .pv (.int IntKind.i64 h1_2), .pv (.int IntKind.i64 h1_3)], .sl (58, 4) true n_2 s_2])) s.1 s.2.1 s.2.2.1 s.2.2.2.1 s.2.2.2.2.1 s.2.2.2.2.2.1 s.2.2.2.2.2.2, fun _ s => J s.1 s.2.1 s.2.2.1 s.2.2.2.1 s.2.2.2.2.1 s.2.2.2.2.2.1 s.2.2.2.2.2.2, fun s => μ s.1 s.2.1 s.2.2.1 s.2.2.2.1 s.2.2.2.2.1 s.2.2.2.2.2.1 s.2.2.2.2.2.2, fun e h => (gI e 10, hI h 1 0, hI h 1 1, hI h 1 2, hI h 1 3, oN h 2, oS h 2), [(5, 58, 4)], [2, 5, 8, 9, 10], [], fun p => ∀ (x10 : Int) (h1_0 : Int) (h1_1 : Int) (h1_2 : Int) (h1_3 : Int) (n_2 : Bool) (s_2 : List (List PV)), p (x10, h1_0, h1_1, h1_2, h1_3, n_2, s_2), fun p h s => h s.1 s.2.1 s.2.2.1 s.2.2.2.1 s.2.2.2.2.1 s.2.2.2.2.2.1 s.2.2.2.2.2.2⟩ | _ => none) [0, 2] (Try.f75.body.getD .skip) [.pv (.agg [.int .i64 a, .int .i64 b, .int .i64 c, .int .i64 d]), .own 0] [.sl (58, 4) false n1 es] R = r_rows_rest a b c d n1 es J μ R := by kernel_rfl
theorem a_rows_rest (a b c d : Int) (n1 : Bool) (es : List (List PV)) (J : (Int) → (Int) → (Int) → (Int) → (Int) → (Bool) → (List (List PV)) → Prop) (μ : (Int) → (Int) → (Int) → (Int) → (Int) → (Bool) → (List (List PV)) → Nat) {R : LV → Hp → Prop} (h : r_rows_rest a b c d n1 es J μ R) : ACall Try.prog 75 [.pv (.agg [.int .i64 a, .int .i64 b, .int .i64 c, .int .i64 d]), .own 0] [.sl (58, 4) false n1 es] R :=
  ACall.of Try.func75 (by kernel_rfl) (by kernel_rfl) (Nat.le_of_ble_eq_true (by kernel_rfl)) (Eq.mpr (e_rows_rest a b c d n1 es J μ R) h)

def r_rows_joined (n f : Bool) (es : List (List PV)) (J : (Int) → (Bool) → (List (List PV)) → Prop) (μ : (Int) → (Bool) → (List (List PV)) → Nat) (R : PV → Prop) : Prop :=
 (Same1 ([(3, LV.own 0), (7, LV.pv (PV.sl n f es)), (8, LV.pv (PV.int .i64 (↑es.length : Int))), (9, LV.pv (PV.int .i64 (0 : Int)))], [Ob.sl (58, 4) true true []]) ∧ J (0 : Int) true []) ∧ ∀ (x9 : Int) (n_0 : Bool) (s_0 : List (List PV)), J
 x9 n_0 s_0 → if decide (x9 < (↑es.length : Int)) = true then idxOK es x9 4 ∧ ∃ (n1 : Int), (es.getD x9.toNat []).head? = some (PV.int .i64 n1) ∧ ∃ (n2 : Int), (es.getD x9.toNat []).tail.head? = some (PV.int .i64 n2) ∧ ∃ (n3 : Int), (es.getD
 x9.toNat []).tail.tail.head? = some (PV.int .i64 n3) ∧ ∃ (n4 : Int), (es.getD x9.toNat []).tail.tail.tail.head? = some (PV.int .i64 n4) ∧ if decide (IntKind.i64.wrap ((↑s_0.length : Int) - (1 : Int)) ≥ (0 : Int)) = true then idxOK s_0
 (IntKind.i64.wrap ((↑s_0.length : Int) - (1 : Int))) 4 ∧ ∃ (n5 : Int), (List.drop 1 (s_0.getD (IntKind.i64.wrap ((↑s_0.length : Int) - (1 : Int))).toNat [])).head? = some (PV.int .i64 n5) ∧ if (IntKind.i64.wrap (n5 + (1 : Int)) == n1) =
 true then idxOK s_0 (IntKind.i64.wrap ((↑s_0.length : Int) - (1 : Int))) 4 ∧ ∃ (n6 : Int), (List.drop 2 (s_0.getD (IntKind.i64.wrap ((↑s_0.length : Int) - (1 : Int))).toNat [])).head? = some (PV.int .i64 n6) ∧ if (n6 == n3) = true then
 idxOK s_0 (IntKind.i64.wrap ((↑s_0.length : Int) - (1 : Int))) 4 ∧ ∃ (n7 : Int), (List.drop 3 (s_0.getD (IntKind.i64.wrap ((↑s_0.length : Int) - (1 : Int))).toNat [])).head? = some (PV.int .i64 n7) ∧ if (n7 == n4) = true then idxOK s_0
 (IntKind.i64.wrap ((↑s_0.length : Int) - (1 : Int))) 4 ∧ (1 = 1 ∧ 2 ≤ (s_0.getD (IntKind.i64.wrap ((↑s_0.length : Int) - (1 : Int))).toNat []).length) ∧ Same1 ([(3, LV.own 0), (7, LV.pv (PV.sl n f es)), (8, LV.pv (PV.int .i64 (↑es.length :
 Int))), (9, LV.pv (PV.int .i64 (IntKind.i64.wrap (x9 + (1 : Int)))))], [Ob.sl (58, 4) true n_0 (s_0.set (IntKind.i64.wrap ((↑s_0.length : Int) - (1 : Int))).toNat (spl (s_0.getD (IntKind.i64.wrap ((↑s_0.length : Int) - (1 : Int))).toNat [])
 1 [PV.int .i64 n2]))]) ∧ J (IntKind.i64.wrap (x9 + (1 : Int))) n_0 (s_0.set (IntKind.i64.wrap ((↑s_0.length : Int) - (1 : Int))).toNat (spl (s_0.getD (IntKind.i64.wrap ((↑s_0.length : Int) - (1 : Int))).toNat []) 1 [PV.int .i64 n2])) ∧ μ
 (IntKind.i64.wrap (x9 + (1 : Int))) n_0 (s_0.set (IntKind.i64.wrap ((↑s_0.length : Int) - (1 : Int))).toNat (spl (s_0.getD (IntKind.i64.wrap ((↑s_0.length : Int) - (1 : Int))).toNat []) 1 [PV.int .i64 n2])) < μ x9 n_0 s_0 else (szOK
 [[PV.int .i64 n1, PV.int .i64 n2, PV.int .i64 n3, PV.int .i64 n4]] 4 ∧ (s_0.length + 1) * 32 ≤ 140737488355328) ∧ Same1 ([(3, LV.own 0), (7, LV.pv (PV.sl n f es)), (8, LV.pv (PV.int .i64 (↑es.length : Int))), (9, LV.pv (PV.int .i64
 (IntKind.i64.wrap (x9 + (1 : Int)))))], [Ob.sl (58, 4) true (n_0 && false) (s_0 ++ [[PV.int .i64 n1, PV.int .i64 n2, PV.int .i64 n3, PV.int .i64 n4]])]) ∧ J (IntKind.i64.wrap (x9 + (1 : Int))) (n_0 && false) (s_0 ++ [[PV.int .i64 n1, PV.int
 .i64 n2, PV.int .i64 n3, PV.int .i64 n4]]) ∧ μ (IntKind.i64.wrap (x9 + (1 : Int))) (n_0 && false) (s_0 ++ [[PV.int .i64 n1, PV.int .i64 n2, PV.int .i64 n3, PV.int .i64 n4]]) < μ x9 n_0 s_0 else (szOK [[PV.int .i64 n1, PV.int .i64 n2, PV.int
 .i64 n3, PV.int .i64 n4]] 4 ∧ (s_0.length + 1) * 32 ≤ 140737488355328) ∧ Same1 ([(3, LV.own 0), (7, LV.pv (PV.sl n f es)), (8, LV.pv (PV.int .i64 (↑es.length : Int))), (9, LV.pv (PV.int .i64 (IntKind.i64.wrap (x9 + (1 : Int)))))], [Ob.sl
 (58, 4) true (n_0 && false) (s_0 ++ [[PV.int .i64 n1, PV.int .i64 n2, PV.int .i64 n3, PV.int .i64 n4]])]) ∧ J (IntKind.i64.wrap (x9 + (1 : Int))) (n_0 && false) (s_0 ++ [[PV.int .i64 n1, PV.int .i64 n2, PV.int .i64 n3, PV.int .i64 n4]]) ∧ μ
 (IntKind.i64.wrap (x9 + (1 : Int))) (n_0 && false) (s_0 ++ [[PV.int .i64 n1, PV.int .i64 n2, PV.int .i64 n3, PV.int .i64 n4]]) < μ x9 n_0 s_0 else (szOK [[PV.int .i64 n1, PV.int .i64 n2, PV.int .i64 n3, PV.int .i64 n4]] 4 ∧ (s_0.length + 1)
 * 32 ≤ 140737488355328) ∧ Same1 ([(3, LV.own 0), (7, LV.pv (PV.sl n f es)), (8, LV.pv (PV.int .i64 (↑es.length : Int))), (9, LV.pv (PV.int .i64 (IntKind.i64.wrap (x9 + (1 : Int)))))], [Ob.sl (58, 4) true (n_0 && false) (s_0 ++ [[PV.int .i64
 n1, PV.int .i64 n2, PV.int .i64 n3, PV.int .i64 n4]])]) ∧ J (IntKind.i64.wrap (x9 + (1 : Int))) (n_0 && false) (s_0 ++ [[PV.int .i64 n1, PV.int .i64 n2, PV.int .i64 n3, PV.int .i64 n4]]) ∧ μ (IntKind.i64.wrap (x9 + (1 : Int))) (n_0 &&
 false) (s_0 ++ [[PV.int .i64 n1, PV.int .i64 n2, PV.int .i64 n3, PV.int .i64 n4]]) < μ x9 n_0 s_0 else (szOK [[PV.int .i64 n1, PV.int .i64 n2, PV.int .i64 n3, PV.int .i64 n4]] 4 ∧ (s_0.length + 1) * 32 ≤ 140737488355328) ∧ Same1 ([(3,
 LV.own 0), (7, LV.pv (PV.sl n f es)), (8, LV.pv (PV.int .i64 (↑es.length : Int))), (9, LV.pv (PV.int .i64 (IntKind.i64.wrap (x9 + (1 : Int)))))], [Ob.sl (58, 4) true (n_0 && false) (s_0 ++ [[PV.int .i64 n1, PV.int .i64 n2, PV.int .i64 n3,
 PV.int .i64 n4]])]) ∧ J (IntKind.i64.wrap (x9 + (1 : Int))) (n_0 && false) (s_0 ++ [[PV.int .i64 n1, PV.int .i64 n2, PV.int .i64 n3, PV.int .i64 n4]]) ∧ μ (IntKind.i64.wrap (x9 + (1 : Int))) (n_0 && false) (s_0 ++ [[PV.int .i64 n1, PV.int
 .i64 n2, PV.int .i64 n3, PV.int .i64 n4]]) < μ x9 n_0 s_0 else R (PV.sl n_0 false s_0)
theorem e_rows_joined (n f : Bool) (es : List (List PV)) (J : (Int) → (Bool) → (List (List PV)) → Prop) (μ : (Int) → (Bool) → (List (List PV)) → Nat) (R : PV → Prop) : aFn Try.prog (fun _ => none) Try.f77 [0, 2, 3, 5, 6, 7, 8, 9, 10, 48] (fun zz_ => match zz_ with | 3 => some ⟨Int × Bool × (List (List PV)), fun s => (fun (x9 : Int) (n_0 : Bool) (s_0 : List (List PV)) => ([(3, LV.own 0), (7, LV.pv (PV.sl n f es)), (8, LV.pv (PV.int IntKind.i64 ↑es.length)), (9, .pv (.int IntKind.i64 x9))], [.sl (58, 4) true n_0 s_0])) s.1 s.2.1 s.2.2, fun _ s => J s.1 s.2.1 s.2.2, fun s => μ s.1 s.2.1 s.2.2, fun e h => (gI e 9, oN h 0, oS h 0), [(3, 58, 4)], [3, 7, 8, 9], [], fun p => ∀ (x9 : Int) (n_0 : Bool) (s_0 : List (List PV)), p (x9, n_0, s_0), fun p h s => h s.1 s.2.1 s.2.2⟩ | _ => none) (Try.f77.body.getD .skip) [.sl n f es] R = r_rows_joined n f es J μ R := by kernel_rfl
theorem a_rows_joined (n f : Bool) (es : List (List PV)) (J : (Int) → (Bool) → (List (List PV)) → Prop) (μ : (Int) → (Bool) → (List (List PV)) → Nat) {R : PV → Prop} (h : r_rows_joined n f es J μ R) : PCall Try.prog 77 [.sl n f es] R :=
  PCall.of Try.func77 (by kernel_rfl) (by kernel_rfl) (Nat.le_of_ble_eq_true (by kernel_rfl)) (Eq.mpr (e_rows_joined n f es J μ R) h)

def r_cmp_isNaN_int (x : Int) (R : PV → Prop) : Prop :=
 R (PV.bool (x != x))
theorem e_cmp_isNaN_int (x : Int) (R : PV → Prop) : aFn Try.prog (fun _ => none) Try.f88 [0, 2] (fun _ => none) (Try.f88.body.getD .skip) [.int .i64 x] R = r_cmp_isNaN_int x R := by kernel_rfl
theorem a_cmp_isNaN_int (x : Int) {R : PV → Prop} (h : r_cmp_isNaN_int x R) : PCall Try.prog 88 [.int .i64 x] R :=
  PCall.of Try.func88 (by kernel_rfl) (by kernel_rfl) (Nat.le_of_ble_eq_true (by kernel_rfl)) (Eq.mpr (e_cmp_isNaN_int x R) h)

def r_cmp_Compare_int (x y : Int) (R : PV → Prop) : Prop :=
 PCall Try.prog 88 [PV.int .i64 x] fun (v : PV) ↦ ∃ (b : Bool), v = PV.bool b ∧ PCall Try.prog 88 [PV.int .i64 y] fun (v1 : PV) ↦ ∃ (b1 : Bool), v1 = PV.bool b1 ∧ if b = true then if b1 = true then R (PV.int .i64 (0 : Int)) else R (PV.int
 .i64 (-1 : Int)) else if b1 = true then R (PV.int .i64 (1 : Int)) else if decide (x < y) = true then R (PV.int .i64 (-1 : Int)) else if decide (x > y) = true then R (PV.int .i64 (1 : Int)) else R (PV.int .i64 (0 : Int))
theorem e_cmp_Compare_int (x y : Int) (R : PV → Prop) : aFn Try.prog (fun _ => none) Try.f65 [0, 1, 4, 5, 6, 11, 12, 13, 16, 19] (fun _ => none) (Try.f65.body.getD .skip) [.int .i64 x, .int .i64 y] R = r_cmp_Compare_int x y R := by kernel_rfl
theorem a_cmp_Compare_int (x y : Int) {R : PV → Prop} (h : r_cmp_Compare_int x y R) : PCall Try.prog 65 [.int .i64 x, .int .i64 y] R :=
  PCall.of Try.func65 (by kernel_rfl) (by kernel_rfl) (Nat.le_of_ble_eq_true (by kernel_rfl)) (Eq.mpr (e_cmp_Compare_int x y R) h)

def r_rows_Of_1 (a b c d a2 b2 c2 d2 : Int) (R : PV → Prop) : Prop :=
 PCall Try.prog 65 [PV.int .i64 a, PV.int .i64 a2] fun (v : PV) ↦ ∃ (n : Int), v = PV.int .i64 n ∧ R (PV.int .i64 n)
theorem e_rows_Of_1 (a b c d a2 b2 c2 d2 : Int) (R : PV → Prop) : aFn Try.prog (fun _ => none) Try.f74 [0, 1, 2, 3, 4] (fun _ => none) (Try.f74.body.getD .skip) [.agg [.int .i64 a, .int .i64 b, .int .i64 c, .int .i64 d], .agg [.int .i64 a2, .int .i64 b2, .int .i64 c2, .int .i64 d2]] R = r_rows_Of_1 a b c d a2 b2 c2 d2 R := by kernel_rfl
theorem a_rows_Of_1 (a b c d a2 b2 c2 d2 : Int) {R : PV → Prop} (h : r_rows_Of_1 a b c d a2 b2 c2 d2 R) : PCall Try.prog 74 [.agg [.int .i64 a, .int .i64 b, .int .i64 c, .int .i64 d], .agg [.int .i64 a2, .int .i64 b2, .int .i64 c2, .int .i64 d2]] R :=
  PCall.of Try.func74 (by kernel_rfl) (by kernel_rfl) (Nat.le_of_ble_eq_true (by kernel_rfl)) (Eq.mpr (e_rows_Of_1 a b c d a2 b2 c2 d2 R) h)

def r_rows_Of (n f : Bool) (es : List (List PV)) (k : Int) (J : (Int) → (Bool) → (List (List PV)) → Prop) (μ : (Int) → (Bool) → (List (List PV)) → Nat) (R : PV → Prop) : Prop :=
 (Same1 ([(1, LV.pv (PV.int .i64 k)), (5, LV.own 0), ((6 : Nat), LV.pv (PV.fn 74 [])), (10, LV.pv (PV.sl n f es)), (11, LV.pv (PV.int .i64 (↑es.length : Int))), (12, LV.pv (PV.int .i64 (0 : Int)))], [Ob.sl (58, 4) true true []]) ∧ J (0 :
 Int) true []) ∧ ∀ (x12 : Int) (n_0 : Bool) (s_0 : List (List PV)), J x12 n_0 s_0 → if decide (x12 < (↑es.length : Int)) = true then idxOK es x12 5 ∧ ∃ (n1 : Int), (es.getD x12.toNat []).head? = some (PV.int .i64 n1) ∧ ∃ (n2 : Int), (es.getD
 x12.toNat []).tail.head? = some (PV.int .i64 n2) ∧ ∃ (n3 : Int), (es.getD x12.toNat []).tail.tail.head? = some (PV.int .i64 n3) ∧ ∃ (n4 : Int), (es.getD x12.toNat []).tail.tail.tail.head? = some (PV.int .i64 n4) ∧ ∃ (n5 : Int), (es.getD
 x12.toNat []).tail.tail.tail.tail.head? = some (PV.int .i64 n5) ∧ if (n1 != k) = true then Same1 ([(1, LV.pv (PV.int .i64 k)), (5, LV.own 0), (6, LV.pv (PV.fn 74 [])), (10, LV.pv (PV.sl n f es)), (11, LV.pv (PV.int .i64 (↑es.length :
 Int))), (12, LV.pv (PV.int .i64 (IntKind.i64.wrap (x12 + (1 : Int)))))], [Ob.sl (58, 4) true n_0 s_0]) ∧ J (IntKind.i64.wrap (x12 + (1 : Int))) n_0 s_0 ∧ μ (IntKind.i64.wrap (x12 + (1 : Int))) n_0 s_0 < μ x12 n_0 s_0 else ACall Try.prog 75
 [LV.pv (PV.agg [PV.int .i64 (if n2 < (0 : Int) then (0 : Int) else n2), PV.int .i64 (if (1114111 : Int) < n3 then (1114111 : Int) else n3), PV.int .i64 n4, PV.int .i64 n5]), LV.own 0] [Ob.sl (58, 4) false n_0 s_0] fun (r : LV) (h' : Hp) ↦ ∃
 (t : Bool × List (List PV)), (r = LV.own 1 ∧ h' = [Ob.sl (58, 4) false n_0 s_0, Ob.sl (58, 4) true t.fst t.snd]) ∧ (((58, 4) = (58, 4) ∧ n_0 = n_0 ∧ s_0.length = s_0.length) ∧ True) ∧ (szOK t.snd 4 ∧ (s_0.length + t.snd.length) * 32 ≤
 140737488355328) ∧ ACall Try.prog 76 [LV.own 0, LV.pv (PV.fn 74 [])] [Ob.sl (58, 4) false (n_0 && t.snd.isEmpty) (s_0 ++ t.snd)] fun (r1 : LV) (h'1 : Hp) ↦ ∃ (t1 : List (List PV)), (r1 = LV.tup [] ∧ h'1 = [Ob.sl (58, 4) false (n_0 &&
 t.snd.isEmpty) t1]) ∧ (((58, 4) = (58, 4) ∧ (n_0 && t.snd.isEmpty) = (n_0 && t.snd.isEmpty) ∧ (s_0 ++ t.snd).length = t1.length) ∧ True) ∧ Same1 ([(1, LV.pv (PV.int .i64 k)), (5, LV.own 0), (6, LV.pv (PV.fn 74 [])), (10, LV.pv (PV.sl n f
 es)), (11, LV.pv (PV.int .i64 (↑es.length : Int))), (12, LV.pv (PV.int .i64 (IntKind.i64.wrap (x12 + (1 : Int)))))], [Ob.sl (58, 4) true (n_0 && t.snd.isEmpty) t1]) ∧ J (IntKind.i64.wrap (x12 + (1 : Int))) (n_0 && t.snd.isEmpty) t1 ∧ μ
 (IntKind.i64.wrap (x12 + (1 : Int))) (n_0 && t.snd.isEmpty) t1 < μ x12 n_0 s_0 else PCall Try.prog 77 [PV.sl n_0 false s_0] fun (v : PV) ↦ ∃ (n1 : Bool), ∃ (f1 : Bool), ∃ (es1 : List (List PV)), v = PV.sl n1 f1 es1 ∧ R (PV.sl n1 f1 es1)
theorem e_rows_Of (n f : Bool) (es : List (List PV)) (k : Int) (J : (Int) → (Bool) → (List (List PV)) → Prop) (μ : (Int) → (Bool) → (List (List PV)) → Nat) (R : PV → Prop) : aFn Try.prog (fun zz_ => match zz_ with | 75 => some ⟨Bool × List (List PV), fun _ hs t => (.own 1, hs ++ [.sl (58, 4) true t.1 t.2]), none⟩ | 76 => some ⟨List (List PV), fun _ hs t => (.tup [], match hs with | [.sl ty _ nl es] => [.sl ty false nl t] | h => h), none⟩ | _ => none) Try.f47 [0, 1, 4, 5, 6, 8, 9, 10, 11, 12, 13, 19] (fun zz_ => match zz_ with | 4 => some ⟨Int × Bool × (List (List PV)), fun s => (fun (x12 : Int) (n_0 : Bool) (s_0 : List (List PV)) => ([(1, LV.pv (PV.int IntKind.i64 k)), (5, LV.own 0), (6, LV.pv (PV.fn 74 [])), (10, LV.pv (PV.sl n f es)), (11, LV.pv (PV.int IntKind.i64 ↑es.length)), (12, .pv (.int IntKind.i64 x12))], [.sl (58, 4) true n_0 s_0])) s.1 s.2.1 s.2.2, fun _ s => J s.1 s.2.1 s.2.2, fun s => μ s.1 s.2.1 s.2.2, fun e h => (gI e 12, oN h 0, oS h 0), [(5, 58, 4)], [1, 5, 6, 10, 11, 12], [], fun p => ∀ (x12 : Int) (n_0 : Bool) (s_0 : List (List PV)), p (x12, n_0, s_0), fun p h s => h s.1 s.2.1 s.2.2⟩ | _ => none) (Try.f47.body.getD .skip) [.sl n f es, .int .i64 k] R = r_rows_Of n f es k J μ R := by kernel_rfl
theorem a_rows_Of (n f : Bool) (es : List (List PV)) (k : Int) (J : (Int) → (Bool) → (List (List PV)) → Prop) (μ : (Int) → (Bool) → (List (List PV)) → Nat) {R : PV → Prop} (h : r_rows_Of n f es k J μ R) : PCall Try.prog 47 [.sl n f es, .int .i64 k] R :=
  PCall.of Try.func47 (by kernel_rfl) (by kernel_rfl) (Nat.le_of_ble_eq_true (by kernel_rfl)) (Eq.mpr (e_rows_Of n f es k J μ R) h)

def r_typebarref02_Find (n f : Bool) (es : List (List PV)) (k r : Int) (J : (Int) → Prop) (μ : (Int) → Nat) (R : PV → Prop) : Prop :=
 if (decide (r < (0 : Int)) || decide (r > (1114111 : Int))) = true then R (PV.int .i64 (-1 : Int)) else (Same1 ([(0, LV.pv (PV.sl n f es)), (1, LV.pv (PV.int .i64 k)), (2, LV.pv (PV.int .i64 r)), (7, LV.pv (PV.int .i64 (0 : Int)))], []) ∧ J
 (0 : Int)) ∧ ∀ (x7 : Int), J x7 → if decide (x7 < (↑es.length : Int)) = true then idxOK es x7 5 ∧ ∃ (n1 : Int), (List.drop 0 (es.getD x7.toNat [])).head? = some (PV.int .i64 n1) ∧ if (n1 == k) = true then idxOK es x7 5 ∧ ∃ (n2 : Int),
 (List.drop 1 (es.getD x7.toNat [])).head? = some (PV.int .i64 n2) ∧ if decide (n2 ≤ r) = true then idxOK es x7 5 ∧ ∃ (n3 : Int), (List.drop 2 (es.getD x7.toNat [])).head? = some (PV.int .i64 n3) ∧ if decide (r ≤ n3) = true then R (PV.int
 .i64 x7) else Same1 ([(0, LV.pv (PV.sl n f es)), (1, LV.pv (PV.int .i64 k)), (2, LV.pv (PV.int .i64 r)), (7, LV.pv (PV.int .i64 (IntKind.i64.wrap (x7 + (1 : Int)))))], []) ∧ J (IntKind.i64.wrap (x7 + (1 : Int))) ∧ μ (IntKind.i64.wrap (x7 +
 (1 : Int))) < μ x7 else Same1 ([(0, LV.pv (PV.sl n f es)), (1, LV.pv (PV.int .i64 k)), (2, LV.pv (PV.int .i64 r)), (7, LV.pv (PV.int .i64 (IntKind.i64.wrap (x7 + (1 : Int)))))], []) ∧ J (IntKind.i64.wrap (x7 + (1 : Int))) ∧ μ
 (IntKind.i64.wrap (x7 + (1 : Int))) < μ x7 else Same1 ([(0, LV.pv (PV.sl n f es)), (1, LV.pv (PV.int .i64 k)), (2, LV.pv (PV.int .i64 r)), (7, LV.pv (PV.int .i64 (IntKind.i64.wrap (x7 + (1 : Int)))))], []) ∧ J (IntKind.i64.wrap (x7 + (1 :
 Int))) ∧ μ (IntKind.i64.wrap (x7 + (1 : Int))) < μ x7 else R (PV.int .i64 (-1 : Int))
theorem e_typebarref02_Find (n f : Bool) (es : List (List PV)) (k r : Int) (J : (Int) → Prop) (μ : (Int) → Nat) (R : PV → Prop) : aFn Try.prog (fun _ => none) Try.f85 [0, 1, 2, 6, 7, 13, 17, 44] (fun zz_ => match zz_ with | 4 => some ⟨Int × Unit, fun s => (fun (x7 : Int) => ([(0, LV.pv (PV.sl n f es)), (1, LV.pv (PV.int IntKind.i64 k)), (2, LV.pv (PV.int IntKind.i64 r)), (7, .pv (.int IntKind.i64 x7))], [])) s.1, fun _ s => J s.1, fun s => μ s.1, fun e h => (((gI e 7), ())), [], [0, 1, 2, 7], [], fun p => ∀ (x7 : Int), p (x7, ()), fun p h s => h s.1⟩ | _ => none) (Try.f85.body.getD .skip) [.sl n f es, .int .i64 k, .int .i64 r] R = r_typebarref02_Find n f es k r J μ R := by kernel_rfl
theorem a_typebarref02_Find (n f : Bool) (es : List (List PV)) (k r : Int) (J : (Int) → Prop) (μ : (Int) → Nat) {R : PV → Prop} (h : r_typebarref02_Find n f es k r J μ R) : PCall Try.prog 85 [.sl n f es, .int .i64 k, .int .i64 r] R :=
  PCall.of Try.func85 (by kernel_rfl) (by kernel_rfl) (Nat.le_of_ble_eq_true (by kernel_rfl)) (Eq.mpr (e_typebarref02_Find n f es k r J μ R) h)

def r_rows_At_1 (a b c d t : Int) (R : PV → Prop) : Prop :=
 if decide (b < t) = true then R (PV.int .i64 (-1 : Int)) else if decide (a > t) = true then R (PV.int .i64 (1 : Int)) else R (PV.int .i64 (0 : Int))
theorem e_rows_At_1 (a b c d t : Int) (R : PV → Prop) : aFn Try.prog (fun _ => none) Try.f95 [0, 1, 2, 4, 5, 10] (fun _ => none) (Try.f95.body.getD .skip) [.agg [.int .i64 a, .int .i64 b, .int .i64 c, .int .i64 d], .int .i64 t] R = r_rows_At_1 a b c d t R := by kernel_rfl
theorem a_rows_At_1 (a b c d t : Int) {R : PV → Prop} (h : r_rows_At_1 a b c d t R) : PCall Try.prog 95 [.agg [.int .i64 a, .int .i64 b, .int .i64 c, .int .i64 d], .int .i64 t] R :=
  PCall.of Try.func95 (by kernel_rfl) (by kernel_rfl) (Nat.le_of_ble_eq_true (by kernel_rfl)) (Eq.mpr (e_rows_At_1 a b c d t R) h)

def r_slices_BinarySearchFunc_rows_Span_rows_Span_int (n f : Bool) (es : List (List PV)) (t : Int) (J : (Int) → (Int) → Prop) (μ : (Int) → (Int) → Nat) (R : PV → Prop) : Prop :=
 (Same1 ([(0, LV.pv (PV.sl n f es)), (1, LV.pv (PV.int .i64 t)), (2, LV.pv (PV.fn 95 [])), (8, LV.pv (PV.int .i64 (↑es.length : Int))), (9, LV.pv (PV.int .i64 (0 : Int))), (10, LV.pv (PV.int .i64 (↑es.length : Int)))], []) ∧ J (0 : Int)
 (↑es.length : Int)) ∧ ∀ (x9 x10 : Int), J x9 x10 → if decide (x9 < x10) = true then idxOK es (IntKind.i64.wrap ((IntKind.u64.wrap (IntKind.i64.wrap (x9 + x10))).fdiv ((2 : Int) ^ 1))) 4 ∧ ∃ (n1 : Int), (es.getD (IntKind.i64.wrap
 ((IntKind.u64.wrap (IntKind.i64.wrap (x9 + x10))).fdiv ((2 : Int) ^ 1))).toNat []).head? = some (PV.int .i64 n1) ∧ ∃ (n2 : Int), (es.getD (IntKind.i64.wrap ((IntKind.u64.wrap (IntKind.i64.wrap (x9 + x10))).fdiv ((2 : Int) ^ 1))).toNat
 []).tail.head? = some (PV.int .i64 n2) ∧ ∃ (n3 : Int), (es.getD (IntKind.i64.wrap ((IntKind.u64.wrap (IntKind.i64.wrap (x9 + x10))).fdiv ((2 : Int) ^ 1))).toNat []).tail.tail.head? = some (PV.int .i64 n3) ∧ ∃ (n4 : Int), (es.getD
 (IntKind.i64.wrap ((IntKind.u64.wrap (IntKind.i64.wrap (x9 + x10))).fdiv ((2 : Int) ^ 1))).toNat []).tail.tail.tail.head? = some (PV.int .i64 n4) ∧ PCall Try.prog 95 [PV.agg [PV.int .i64 n1, PV.int .i64 n2, PV.int .i64 n3, PV.int .i64 n4],
 PV.int .i64 t] fun (v : PV) ↦ ∃ (n5 : Int), v = PV.int .i64 n5 ∧ if decide (n5 < (0 : Int)) = true then Same1 ([(0, LV.pv (PV.sl n f es)), (1, LV.pv (PV.int .i64 t)), (2, LV.pv (PV.fn 95 [])), (8, LV.pv (PV.int .i64 (↑es.length : Int))),
 (9, LV.pv (PV.int .i64 (IntKind.i64.wrap (IntKind.i64.wrap ((IntKind.u64.wrap (IntKind.i64.wrap (x9 + x10))).fdiv ((2 : Int) ^ 1)) + (1 : Int))))), (10, LV.pv (PV.int .i64 x10))], []) ∧ J (IntKind.i64.wrap (IntKind.i64.wrap
 ((IntKind.u64.wrap (IntKind.i64.wrap (x9 + x10))).fdiv ((2 : Int) ^ 1)) + (1 : Int))) x10 ∧ μ (IntKind.i64.wrap (IntKind.i64.wrap ((IntKind.u64.wrap (IntKind.i64.wrap (x9 + x10))).fdiv ((2 : Int) ^ 1)) + (1 : Int))) x10 < μ x9 x10 else
 Same1 ([(0, LV.pv (PV.sl n f es)), (1, LV.pv (PV.int .i64 t)), (2, LV.pv (PV.fn 95 [])), (8, LV.pv (PV.int .i64 (↑es.length : Int))), (9, LV.pv (PV.int .i64 x9)), (10, LV.pv (PV.int .i64 (IntKind.i64.wrap ((IntKind.u64.wrap
 (IntKind.i64.wrap (x9 + x10))).fdiv ((2 : Int) ^ 1)))))], []) ∧ J x9 (IntKind.i64.wrap ((IntKind.u64.wrap (IntKind.i64.wrap (x9 + x10))).fdiv ((2 : Int) ^ 1))) ∧ μ x9 (IntKind.i64.wrap ((IntKind.u64.wrap (IntKind.i64.wrap (x9 + x10))).fdiv
 ((2 : Int) ^ 1))) < μ x9 x10 else if decide (x9 < (↑es.length : Int)) = true then idxOK es x9 4 ∧ ∃ (n1 : Int), (es.getD x9.toNat []).head? = some (PV.int .i64 n1) ∧ ∃ (n2 : Int), (es.getD x9.toNat []).tail.head? = some (PV.int .i64 n2) ∧ ∃
 (n3 : Int), (es.getD x9.toNat []).tail.tail.head? = some (PV.int .i64 n3) ∧ ∃ (n4 : Int), (es.getD x9.toNat []).tail.tail.tail.head? = some (PV.int .i64 n4) ∧ PCall Try.prog 95 [PV.agg [PV.int .i64 n1, PV.int .i64 n2, PV.int .i64 n3, PV.int
 .i64 n4], PV.int .i64 t] fun (v : PV) ↦ ∃ (n5 : Int), v = PV.int .i64 n5 ∧ R (PV.tup [PV.int .i64 x9, PV.bool (n5 == (0 : Int))]) else R (PV.tup [PV.int .i64 x9, PV.bool false])
theorem e_slices_BinarySearchFunc_rows_Span_rows_Span_int (n f : Bool) (es : List (List PV)) (t : Int) (J : (Int) → (Int) → Prop) (μ : (Int) → (Int) → Nat) (R : PV → Prop) : aFn Try.prog (fun _ => none) Try.f94 [0, 1, 2, 6, 7, 8, 9, 10, 11, 17, 31] (fun zz_ => match zz_ with | 3 => some ⟨Int × Int, fun s => (fun (x9 : Int) (x10 : Int) => ([(0, LV.pv (PV.sl n f es)), (1, LV.pv (PV.int IntKind.i64 t)), (2, LV.pv (PV.fn 95 [])), (8, LV.pv (PV.int IntKind.i64 ↑es.length)), (9, .pv (.int IntKind.i64 x9)), (10, .pv (.int IntKind.i64 x10))], [])) s.1 s.2, fun _ s => J s.1 s.2, fun s => μ s.1 s.2, fun e h => (gI e 9, gI e 10), [], [0, 1, 2, 8, 9, 10], [], fun p => ∀ (x9 : Int) (x10 : Int), p (x9, x10), fun p h s => h s.1 s.2⟩ | _ => none) (Try.f94.body.getD .skip) [.sl n f es, .int .i64 t, .fn 95 []] R = r_slices_BinarySearchFunc_rows_Span_rows_Span_int n f es t J μ R := by kernel_rfl
theorem a_slices_BinarySearchFunc_rows_Span_rows_Span_int (n f : Bool) (es : List (List PV)) (t : Int) (J : (Int) → (Int) → Prop) (μ : (Int) → (Int) → Nat) {R : PV → Prop} (h : r_slices_BinarySearchFunc_rows_Span_rows_Span_int n f es t J μ R) : PCall Try.prog 94 [.sl n f es, .int .i64 t, .fn 95 []] R :=
  PCall.of Try.func94 (by kernel_rfl) (by kernel_rfl) (Nat.le_of_ble_eq_true (by kernel_rfl)) (Eq.mpr (e_slices_BinarySearchFunc_rows_Span_rows_Span_int n f es t J μ R) h)

def r_rows_At (n f : Bool) (es : List (List PV)) (r : Int) (R : PV → Prop) : Prop :=
 PCall Try.prog 94 [PV.sl n f es, PV.int .i64 (IntKind.i64.wrap r), PV.fn 95 []] fun (v : PV) ↦ ∃ (vs : List PV), v = PV.tup vs ∧ vs.length = (2 : Nat) ∧ ∃ (x : PV), vs.head? = some x ∧ ∃ (n1 : Int), x = PV.int .i64 n1 ∧ ∃ (x1 : PV),
 vs.tail.head? = some x1 ∧ ∃ (b : Bool), x1 = PV.bool b ∧ if (!b) = true then R (PV.tup [PV.agg [PV.int .i64 (0 : Int), PV.int .i64 (0 : Int), PV.int .i64 (0 : Int), PV.int .i64 (0 : Int)], PV.bool false]) else idxOK es n1 4 ∧ ∃ (n2 : Int),
 (es.getD n1.toNat []).head? = some (PV.int .i64 n2) ∧ ∃ (n3 : Int), (es.getD n1.toNat []).tail.head? = some (PV.int .i64 n3) ∧ ∃ (n4 : Int), (es.getD n1.toNat []).tail.tail.head? = some (PV.int .i64 n4) ∧ ∃ (n5 : Int), (es.getD n1.toNat
 []).tail.tail.tail.head? = some (PV.int .i64 n5) ∧ R (PV.tup [PV.agg [PV.int .i64 n2, PV.int .i64 n3, PV.int .i64 n4, PV.int .i64 n5], PV.bool true])
theorem e_rows_At (n f : Bool) (es : List (List PV)) (r : Int) (R : PV → Prop) : aFn Try.prog (fun _ => none) Try.f71 [0, 1, 4, 5, 6, 7, 16] (fun _ => none) (Try.f71.body.getD .skip) [.sl n f es, .int .i32 r] R = r_rows_At n f es r R := by kernel_rfl
theorem a_rows_At (n f : Bool) (es : List (List PV)) (r : Int) {R : PV → Prop} (h : r_rows_At n f es r R) : PCall Try.prog 71 [.sl n f es, .int .i32 r] R :=
  PCall.of Try.func71 (by kernel_rfl) (by kernel_rfl) (Nat.le_of_ble_eq_true (by kernel_rfl)) (Eq.mpr (e_rows_At n f es r R) h)

def r_api_classes  (R : PV → Prop) : Prop :=
 R (PV.sl false true [[PV.int .i64 (1 : Int), PV.int .i64 (768 : Int), PV.int .i64 (788 : Int), PV.int .i64 (230 : Int), PV.int .i64 (0 : Int)], [PV.int .i64 (1 : Int), PV.int .i64 (789 : Int), PV.int .i64 (789 : Int), PV.int .i64 (232 :
 Int), PV.int .i64 (0 : Int)], [PV.int .i64 (1 : Int), PV.int .i64 (790 : Int), PV.int .i64 (793 : Int), PV.int .i64 (220 : Int), PV.int .i64 (0 : Int)], [PV.int .i64 (1 : Int), PV.int .i64 (794 : Int), PV.int .i64 (794 : Int), PV.int .i64
 (232 : Int), PV.int .i64 (0 : Int)], [PV.int .i64 (1 : Int), PV.int .i64 (795 : Int), PV.int .i64 (795 : Int), PV.int .i64 (216 : Int), PV.int .i64 (0 : Int)], [PV.int .i64 (1 : Int), PV.int .i64 (796 : Int), PV.int .i64 (800 : Int), PV.int
 .i64 (220 : Int), PV.int .i64 (0 : Int)], [PV.int .i64 (1 : Int), PV.int .i64 (801 : Int), PV.int .i64 (802 : Int), PV.int .i64 (202 : Int), PV.int .i64 (0 : Int)], [PV.int .i64 (1 : Int), PV.int .i64 (803 : Int), PV.int .i64 (806 : Int),
 PV.int .i64 (220 : Int), PV.int .i64 (0 : Int)], [PV.int .i64 (1 : Int), PV.int .i64 (807 : Int), PV.int .i64 (808 : Int), PV.int .i64 (202 : Int), PV.int .i64 (0 : Int)], [PV.int .i64 (1 : Int), PV.int .i64 (809 : Int), PV.int .i64 (819 :
 Int), PV.int .i64 (220 : Int), PV.int .i64 (0 : Int)], [PV.int .i64 (1 : Int), PV.int .i64 (820 : Int), PV.int .i64 (824 : Int), PV.int .i64 (1 : Int), PV.int .i64 (0 : Int)], [PV.int .i64 (1 : Int), PV.int .i64 (825 : Int), PV.int .i64
 (828 : Int), PV.int .i64 (220 : Int), PV.int .i64 (0 : Int)], [PV.int .i64 (1 : Int), PV.int .i64 (829 : Int), PV.int .i64 (836 : Int), PV.int .i64 (230 : Int), PV.int .i64 (0 : Int)], [PV.int .i64 (1 : Int), PV.int .i64 (837 : Int), PV.int
 .i64 (837 : Int), PV.int .i64 (240 : Int), PV.int .i64 (0 : Int)], [PV.int .i64 (1 : Int), PV.int .i64 (838 : Int), PV.int .i64 (838 : Int), PV.int .i64 (230 : Int), PV.int .i64 (0 : Int)], [PV.int .i64 (1 : Int), PV.int .i64 (839 : Int),
 PV.int .i64 (841 : Int), PV.int .i64 (220 : Int), PV.int .i64 (0 : Int)], [PV.int .i64 (1 : Int), PV.int .i64 (842 : Int), PV.int .i64 (844 : Int), PV.int .i64 (230 : Int), PV.int .i64 (0 : Int)], [PV.int .i64 (1 : Int), PV.int .i64 (845 :
 Int), PV.int .i64 (846 : Int), PV.int .i64 (220 : Int), PV.int .i64 (0 : Int)], [PV.int .i64 (1 : Int), PV.int .i64 (848 : Int), PV.int .i64 (850 : Int), PV.int .i64 (230 : Int), PV.int .i64 (0 : Int)], [PV.int .i64 (1 : Int), PV.int .i64
 (851 : Int), PV.int .i64 (854 : Int), PV.int .i64 (220 : Int), PV.int .i64 (0 : Int)], [PV.int .i64 (1 : Int), PV.int .i64 (855 : Int), PV.int .i64 (855 : Int), PV.int .i64 (230 : Int), PV.int .i64 (0 : Int)], [PV.int .i64 (1 : Int), PV.int
 .i64 (856 : Int), PV.int .i64 (856 : Int), PV.int .i64 (232 : Int), PV.int .i64 (0 : Int)], [PV.int .i64 (1 : Int), PV.int .i64 (857 : Int), PV.int .i64 (858 : Int), PV.int .i64 (220 : Int), PV.int .i64 (0 : Int)], [PV.int .i64 (1 : Int),
 PV.int .i64 (859 : Int), PV.int .i64 (859 : Int), PV.int .i64 (230 : Int), PV.int .i64 (0 : Int)], [PV.int .i64 (1 : Int), PV.int .i64 (860 : Int), PV.int .i64 (860 : Int), PV.int .i64 (233 : Int), PV.int .i64 (0 : Int)], [PV.int .i64 (1 :
 Int), PV.int .i64 (861 : Int), PV.int .i64 (862 : Int), PV.int .i64 (234 : Int), PV.int .i64 (0 : Int)], [PV.int .i64 (1 : Int), PV.int .i64 (863 : Int), PV.int .i64 (863 : Int), PV.int .i64 (233 : Int), PV.int .i64 (0 : Int)], [PV.int .i64
 (1 : Int), PV.int .i64 (864 : Int), PV.int .i64 (865 : Int), PV.int .i64 (234 : Int), PV.int .i64 (0 : Int)], [PV.int .i64 (1 : Int), PV.int .i64 (866 : Int), PV.int .i64 (866 : Int), PV.int .i64 (233 : Int), PV.int .i64 (0 : Int)], [PV.int
 .i64 (1 : Int), PV.int .i64 (867 : Int), PV.int .i64 (879 : Int), PV.int .i64 (230 : Int), PV.int .i64 (0 : Int)], [PV.int .i64 (1 : Int), PV.int .i64 (1155 : Int), PV.int .i64 (1159 : Int), PV.int .i64 (230 : Int), PV.int .i64 (0 : Int)],
 [PV.int .i64 (1 : Int), PV.int .i64 (1456 : Int), PV.int .i64 (1456 : Int), PV.int .i64 (10 : Int), PV.int .i64 (0 : Int)], [PV.int .i64 (1 : Int), PV.int .i64 (1457 : Int), PV.int .i64 (1457 : Int), PV.int .i64 (11 : Int), PV.int .i64 (0 :
 Int)], [PV.int .i64 (1 : Int), PV.int .i64 (1458 : Int), PV.int .i64 (1458 : Int), PV.int .i64 (12 : Int), PV.int .i64 (0 : Int)], [PV.int .i64 (1 : Int), PV.int .i64 (1459 : Int), PV.int .i64 (1459 : Int), PV.int .i64 (13 : Int), PV.int
 .i64 (0 : Int)], [PV.int .i64 (1 : Int), PV.int .i64 (1460 : Int), PV.int .i64 (1460 : Int), PV.int .i64 (14 : Int), PV.int .i64 (0 : Int)], [PV.int .i64 (1 : Int), PV.int .i64 (1461 : Int), PV.int .i64 (1461 : Int), PV.int .i64 (15 : Int),
 PV.int .i64 (0 : Int)], [PV.int .i64 (1 : Int), PV.int .i64 (1462 : Int), PV.int .i64 (1462 : Int), PV.int .i64 (16 : Int), PV.int .i64 (0 : Int)], [PV.int .i64 (1 : Int), PV.int .i64 (1463 : Int), PV.int .i64 (1463 : Int), PV.int .i64 (17
 : Int), PV.int .i64 (0 : Int)], [PV.int .i64 (1 : Int), PV.int .i64 (1464 : Int), PV.int .i64 (1464 : Int), PV.int .i64 (18 : Int), PV.int .i64 (0 : Int)], [PV.int .i64 (1 : Int), PV.int .i64 (1465 : Int), PV.int .i64 (1466 : Int), PV.int
 .i64 (19 : Int), PV.int .i64 (0 : Int)], [PV.int .i64 (1 : Int), PV.int .i64 (1467 : Int), PV.int .i64 (1467 : Int), PV.int .i64 (20 : Int), PV.int .i64 (0 : Int)], [PV.int .i64 (1 : Int), PV.int .i64 (1468 : Int), PV.int .i64 (1468 : Int),
 PV.int .i64 (21 : Int), PV.int .i64 (0 : Int)], [PV.int .i64 (1 : Int), PV.int .i64 (1469 : Int), PV.int .i64 (1469 : Int), PV.int .i64 (22 : Int), PV.int .i64 (0 : Int)], [PV.int .i64 (1 : Int), PV.int .i64 (1471 : Int), PV.int .i64 (1471
 : Int), PV.int .i64 (23 : Int), PV.int .i64 (0 : Int)], [PV.int .i64 (1 : Int), PV.int .i64 (1473 : Int), PV.int .i64 (1473 : Int), PV.int .i64 (24 : Int), PV.int .i64 (0 : Int)], [PV.int .i64 (1 : Int), PV.int .i64 (1474 : Int), PV.int
 .i64 (1474 : Int), PV.int .i64 (25 : Int), PV.int .i64 (0 : Int)], [PV.int .i64 (1 : Int), PV.int .i64 (1479 : Int), PV.int .i64 (1479 : Int), PV.int .i64 (18 : Int), PV.int .i64 (0 : Int)], [PV.int .i64 (1 : Int), PV.int .i64 (1611 : Int),
 PV.int .i64 (1611 : Int), PV.int .i64 (27 : Int), PV.int .i64 (0 : Int)], [PV.int .i64 (1 : Int), PV.int .i64 (1612 : Int), PV.int .i64 (1612 : Int), PV.int .i64 (28 : Int), PV.int .i64 (0 : Int)], [PV.int .i64 (1 : Int), PV.int .i64 (1613
 : Int), PV.int .i64 (1613 : Int), PV.int .i64 (29 : Int), PV.int .i64 (0 : Int)], [PV.int .i64 (1 : Int), PV.int .i64 (1614 : Int), PV.int .i64 (1614 : Int), PV.int .i64 (30 : Int), PV.int .i64 (0 : Int)], [PV.int .i64 (1 : Int), PV.int
 .i64 (1615 : Int), PV.int .i64 (1615 : Int), PV.int .i64 (31 : Int), PV.int .i64 (0 : Int)], [PV.int .i64 (1 : Int), PV.int .i64 (1616 : Int), PV.int .i64 (1616 : Int), PV.int .i64 (32 : Int), PV.int .i64 (0 : Int)], [PV.int .i64 (1 : Int),
 PV.int .i64 (1617 : Int), PV.int .i64 (1617 : Int), PV.int .i64 (33 : Int), PV.int .i64 (0 : Int)], [PV.int .i64 (1 : Int), PV.int .i64 (1618 : Int), PV.int .i64 (1618 : Int), PV.int .i64 (34 : Int), PV.int .i64 (0 : Int)], [PV.int .i64 (1
 : Int), PV.int .i64 (1619 : Int), PV.int .i64 (1620 : Int), PV.int .i64 (230 : Int), PV.int .i64 (0 : Int)], [PV.int .i64 (1 : Int), PV.int .i64 (1621 : Int), PV.int .i64 (1622 : Int), PV.int .i64 (220 : Int), PV.int .i64 (0 : Int)],
 [PV.int .i64 (1 : Int), PV.int .i64 (1648 : Int), PV.int .i64 (1648 : Int), PV.int .i64 (35 : Int), PV.int .i64 (0 : Int)], [PV.int .i64 (1 : Int), PV.int .i64 (2364 : Int), PV.int .i64 (2364 : Int), PV.int .i64 (7 : Int), PV.int .i64 (0 :
 Int)], [PV.int .i64 (1 : Int), PV.int .i64 (2381 : Int), PV.int .i64 (2381 : Int), PV.int .i64 (9 : Int), PV.int .i64 (0 : Int)], [PV.int .i64 (1 : Int), PV.int .i64 (2385 : Int), PV.int .i64 (2385 : Int), PV.int .i64 (230 : Int), PV.int
 .i64 (0 : Int)], [PV.int .i64 (1 : Int), PV.int .i64 (2386 : Int), PV.int .i64 (2386 : Int), PV.int .i64 (220 : Int), PV.int .i64 (0 : Int)], [PV.int .i64 (1 : Int), PV.int .i64 (2387 : Int), PV.int .i64 (2388 : Int), PV.int .i64 (230 :
 Int), PV.int .i64 (0 : Int)], [PV.int .i64 (1 : Int), PV.int .i64 (2492 : Int), PV.int .i64 (2492 : Int), PV.int .i64 (7 : Int), PV.int .i64 (0 : Int)], [PV.int .i64 (1 : Int), PV.int .i64 (2509 : Int), PV.int .i64 (2509 : Int), PV.int .i64
 (9 : Int), PV.int .i64 (0 : Int)], [PV.int .i64 (1 : Int), PV.int .i64 (3021 : Int), PV.int .i64 (3021 : Int), PV.int .i64 (9 : Int), PV.int .i64 (0 : Int)], [PV.int .i64 (1 : Int), PV.int .i64 (3640 : Int), PV.int .i64 (3641 : Int), PV.int
 .i64 (103 : Int), PV.int .i64 (0 : Int)], [PV.int .i64 (1 : Int), PV.int .i64 (3642 : Int), PV.int .i64 (3642 : Int), PV.int .i64 (9 : Int), PV.int .i64 (0 : Int)], [PV.int .i64 (1 : Int), PV.int .i64 (3656 : Int), PV.int .i64 (3659 : Int),
 PV.int .i64 (107 : Int), PV.int .i64 (0 : Int)], [PV.int .i64 (1 : Int), PV.int .i64 (3953 : Int), PV.int .i64 (3953 : Int), PV.int .i64 (129 : Int), PV.int .i64 (0 : Int)], [PV.int .i64 (1 : Int), PV.int .i64 (3954 : Int), PV.int .i64
 (3954 : Int), PV.int .i64 (130 : Int), PV.int .i64 (0 : Int)], [PV.int .i64 (1 : Int), PV.int .i64 (3956 : Int), PV.int .i64 (3956 : Int), PV.int .i64 (132 : Int), PV.int .i64 (0 : Int)], [PV.int .i64 (1 : Int), PV.int .i64 (8400 : Int),
 PV.int .i64 (8401 : Int), PV.int .i64 (230 : Int), PV.int .i64 (0 : Int)], [PV.int .i64 (1 : Int), PV.int .i64 (8402 : Int), PV.int .i64 (8403 : Int), PV.int .i64 (1 : Int), PV.int .i64 (0 : Int)], [PV.int .i64 (1 : Int), PV.int .i64 (8404
 : Int), PV.int .i64 (8407 : Int), PV.int .i64 (230 : Int), PV.int .i64 (0 : Int)], [PV.int .i64 (1 : Int), PV.int .i64 (8411 : Int), PV.int .i64 (8412 : Int), PV.int .i64 (230 : Int), PV.int .i64 (0 : Int)], [PV.int .i64 (1 : Int), PV.int
 .i64 (8417 : Int), PV.int .i64 (8417 : Int), PV.int .i64 (230 : Int), PV.int .i64 (0 : Int)], [PV.int .i64 (1 : Int), PV.int .i64 (8424 : Int), PV.int .i64 (8424 : Int), PV.int .i64 (220 : Int), PV.int .i64 (0 : Int)], [PV.int .i64 (1 :
 Int), PV.int .i64 (12441 : Int), PV.int .i64 (12442 : Int), PV.int .i64 (8 : Int), PV.int .i64 (0 : Int)], [PV.int .i64 (1 : Int), PV.int .i64 (65056 : Int), PV.int .i64 (65062 : Int), PV.int .i64 (230 : Int), PV.int .i64 (0 : Int)],
 [PV.int .i64 (1 : Int), PV.int .i64 (119141 : Int), PV.int .i64 (119141 : Int), PV.int .i64 (216 : Int), PV.int .i64 (0 : Int)]])
theorem e_api_classes  (R : PV → Prop) : aFn Try.prog (fun _ => none) Try.f37 [0] (fun _ => none) (Try.f37.body.getD .skip) [] R = r_api_classes  R := by kernel_rfl
theorem a_api_classes  {R : PV → Prop} (h : r_api_classes  R) : PCall Try.prog 37 [] R :=
  PCall.of Try.func37 (by kernel_rfl) (by kernel_rfl) (Nat.le_of_ble_eq_true (by kernel_rfl)) (Eq.mpr (e_api_classes  R) h)

def r_api_pairs  (R : PV → Prop) : Prop :=
 R (PV.sl false true [[PV.int .i64 (2 : Int), PV.int .i64 (192 : Int), PV.int .i64 (192 : Int), PV.int .i64 (65 : Int), PV.int .i64 (768 : Int)], [PV.int .i64 (2 : Int), PV.int .i64 (193 : Int), PV.int .i64 (193 : Int), PV.int .i64 (65 :
 Int), PV.int .i64 (769 : Int)], [PV.int .i64 (2 : Int), PV.int .i64 (194 : Int), PV.int .i64 (194 : Int), PV.int .i64 (65 : Int), PV.int .i64 (770 : Int)], [PV.int .i64 (2 : Int), PV.int .i64 (195 : Int), PV.int .i64 (195 : Int), PV.int
 .i64 (65 : Int), PV.int .i64 (771 : Int)], [PV.int .i64 (2 : Int), PV.int .i64 (196 : Int), PV.int .i64 (196 : Int), PV.int .i64 (65 : Int), PV.int .i64 (776 : Int)], [PV.int .i64 (2 : Int), PV.int .i64 (197 : Int), PV.int .i64 (197 : Int),
 PV.int .i64 (65 : Int), PV.int .i64 (778 : Int)], [PV.int .i64 (2 : Int), PV.int .i64 (199 : Int), PV.int .i64 (199 : Int), PV.int .i64 (67 : Int), PV.int .i64 (807 : Int)], [PV.int .i64 (2 : Int), PV.int .i64 (200 : Int), PV.int .i64 (200
 : Int), PV.int .i64 (69 : Int), PV.int .i64 (768 : Int)], [PV.int .i64 (2 : Int), PV.int .i64 (201 : Int), PV.int .i64 (201 : Int), PV.int .i64 (69 : Int), PV.int .i64 (769 : Int)], [PV.int .i64 (2 : Int), PV.int .i64 (202 : Int), PV.int
 .i64 (202 : Int), PV.int .i64 (69 : Int), PV.int .i64 (770 : Int)], [PV.int .i64 (2 : Int), PV.int .i64 (203 : Int), PV.int .i64 (203 : Int), PV.int .i64 (69 : Int), PV.int .i64 (776 : Int)], [PV.int .i64 (2 : Int), PV.int .i64 (204 : Int),
 PV.int .i64 (204 : Int), PV.int .i64 (73 : Int), PV.int .i64 (768 : Int)], [PV.int .i64 (2 : Int), PV.int .i64 (205 : Int), PV.int .i64 (205 : Int), PV.int .i64 (73 : Int), PV.int .i64 (769 : Int)], [PV.int .i64 (2 : Int), PV.int .i64 (206
 : Int), PV.int .i64 (206 : Int), PV.int .i64 (73 : Int), PV.int .i64 (770 : Int)], [PV.int .i64 (2 : Int), PV.int .i64 (207 : Int), PV.int .i64 (207 : Int), PV.int .i64 (73 : Int), PV.int .i64 (776 : Int)], [PV.int .i64 (2 : Int), PV.int
 .i64 (209 : Int), PV.int .i64 (209 : Int), PV.int .i64 (78 : Int), PV.int .i64 (771 : Int)], [PV.int .i64 (2 : Int), PV.int .i64 (210 : Int), PV.int .i64 (210 : Int), PV.int .i64 (79 : Int), PV.int .i64 (768 : Int)], [PV.int .i64 (2 : Int),
 PV.int .i64 (211 : Int), PV.int .i64 (211 : Int), PV.int .i64 (79 : Int), PV.int .i64 (769 : Int)], [PV.int .i64 (2 : Int), PV.int .i64 (212 : Int), PV.int .i64 (212 : Int), PV.int .i64 (79 : Int), PV.int .i64 (770 : Int)], [PV.int .i64 (2
 : Int), PV.int .i64 (213 : Int), PV.int .i64 (213 : Int), PV.int .i64 (79 : Int), PV.int .i64 (771 : Int)], [PV.int .i64 (2 : Int), PV.int .i64 (214 : Int), PV.int .i64 (214 : Int), PV.int .i64 (79 : Int), PV.int .i64 (776 : Int)], [PV.int
 .i64 (2 : Int), PV.int .i64 (217 : Int), PV.int .i64 (217 : Int), PV.int .i64 (85 : Int), PV.int .i64 (768 : Int)], [PV.int .i64 (2 : Int), PV.int .i64 (218 : Int), PV.int .i64 (218 : Int), PV.int .i64 (85 : Int), PV.int .i64 (769 : Int)],
 [PV.int .i64 (2 : Int), PV.int .i64 (219 : Int), PV.int .i64 (219 : Int), PV.int .i64 (85 : Int), PV.int .i64 (770 : Int)], [PV.int .i64 (2 : Int), PV.int .i64 (220 : Int), PV.int .i64 (220 : Int), PV.int .i64 (85 : Int), PV.int .i64 (776 :
 Int)], [PV.int .i64 (2 : Int), PV.int .i64 (221 : Int), PV.int .i64 (221 : Int), PV.int .i64 (89 : Int), PV.int .i64 (769 : Int)], [PV.int .i64 (2 : Int), PV.int .i64 (224 : Int), PV.int .i64 (224 : Int), PV.int .i64 (97 : Int), PV.int .i64
 (768 : Int)], [PV.int .i64 (2 : Int), PV.int .i64 (225 : Int), PV.int .i64 (225 : Int), PV.int .i64 (97 : Int), PV.int .i64 (769 : Int)], [PV.int .i64 (2 : Int), PV.int .i64 (226 : Int), PV.int .i64 (226 : Int), PV.int .i64 (97 : Int),
 PV.int .i64 (770 : Int)], [PV.int .i64 (2 : Int), PV.int .i64 (227 : Int), PV.int .i64 (227 : Int), PV.int .i64 (97 : Int), PV.int .i64 (771 : Int)], [PV.int .i64 (2 : Int), PV.int .i64 (228 : Int), PV.int .i64 (228 : Int), PV.int .i64 (97
 : Int), PV.int .i64 (776 : Int)], [PV.int .i64 (2 : Int), PV.int .i64 (229 : Int), PV.int .i64 (229 : Int), PV.int .i64 (97 : Int), PV.int .i64 (778 : Int)], [PV.int .i64 (2 : Int), PV.int .i64 (231 : Int), PV.int .i64 (231 : Int), PV.int
 .i64 (99 : Int), PV.int .i64 (807 : Int)], [PV.int .i64 (2 : Int), PV.int .i64 (232 : Int), PV.int .i64 (232 : Int), PV.int .i64 (101 : Int), PV.int .i64 (768 : Int)], [PV.int .i64 (2 : Int), PV.int .i64 (233 : Int), PV.int .i64 (233 :
 Int), PV.int .i64 (101 : Int), PV.int .i64 (769 : Int)], [PV.int .i64 (2 : Int), PV.int .i64 (234 : Int), PV.int .i64 (234 : Int), PV.int .i64 (101 : Int), PV.int .i64 (770 : Int)], [PV.int .i64 (2 : Int), PV.int .i64 (235 : Int), PV.int
 .i64 (235 : Int), PV.int .i64 (101 : Int), PV.int .i64 (776 : Int)], [PV.int .i64 (2 : Int), PV.int .i64 (236 : Int), PV.int .i64 (236 : Int), PV.int .i64 (105 : Int), PV.int .i64 (768 : Int)], [PV.int .i64 (2 : Int), PV.int .i64 (237 :
 Int), PV.int .i64 (237 : Int), PV.int .i64 (105 : Int), PV.int .i64 (769 : Int)], [PV.int .i64 (2 : Int), PV.int .i64 (238 : Int), PV.int .i64 (238 : Int), PV.int .i64 (105 : Int), PV.int .i64 (770 : Int)], [PV.int .i64 (2 : Int), PV.int
 .i64 (239 : Int), PV.int .i64 (239 : Int), PV.int .i64 (105 : Int), PV.int .i64 (776 : Int)], [PV.int .i64 (2 : Int), PV.int .i64 (241 : Int), PV.int .i64 (241 : Int), PV.int .i64 (110 : Int), PV.int .i64 (771 : Int)], [PV.int .i64 (2 :
 Int), PV.int .i64 (242 : Int), PV.int .i64 (242 : Int), PV.int .i64 (111 : Int), PV.int .i64 (768 : Int)], [PV.int .i64 (2 : Int), PV.int .i64 (243 : Int), PV.int .i64 (243 : Int), PV.int .i64 (111 : Int), PV.int .i64 (769 : Int)], [PV.int
 .i64 (2 : Int), PV.int .i64 (244 : Int), PV.int .i64 (244 : Int), PV.int .i64 (111 : Int), PV.int .i64 (770 : Int)], [PV.int .i64 (2 : Int), PV.int .i64 (245 : Int), PV.int .i64 (245 : Int), PV.int .i64 (111 : Int), PV.int .i64 (771 :
 Int)], [PV.int .i64 (2 : Int), PV.int .i64 (246 : Int), PV.int .i64 (246 : Int), PV.int .i64 (111 : Int), PV.int .i64 (776 : Int)], [PV.int .i64 (2 : Int), PV.int .i64 (249 : Int), PV.int .i64 (249 : Int), PV.int .i64 (117 : Int), PV.int
 .i64 (768 : Int)], [PV.int .i64 (2 : Int), PV.int .i64 (250 : Int), PV.int .i64 (250 : Int), PV.int .i64 (117 : Int), PV.int .i64 (769 : Int)], [PV.int .i64 (2 : Int), PV.int .i64 (251 : Int), PV.int .i64 (251 : Int), PV.int .i64 (117 :
 Int), PV.int .i64 (770 : Int)], [PV.int .i64 (2 : Int), PV.int .i64 (252 : Int), PV.int .i64 (252 : Int), PV.int .i64 (117 : Int), PV.int .i64 (776 : Int)], [PV.int .i64 (2 : Int), PV.int .i64 (253 : Int), PV.int .i64 (253 : Int), PV.int
 .i64 (121 : Int), PV.int .i64 (769 : Int)], [PV.int .i64 (2 : Int), PV.int .i64 (255 : Int), PV.int .i64 (255 : Int), PV.int .i64 (121 : Int), PV.int .i64 (776 : Int)], [PV.int .i64 (2 : Int), PV.int .i64 (256 : Int), PV.int .i64 (256 :
 Int), PV.int .i64 (65 : Int), PV.int .i64 (772 : Int)], [PV.int .i64 (2 : Int), PV.int .i64 (257 : Int), PV.int .i64 (257 : Int), PV.int .i64 (97 : Int), PV.int .i64 (772 : Int)], [PV.int .i64 (2 : Int), PV.int .i64 (258 : Int), PV.int .i64
 (258 : Int), PV.int .i64 (65 : Int), PV.int .i64 (774 : Int)], [PV.int .i64 (2 : Int), PV.int .i64 (259 : Int), PV.int .i64 (259 : Int), PV.int .i64 (97 : Int), PV.int .i64 (774 : Int)], [PV.int .i64 (2 : Int), PV.int .i64 (260 : Int),
 PV.int .i64 (260 : Int), PV.int .i64 (65 : Int), PV.int .i64 (808 : Int)], [PV.int .i64 (2 : Int), PV.int .i64 (261 : Int), PV.int .i64 (261 : Int), PV.int .i64 (97 : Int), PV.int .i64 (808 : Int)], [PV.int .i64 (2 : Int), PV.int .i64 (262
 : Int), PV.int .i64 (262 : Int), PV.int .i64 (67 : Int), PV.int .i64 (769 : Int)], [PV.int .i64 (2 : Int), PV.int .i64 (263 : Int), PV.int .i64 (263 : Int), PV.int .i64 (99 : Int), PV.int .i64 (769 : Int)], [PV.int .i64 (2 : Int), PV.int
 .i64 (268 : Int), PV.int .i64 (268 : Int), PV.int .i64 (67 : Int), PV.int .i64 (780 : Int)], [PV.int .i64 (2 : Int), PV.int .i64 (269 : Int), PV.int .i64 (269 : Int), PV.int .i64 (99 : Int), PV.int .i64 (780 : Int)], [PV.int .i64 (2 : Int),
 PV.int .i64 (274 : Int), PV.int .i64 (274 : Int), PV.int .i64 (69 : Int), PV.int .i64 (772 : Int)], [PV.int .i64 (2 : Int), PV.int .i64 (275 : Int), PV.int .i64 (275 : Int), PV.int .i64 (101 : Int), PV.int .i64 (772 : Int)], [PV.int .i64 (2
 : Int), PV.int .i64 (280 : Int), PV.int .i64 (280 : Int), PV.int .i64 (69 : Int), PV.int .i64 (808 : Int)], [PV.int .i64 (2 : Int), PV.int .i64 (281 : Int), PV.int .i64 (281 : Int), PV.int .i64 (101 : Int), PV.int .i64 (808 : Int)], [PV.int
 .i64 (2 : Int), PV.int .i64 (304 : Int), PV.int .i64 (304 : Int), PV.int .i64 (73 : Int), PV.int .i64 (775 : Int)], [PV.int .i64 (2 : Int), PV.int .i64 (323 : Int), PV.int .i64 (323 : Int), PV.int .i64 (78 : Int), PV.int .i64 (769 : Int)],
 [PV.int .i64 (2 : Int), PV.int .i64 (324 : Int), PV.int .i64 (324 : Int), PV.int .i64 (110 : Int), PV.int .i64 (769 : Int)], [PV.int .i64 (2 : Int), PV.int .i64 (352 : Int), PV.int .i64 (352 : Int), PV.int .i64 (83 : Int), PV.int .i64 (780
 : Int)], [PV.int .i64 (2 : Int), PV.int .i64 (353 : Int), PV.int .i64 (353 : Int), PV.int .i64 (115 : Int), PV.int .i64 (780 : Int)], [PV.int .i64 (2 : Int), PV.int .i64 (381 : Int), PV.int .i64 (381 : Int), PV.int .i64 (90 : Int), PV.int
 .i64 (780 : Int)], [PV.int .i64 (2 : Int), PV.int .i64 (382 : Int), PV.int .i64 (382 : Int), PV.int .i64 (122 : Int), PV.int .i64 (780 : Int)], [PV.int .i64 (2 : Int), PV.int .i64 (416 : Int), PV.int .i64 (416 : Int), PV.int .i64 (79 :
 Int), PV.int .i64 (795 : Int)], [PV.int .i64 (2 : Int), PV.int .i64 (417 : Int), PV.int .i64 (417 : Int), PV.int .i64 (111 : Int), PV.int .i64 (795 : Int)], [PV.int .i64 (2 : Int), PV.int .i64 (431 : Int), PV.int .i64 (431 : Int), PV.int
 .i64 (85 : Int), PV.int .i64 (795 : Int)], [PV.int .i64 (2 : Int), PV.int .i64 (432 : Int), PV.int .i64 (432 : Int), PV.int .i64 (117 : Int), PV.int .i64 (795 : Int)], [PV.int .i64 (2 : Int), PV.int .i64 (469 : Int), PV.int .i64 (469 :
 Int), PV.int .i64 (220 : Int), PV.int .i64 (772 : Int)], [PV.int .i64 (2 : Int), PV.int .i64 (470 : Int), PV.int .i64 (470 : Int), PV.int .i64 (252 : Int), PV.int .i64 (772 : Int)], [PV.int .i64 (2 : Int), PV.int .i64 (471 : Int), PV.int
 .i64 (471 : Int), PV.int .i64 (220 : Int), PV.int .i64 (769 : Int)], [PV.int .i64 (2 : Int), PV.int .i64 (472 : Int), PV.int .i64 (472 : Int), PV.int .i64 (252 : Int), PV.int .i64 (769 : Int)], [PV.int .i64 (2 : Int), PV.int .i64 (480 :
 Int), PV.int .i64 (480 : Int), PV.int .i64 (550 : Int), PV.int .i64 (772 : Int)], [PV.int .i64 (2 : Int), PV.int .i64 (481 : Int), PV.int .i64 (481 : Int), PV.int .i64 (551 : Int), PV.int .i64 (772 : Int)], [PV.int .i64 (2 : Int), PV.int
 .i64 (550 : Int), PV.int .i64 (550 : Int), PV.int .i64 (65 : Int), PV.int .i64 (775 : Int)], [PV.int .i64 (2 : Int), PV.int .i64 (551 : Int), PV.int .i64 (551 : Int), PV.int .i64 (97 : Int), PV.int .i64 (775 : Int)], [PV.int .i64 (2 : Int),
 PV.int .i64 (832 : Int), PV.int .i64 (832 : Int), PV.int .i64 (768 : Int), PV.int .i64 (0 : Int)], [PV.int .i64 (2 : Int), PV.int .i64 (833 : Int), PV.int .i64 (833 : Int), PV.int .i64 (769 : Int), PV.int .i64 (0 : Int)], [PV.int .i64 (2 :
 Int), PV.int .i64 (835 : Int), PV.int .i64 (835 : Int), PV.int .i64 (787 : Int), PV.int .i64 (0 : Int)], [PV.int .i64 (2 : Int), PV.int .i64 (836 : Int), PV.int .i64 (836 : Int), PV.int .i64 (776 : Int), PV.int .i64 (769 : Int)], [PV.int
 .i64 (2 : Int), PV.int .i64 (884 : Int), PV.int .i64 (884 : Int), PV.int .i64 (697 : Int), PV.int .i64 (0 : Int)], [PV.int .i64 (2 : Int), PV.int .i64 (894 : Int), PV.int .i64 (894 : Int), PV.int .i64 (59 : Int), PV.int .i64 (0 : Int)],
 [PV.int .i64 (2 : Int), PV.int .i64 (901 : Int), PV.int .i64 (901 : Int), PV.int .i64 (168 : Int), PV.int .i64 (769 : Int)], [PV.int .i64 (2 : Int), PV.int .i64 (902 : Int), PV.int .i64 (902 : Int), PV.int .i64 (913 : Int), PV.int .i64 (769
 : Int)], [PV.int .i64 (2 : Int), PV.int .i64 (903 : Int), PV.int .i64 (903 : Int), PV.int .i64 (183 : Int), PV.int .i64 (0 : Int)], [PV.int .i64 (2 : Int), PV.int .i64 (904 : Int), PV.int .i64 (904 : Int), PV.int .i64 (917 : Int), PV.int
 .i64 (769 : Int)], [PV.int .i64 (2 : Int), PV.int .i64 (912 : Int), PV.int .i64 (912 : Int), PV.int .i64 (970 : Int), PV.int .i64 (769 : Int)], [PV.int .i64 (2 : Int), PV.int .i64 (940 : Int), PV.int .i64 (940 : Int), PV.int .i64 (945 :
 Int), PV.int .i64 (769 : Int)], [PV.int .i64 (2 : Int), PV.int .i64 (941 : Int), PV.int .i64 (941 : Int), PV.int .i64 (949 : Int), PV.int .i64 (769 : Int)], [PV.int .i64 (2 : Int), PV.int .i64 (944 : Int), PV.int .i64 (944 : Int), PV.int
 .i64 (971 : Int), PV.int .i64 (769 : Int)], [PV.int .i64 (2 : Int), PV.int .i64 (970 : Int), PV.int .i64 (970 : Int), PV.int .i64 (953 : Int), PV.int .i64 (776 : Int)], [PV.int .i64 (2 : Int), PV.int .i64 (971 : Int), PV.int .i64 (971 :
 Int), PV.int .i64 (965 : Int), PV.int .i64 (776 : Int)], [PV.int .i64 (2 : Int), PV.int .i64 (2345 : Int), PV.int .i64 (2345 : Int), PV.int .i64 (2344 : Int), PV.int .i64 (2364 : Int)], [PV.int .i64 (2 : Int), PV.int .i64 (2353 : Int),
 PV.int .i64 (2353 : Int), PV.int .i64 (2352 : Int), PV.int .i64 (2364 : Int)], [PV.int .i64 (2 : Int), PV.int .i64 (2356 : Int), PV.int .i64 (2356 : Int), PV.int .i64 (2355 : Int), PV.int .i64 (2364 : Int)], [PV.int .i64 (2 : Int), PV.int
 .i64 (2392 : Int), PV.int .i64 (2392 : Int), PV.int .i64 (2325 : Int), PV.int .i64 (2364 : Int)], [PV.int .i64 (2 : Int), PV.int .i64 (2393 : Int), PV.int .i64 (2393 : Int), PV.int .i64 (2326 : Int), PV.int .i64 (2364 : Int)], [PV.int .i64
 (2 : Int), PV.int .i64 (2396 : Int), PV.int .i64 (2396 : Int), PV.int .i64 (2337 : Int), PV.int .i64 (2364 : Int)], [PV.int .i64 (2 : Int), PV.int .i64 (2507 : Int), PV.int .i64 (2507 : Int), PV.int .i64 (2503 : Int), PV.int .i64 (2494 :
 Int)], [PV.int .i64 (2 : Int), PV.int .i64 (2508 : Int), PV.int .i64 (2508 : Int), PV.int .i64 (2503 : Int), PV.int .i64 (2519 : Int)], [PV.int .i64 (2 : Int), PV.int .i64 (3018 : Int), PV.int .i64 (3018 : Int), PV.int .i64 (3014 : Int),
 PV.int .i64 (3006 : Int)], [PV.int .i64 (2 : Int), PV.int .i64 (3955 : Int), PV.int .i64 (3955 : Int), PV.int .i64 (3953 : Int), PV.int .i64 (3954 : Int)], [PV.int .i64 (2 : Int), PV.int .i64 (3957 : Int), PV.int .i64 (3957 : Int), PV.int
 .i64 (3953 : Int), PV.int .i64 (3956 : Int)], [PV.int .i64 (2 : Int), PV.int .i64 (7692 : Int), PV.int .i64 (7692 : Int), PV.int .i64 (68 : Int), PV.int .i64 (803 : Int)], [PV.int .i64 (2 : Int), PV.int .i64 (7693 : Int), PV.int .i64 (7693
 : Int), PV.int .i64 (100 : Int), PV.int .i64 (803 : Int)], [PV.int .i64 (2 : Int), PV.int .i64 (7776 : Int), PV.int .i64 (7776 : Int), PV.int .i64 (83 : Int), PV.int .i64 (775 : Int)], [PV.int .i64 (2 : Int), PV.int .i64 (7777 : Int),
 PV.int .i64 (7777 : Int), PV.int .i64 (115 : Int), PV.int .i64 (775 : Int)], [PV.int .i64 (2 : Int), PV.int .i64 (7778 : Int), PV.int .i64 (7778 : Int), PV.int .i64 (83 : Int), PV.int .i64 (803 : Int)], [PV.int .i64 (2 : Int), PV.int .i64
 (7779 : Int), PV.int .i64 (7779 : Int), PV.int .i64 (115 : Int), PV.int .i64 (803 : Int)], [PV.int .i64 (2 : Int), PV.int .i64 (7784 : Int), PV.int .i64 (7784 : Int), PV.int .i64 (7778 : Int), PV.int .i64 (775 : Int)], [PV.int .i64 (2 :
 Int), PV.int .i64 (7785 : Int), PV.int .i64 (7785 : Int), PV.int .i64 (7779 : Int), PV.int .i64 (775 : Int)], [PV.int .i64 (2 : Int), PV.int .i64 (7840 : Int), PV.int .i64 (7840 : Int), PV.int .i64 (65 : Int), PV.int .i64 (803 : Int)],
 [PV.int .i64 (2 : Int), PV.int .i64 (7841 : Int), PV.int .i64 (7841 : Int), PV.int .i64 (97 : Int), PV.int .i64 (803 : Int)], [PV.int .i64 (2 : Int), PV.int .i64 (7842 : Int), PV.int .i64 (7842 : Int), PV.int .i64 (65 : Int), PV.int .i64
 (777 : Int)], [PV.int .i64 (2 : Int), PV.int .i64 (7843 : Int), PV.int .i64 (7843 : Int), PV.int .i64 (97 : Int), PV.int .i64 (777 : Int)], [PV.int .i64 (2 : Int), PV.int .i64 (7844 : Int), PV.int .i64 (7844 : Int), PV.int .i64 (194 : Int),
 PV.int .i64 (769 : Int)], [PV.int .i64 (2 : Int), PV.int .i64 (7845 : Int), PV.int .i64 (7845 : Int), PV.int .i64 (226 : Int), PV.int .i64 (769 : Int)], [PV.int .i64 (2 : Int), PV.int .i64 (7846 : Int), PV.int .i64 (7846 : Int), PV.int .i64
 (194 : Int), PV.int .i64 (768 : Int)], [PV.int .i64 (2 : Int), PV.int .i64 (7847 : Int), PV.int .i64 (7847 : Int), PV.int .i64 (226 : Int), PV.int .i64 (768 : Int)], [PV.int .i64 (2 : Int), PV.int .i64 (7848 : Int), PV.int .i64 (7848 :
 Int), PV.int .i64 (194 : Int), PV.int .i64 (777 : Int)], [PV.int .i64 (2 : Int), PV.int .i64 (7849 : Int), PV.int .i64 (7849 : Int), PV.int .i64 (226 : Int), PV.int .i64 (777 : Int)], [PV.int .i64 (2 : Int), PV.int .i64 (7850 : Int), PV.int
 .i64 (7850 : Int), PV.int .i64 (194 : Int), PV.int .i64 (771 : Int)], [PV.int .i64 (2 : Int), PV.int .i64 (7851 : Int), PV.int .i64 (7851 : Int), PV.int .i64 (226 : Int), PV.int .i64 (771 : Int)], [PV.int .i64 (2 : Int), PV.int .i64 (7852 :
 Int), PV.int .i64 (7852 : Int), PV.int .i64 (7840 : Int), PV.int .i64 (770 : Int)], [PV.int .i64 (2 : Int), PV.int .i64 (7853 : Int), PV.int .i64 (7853 : Int), PV.int .i64 (7841 : Int), PV.int .i64 (770 : Int)], [PV.int .i64 (2 : Int),
 PV.int .i64 (7854 : Int), PV.int .i64 (7854 : Int), PV.int .i64 (258 : Int), PV.int .i64 (769 : Int)], [PV.int .i64 (2 : Int), PV.int .i64 (7855 : Int), PV.int .i64 (7855 : Int), PV.int .i64 (259 : Int), PV.int .i64 (769 : Int)], [PV.int
 .i64 (2 : Int), PV.int .i64 (7856 : Int), PV.int .i64 (7856 : Int), PV.int .i64 (258 : Int), PV.int .i64 (768 : Int)], [PV.int .i64 (2 : Int), PV.int .i64 (7857 : Int), PV.int .i64 (7857 : Int), PV.int .i64 (259 : Int), PV.int .i64 (768 :
 Int)], [PV.int .i64 (2 : Int), PV.int .i64 (7858 : Int), PV.int .i64 (7858 : Int), PV.int .i64 (258 : Int), PV.int .i64 (777 : Int)], [PV.int .i64 (2 : Int), PV.int .i64 (7859 : Int), PV.int .i64 (7859 : Int), PV.int .i64 (259 : Int),
 PV.int .i64 (777 : Int)], [PV.int .i64 (2 : Int), PV.int .i64 (7860 : Int), PV.int .i64 (7860 : Int), PV.int .i64 (258 : Int), PV.int .i64 (771 : Int)], [PV.int .i64 (2 : Int), PV.int .i64 (7861 : Int), PV.int .i64 (7861 : Int), PV.int .i64
 (259 : Int), PV.int .i64 (771 : Int)], [PV.int .i64 (2 : Int), PV.int .i64 (7862 : Int), PV.int .i64 (7862 : Int), PV.int .i64 (7840 : Int), PV.int .i64 (774 : Int)], [PV.int .i64 (2 : Int), PV.int .i64 (7863 : Int), PV.int .i64 (7863 :
 Int), PV.int .i64 (7841 : Int), PV.int .i64 (774 : Int)], [PV.int .i64 (2 : Int), PV.int .i64 (7884 : Int), PV.int .i64 (7884 : Int), PV.int .i64 (79 : Int), PV.int .i64 (803 : Int)], [PV.int .i64 (2 : Int), PV.int .i64 (7885 : Int), PV.int
 .i64 (7885 : Int), PV.int .i64 (111 : Int), PV.int .i64 (803 : Int)], [PV.int .i64 (2 : Int), PV.int .i64 (7896 : Int), PV.int .i64 (7896 : Int), PV.int .i64 (7884 : Int), PV.int .i64 (770 : Int)], [PV.int .i64 (2 : Int), PV.int .i64 (7897
 : Int), PV.int .i64 (7897 : Int), PV.int .i64 (7885 : Int), PV.int .i64 (770 : Int)], [PV.int .i64 (2 : Int), PV.int .i64 (7936 : Int), PV.int .i64 (7936 : Int), PV.int .i64 (945 : Int), PV.int .i64 (787 : Int)], [PV.int .i64 (2 : Int),
 PV.int .i64 (7937 : Int), PV.int .i64 (7937 : Int), PV.int .i64 (945 : Int), PV.int .i64 (788 : Int)], [PV.int .i64 (2 : Int), PV.int .i64 (7938 : Int), PV.int .i64 (7938 : Int), PV.int .i64 (7936 : Int), PV.int .i64 (768 : Int)], [PV.int
 .i64 (2 : Int), PV.int .i64 (7939 : Int), PV.int .i64 (7939 : Int), PV.int .i64 (7937 : Int), PV.int .i64 (768 : Int)], [PV.int .i64 (2 : Int), PV.int .i64 (8049 : Int), PV.int .i64 (8049 : Int), PV.int .i64 (940 : Int), PV.int .i64 (0 :
 Int)], [PV.int .i64 (2 : Int), PV.int .i64 (8064 : Int), PV.int .i64 (8064 : Int), PV.int .i64 (7936 : Int), PV.int .i64 (837 : Int)], [PV.int .i64 (2 : Int), PV.int .i64 (8115 : Int), PV.int .i64 (8115 : Int), PV.int .i64 (945 : Int),
 PV.int .i64 (837 : Int)], [PV.int .i64 (2 : Int), PV.int .i64 (8486 : Int), PV.int .i64 (8486 : Int), PV.int .i64 (937 : Int), PV.int .i64 (0 : Int)], [PV.int .i64 (2 : Int), PV.int .i64 (8490 : Int), PV.int .i64 (8490 : Int), PV.int .i64
 (75 : Int), PV.int .i64 (0 : Int)], [PV.int .i64 (2 : Int), PV.int .i64 (8491 : Int), PV.int .i64 (8491 : Int), PV.int .i64 (197 : Int), PV.int .i64 (0 : Int)], [PV.int .i64 (2 : Int), PV.int .i64 (8800 : Int), PV.int .i64 (8800 : Int),
 PV.int .i64 (61 : Int), PV.int .i64 (824 : Int)], [PV.int .i64 (2 : Int), PV.int .i64 (8814 : Int), PV.int .i64 (8814 : Int), PV.int .i64 (60 : Int), PV.int .i64 (824 : Int)], [PV.int .i64 (2 : Int), PV.int .i64 (10972 : Int), PV.int .i64
 (10972 : Int), PV.int .i64 (10973 : Int), PV.int .i64 (824 : Int)], [PV.int .i64 (2 : Int), PV.int .i64 (12364 : Int), PV.int .i64 (12364 : Int), PV.int .i64 (12363 : Int), PV.int .i64 (12441 : Int)], [PV.int .i64 (2 : Int), PV.int .i64
 (12366 : Int), PV.int .i64 (12366 : Int), PV.int .i64 (12365 : Int), PV.int .i64 (12441 : Int)], [PV.int .i64 (2 : Int), PV.int .i64 (12400 : Int), PV.int .i64 (12400 : Int), PV.int .i64 (12399 : Int), PV.int .i64 (12441 : Int)], [PV.int
 .i64 (2 : Int), PV.int .i64 (12401 : Int), PV.int .i64 (12401 : Int), PV.int .i64 (12399 : Int), PV.int .i64 (12442 : Int)], [PV.int .i64 (2 : Int), PV.int .i64 (12460 : Int), PV.int .i64 (12460 : Int), PV.int .i64 (12459 : Int), PV.int
 .i64 (12441 : Int)], [PV.int .i64 (2 : Int), PV.int .i64 (12497 : Int), PV.int .i64 (12497 : Int), PV.int .i64 (12495 : Int), PV.int .i64 (12442 : Int)], [PV.int .i64 (2 : Int), PV.int .i64 (12532 : Int), PV.int .i64 (12532 : Int), PV.int
 .i64 (12454 : Int), PV.int .i64 (12441 : Int)], [PV.int .i64 (2 : Int), PV.int .i64 (63744 : Int), PV.int .i64 (63744 : Int), PV.int .i64 (35912 : Int), PV.int .i64 (0 : Int)], [PV.int .i64 (2 : Int), PV.int .i64 (63745 : Int), PV.int .i64
 (63745 : Int), PV.int .i64 (26356 : Int), PV.int .i64 (0 : Int)], [PV.int .i64 (2 : Int), PV.int .i64 (64285 : Int), PV.int .i64 (64285 : Int), PV.int .i64 (1497 : Int), PV.int .i64 (1460 : Int)], [PV.int .i64 (2 : Int), PV.int .i64 (64287
 : Int), PV.int .i64 (64287 : Int), PV.int .i64 (1522 : Int), PV.int .i64 (1463 : Int)], [PV.int .i64 (2 : Int), PV.int .i64 (64298 : Int), PV.int .i64 (64298 : Int), PV.int .i64 (1513 : Int), PV.int .i64 (1473 : Int)], [PV.int .i64 (2 :
 Int), PV.int .i64 (64299 : Int), PV.int .i64 (64299 : Int), PV.int .i64 (1513 : Int), PV.int .i64 (1474 : Int)], [PV.int .i64 (2 : Int), PV.int .i64 (64300 : Int), PV.int .i64 (64300 : Int), PV.int .i64 (64329 : Int), PV.int .i64 (1473 :
 Int)], [PV.int .i64 (2 : Int), PV.int .i64 (64329 : Int), PV.int .i64 (64329 : Int), PV.int .i64 (1513 : Int), PV.int .i64 (1468 : Int)], [PV.int .i64 (2 : Int), PV.int .i64 (119134 : Int), PV.int .i64 (119134 : Int), PV.int .i64 (119127 :
 Int), PV.int .i64 (119141 : Int)]])
theorem e_api_pairs  (R : PV → Prop) : aFn Try.prog (fun _ => none) Try.f38 [0] (fun _ => none) (Try.f38.body.getD .skip) [] R = r_api_pairs  R := by kernel_rfl
theorem a_api_pairs  {R : PV → Prop} (h : r_api_pairs  R) : PCall Try.prog 38 [] R :=
  PCall.of Try.func38 (by kernel_rfl) (by kernel_rfl) (Nat.le_of_ble_eq_true (by kernel_rfl)) (Eq.mpr (e_api_pairs  R) h)

def r_api_outs  (R : PV → Prop) : Prop :=
 R (PV.sl false true [[PV.int .i64 (3 : Int), PV.int .i64 (2392 : Int), PV.int .i64 (2393 : Int), PV.int .i64 (1 : Int), PV.int .i64 (0 : Int)], [PV.int .i64 (3 : Int), PV.int .i64 (2396 : Int), PV.int .i64 (2396 : Int), PV.int .i64 (1 :
 Int), PV.int .i64 (0 : Int)], [PV.int .i64 (3 : Int), PV.int .i64 (10972 : Int), PV.int .i64 (10972 : Int), PV.int .i64 (1 : Int), PV.int .i64 (0 : Int)], [PV.int .i64 (3 : Int), PV.int .i64 (64285 : Int), PV.int .i64 (64285 : Int), PV.int
 .i64 (1 : Int), PV.int .i64 (0 : Int)], [PV.int .i64 (3 : Int), PV.int .i64 (64287 : Int), PV.int .i64 (64287 : Int), PV.int .i64 (1 : Int), PV.int .i64 (0 : Int)], [PV.int .i64 (3 : Int), PV.int .i64 (64298 : Int), PV.int .i64 (64300 :
 Int), PV.int .i64 (1 : Int), PV.int .i64 (0 : Int)], [PV.int .i64 (3 : Int), PV.int .i64 (64329 : Int), PV.int .i64 (64329 : Int), PV.int .i64 (1 : Int), PV.int .i64 (0 : Int)], [PV.int .i64 (3 : Int), PV.int .i64 (119134 : Int), PV.int
 .i64 (119134 : Int), PV.int .i64 (1 : Int), PV.int .i64 (0 : Int)]])
theorem e_api_outs  (R : PV → Prop) : aFn Try.prog (fun _ => none) Try.f39 [0] (fun _ => none) (Try.f39.body.getD .skip) [] R = r_api_outs  R := by kernel_rfl
theorem a_api_outs  {R : PV → Prop} (h : r_api_outs  R) : PCall Try.prog 39 [] R :=
  PCall.of Try.func39 (by kernel_rfl) (by kernel_rfl) (Nat.le_of_ble_eq_true (by kernel_rfl)) (Eq.mpr (e_api_outs  R) h)

def r_api_breaks  (R : PV → Prop) : Prop :=
 R (PV.sl false true [[PV.int .i64 (4 : Int), PV.int .i64 (0 : Int), PV.int .i64 (9 : Int), PV.int .i64 (3 : Int), PV.int .i64 (0 : Int)], [PV.int .i64 (4 : Int), PV.int .i64 (10 : Int), PV.int .i64 (10 : Int), PV.int .i64 (2 : Int), PV.int
 .i64 (0 : Int)], [PV.int .i64 (4 : Int), PV.int .i64 (11 : Int), PV.int .i64 (12 : Int), PV.int .i64 (3 : Int), PV.int .i64 (0 : Int)], [PV.int .i64 (4 : Int), PV.int .i64 (13 : Int), PV.int .i64 (13 : Int), PV.int .i64 (1 : Int), PV.int
 .i64 (0 : Int)], [PV.int .i64 (4 : Int), PV.int .i64 (14 : Int), PV.int .i64 (31 : Int), PV.int .i64 (3 : Int), PV.int .i64 (0 : Int)], [PV.int .i64 (4 : Int), PV.int .i64 (127 : Int), PV.int .i64 (159 : Int), PV.int .i64 (3 : Int), PV.int
 .i64 (0 : Int)], [PV.int .i64 (4 : Int), PV.int .i64 (173 : Int), PV.int .i64 (173 : Int), PV.int .i64 (3 : Int), PV.int .i64 (0 : Int)], [PV.int .i64 (4 : Int), PV.int .i64 (768 : Int), PV.int .i64 (879 : Int), PV.int .i64 (4 : Int),
 PV.int .i64 (0 : Int)], [PV.int .i64 (4 : Int), PV.int .i64 (1155 : Int), PV.int .i64 (1161 : Int), PV.int .i64 (4 : Int), PV.int .i64 (0 : Int)], [PV.int .i64 (4 : Int), PV.int .i64 (1425 : Int), PV.int .i64 (1469 : Int), PV.int .i64 (4 :
 Int), PV.int .i64 (0 : Int)], [PV.int .i64 (4 : Int), PV.int .i64 (1471 : Int), PV.int .i64 (1471 : Int), PV.int .i64 (4 : Int), PV.int .i64 (0 : Int)], [PV.int .i64 (4 : Int), PV.int .i64 (1473 : Int), PV.int .i64 (1474 : Int), PV.int .i64
 (4 : Int), PV.int .i64 (0 : Int)], [PV.int .i64 (4 : Int), PV.int .i64 (1479 : Int), PV.int .i64 (1479 : Int), PV.int .i64 (4 : Int), PV.int .i64 (0 : Int)], [PV.int .i64 (4 : Int), PV.int .i64 (1536 : Int), PV.int .i64 (1541 : Int), PV.int
 .i64 (7 : Int), PV.int .i64 (0 : Int)], [PV.int .i64 (4 : Int), PV.int .i64 (1611 : Int), PV.int .i64 (1631 : Int), PV.int .i64 (4 : Int), PV.int .i64 (0 : Int)], [PV.int .i64 (4 : Int), PV.int .i64 (1648 : Int), PV.int .i64 (1648 : Int),
 PV.int .i64 (4 : Int), PV.int .i64 (0 : Int)], [PV.int .i64 (4 : Int), PV.int .i64 (1757 : Int), PV.int .i64 (1757 : Int), PV.int .i64 (7 : Int), PV.int .i64 (0 : Int)], [PV.int .i64 (4 : Int), PV.int .i64 (1807 : Int), PV.int .i64 (1807 :
 Int), PV.int .i64 (7 : Int), PV.int .i64 (0 : Int)], [PV.int .i64 (4 : Int), PV.int .i64 (2307 : Int), PV.int .i64 (2307 : Int), PV.int .i64 (8 : Int), PV.int .i64 (0 : Int)], [PV.int .i64 (4 : Int), PV.int .i64 (2362 : Int), PV.int .i64
 (2362 : Int), PV.int .i64 (4 : Int), PV.int .i64 (0 : Int)], [PV.int .i64 (4 : Int), PV.int .i64 (2363 : Int), PV.int .i64 (2363 : Int), PV.int .i64 (8 : Int), PV.int .i64 (0 : Int)], [PV.int .i64 (4 : Int), PV.int .i64 (2364 : Int), PV.int
 .i64 (2364 : Int), PV.int .i64 (4 : Int), PV.int .i64 (0 : Int)], [PV.int .i64 (4 : Int), PV.int .i64 (2366 : Int), PV.int .i64 (2368 : Int), PV.int .i64 (8 : Int), PV.int .i64 (0 : Int)], [PV.int .i64 (4 : Int), PV.int .i64 (2369 : Int),
 PV.int .i64 (2376 : Int), PV.int .i64 (4 : Int), PV.int .i64 (0 : Int)], [PV.int .i64 (4 : Int), PV.int .i64 (2377 : Int), PV.int .i64 (2380 : Int), PV.int .i64 (8 : Int), PV.int .i64 (0 : Int)], [PV.int .i64 (4 : Int), PV.int .i64 (2381 :
 Int), PV.int .i64 (2381 : Int), PV.int .i64 (4 : Int), PV.int .i64 (0 : Int)], [PV.int .i64 (4 : Int), PV.int .i64 (2385 : Int), PV.int .i64 (2391 : Int), PV.int .i64 (4 : Int), PV.int .i64 (0 : Int)], [PV.int .i64 (4 : Int), PV.int .i64
 (2434 : Int), PV.int .i64 (2435 : Int), PV.int .i64 (8 : Int), PV.int .i64 (0 : Int)], [PV.int .i64 (4 : Int), PV.int .i64 (2492 : Int), PV.int .i64 (2492 : Int), PV.int .i64 (4 : Int), PV.int .i64 (0 : Int)], [PV.int .i64 (4 : Int), PV.int
 .i64 (2494 : Int), PV.int .i64 (2494 : Int), PV.int .i64 (4 : Int), PV.int .i64 (0 : Int)], [PV.int .i64 (4 : Int), PV.int .i64 (2495 : Int), PV.int .i64 (2496 : Int), PV.int .i64 (8 : Int), PV.int .i64 (0 : Int)], [PV.int .i64 (4 : Int),
 PV.int .i64 (2503 : Int), PV.int .i64 (2504 : Int), PV.int .i64 (8 : Int), PV.int .i64 (0 : Int)], [PV.int .i64 (4 : Int), PV.int .i64 (2507 : Int), PV.int .i64 (2508 : Int), PV.int .i64 (8 : Int), PV.int .i64 (0 : Int)], [PV.int .i64 (4 :
 Int), PV.int .i64 (2509 : Int), PV.int .i64 (2509 : Int), PV.int .i64 (4 : Int), PV.int .i64 (0 : Int)], [PV.int .i64 (4 : Int), PV.int .i64 (2519 : Int), PV.int .i64 (2519 : Int), PV.int .i64 (4 : Int), PV.int .i64 (0 : Int)], [PV.int .i64
 (4 : Int), PV.int .i64 (3006 : Int), PV.int .i64 (3006 : Int), PV.int .i64 (4 : Int), PV.int .i64 (0 : Int)], [PV.int .i64 (4 : Int), PV.int .i64 (3007 : Int), PV.int .i64 (3007 : Int), PV.int .i64 (8 : Int), PV.int .i64 (0 : Int)], [PV.int
 .i64 (4 : Int), PV.int .i64 (3014 : Int), PV.int .i64 (3016 : Int), PV.int .i64 (8 : Int), PV.int .i64 (0 : Int)], [PV.int .i64 (4 : Int), PV.int .i64 (3018 : Int), PV.int .i64 (3020 : Int), PV.int .i64 (8 : Int), PV.int .i64 (0 : Int)],
 [PV.int .i64 (4 : Int), PV.int .i64 (3021 : Int), PV.int .i64 (3021 : Int), PV.int .i64 (4 : Int), PV.int .i64 (0 : Int)], [PV.int .i64 (4 : Int), PV.int .i64 (3633 : Int), PV.int .i64 (3633 : Int), PV.int .i64 (4 : Int), PV.int .i64 (0 :
 Int)], [PV.int .i64 (4 : Int), PV.int .i64 (3635 : Int), PV.int .i64 (3635 : Int), PV.int .i64 (8 : Int), PV.int .i64 (0 : Int)], [PV.int .i64 (4 : Int), PV.int .i64 (3636 : Int), PV.int .i64 (3642 : Int), PV.int .i64 (4 : Int), PV.int .i64
 (0 : Int)], [PV.int .i64 (4 : Int), PV.int .i64 (3655 : Int), PV.int .i64 (3662 : Int), PV.int .i64 (4 : Int), PV.int .i64 (0 : Int)], [PV.int .i64 (4 : Int), PV.int .i64 (3953 : Int), PV.int .i64 (3966 : Int), PV.int .i64 (4 : Int), PV.int
 .i64 (0 : Int)], [PV.int .i64 (4 : Int), PV.int .i64 (4352 : Int), PV.int .i64 (4447 : Int), PV.int .i64 (9 : Int), PV.int .i64 (0 : Int)], [PV.int .i64 (4 : Int), PV.int .i64 (4448 : Int), PV.int .i64 (4519 : Int), PV.int .i64 (10 : Int),
 PV.int .i64 (0 : Int)], [PV.int .i64 (4 : Int), PV.int .i64 (4520 : Int), PV.int .i64 (4607 : Int), PV.int .i64 (11 : Int), PV.int .i64 (0 : Int)], [PV.int .i64 (4 : Int), PV.int .i64 (8203 : Int), PV.int .i64 (8203 : Int), PV.int .i64 (3 :
 Int), PV.int .i64 (0 : Int)], [PV.int .i64 (4 : Int), PV.int .i64 (8204 : Int), PV.int .i64 (8204 : Int), PV.int .i64 (4 : Int), PV.int .i64 (0 : Int)], [PV.int .i64 (4 : Int), PV.int .i64 (8205 : Int), PV.int .i64 (8205 : Int), PV.int .i64
 (5 : Int), PV.int .i64 (0 : Int)], [PV.int .i64 (4 : Int), PV.int .i64 (8206 : Int), PV.int .i64 (8207 : Int), PV.int .i64 (3 : Int), PV.int .i64 (0 : Int)], [PV.int .i64 (4 : Int), PV.int .i64 (8232 : Int), PV.int .i64 (8238 : Int), PV.int
 .i64 (3 : Int), PV.int .i64 (0 : Int)], [PV.int .i64 (4 : Int), PV.int .i64 (8288 : Int), PV.int .i64 (8303 : Int), PV.int .i64 (3 : Int), PV.int .i64 (0 : Int)], [PV.int .i64 (4 : Int), PV.int .i64 (8400 : Int), PV.int .i64 (8432 : Int),
 PV.int .i64 (4 : Int), PV.int .i64 (0 : Int)], [PV.int .i64 (4 : Int), PV.int .i64 (12330 : Int), PV.int .i64 (12335 : Int), PV.int .i64 (4 : Int), PV.int .i64 (0 : Int)], [PV.int .i64 (4 : Int), PV.int .i64 (12441 : Int), PV.int .i64
 (12442 : Int), PV.int .i64 (4 : Int), PV.int .i64 (0 : Int)], [PV.int .i64 (4 : Int), PV.int .i64 (43360 : Int), PV.int .i64 (43388 : Int), PV.int .i64 (9 : Int), PV.int .i64 (0 : Int)], [PV.int .i64 (4 : Int), PV.int .i64 (55216 : Int),
 PV.int .i64 (55238 : Int), PV.int .i64 (10 : Int), PV.int .i64 (0 : Int)], [PV.int .i64 (4 : Int), PV.int .i64 (55243 : Int), PV.int .i64 (55291 : Int), PV.int .i64 (11 : Int), PV.int .i64 (0 : Int)], [PV.int .i64 (4 : Int), PV.int .i64
 (65024 : Int), PV.int .i64 (65039 : Int), PV.int .i64 (4 : Int), PV.int .i64 (0 : Int)], [PV.int .i64 (4 : Int), PV.int .i64 (65056 : Int), PV.int .i64 (65071 : Int), PV.int .i64 (4 : Int), PV.int .i64 (0 : Int)], [PV.int .i64 (4 : Int),
 PV.int .i64 (65279 : Int), PV.int .i64 (65279 : Int), PV.int .i64 (3 : Int), PV.int .i64 (0 : Int)], [PV.int .i64 (4 : Int), PV.int .i64 (119141 : Int), PV.int .i64 (119141 : Int), PV.int .i64 (4 : Int), PV.int .i64 (0 : Int)], [PV.int .i64
 (4 : Int), PV.int .i64 (127462 : Int), PV.int .i64 (127487 : Int), PV.int .i64 (6 : Int), PV.int .i64 (0 : Int)], [PV.int .i64 (4 : Int), PV.int .i64 (127995 : Int), PV.int .i64 (127999 : Int), PV.int .i64 (4 : Int), PV.int .i64 (0 : Int)],
 [PV.int .i64 (4 : Int), PV.int .i64 (917505 : Int), PV.int .i64 (917535 : Int), PV.int .i64 (3 : Int), PV.int .i64 (0 : Int)], [PV.int .i64 (4 : Int), PV.int .i64 (917536 : Int), PV.int .i64 (917631 : Int), PV.int .i64 (4 : Int), PV.int
 .i64 (0 : Int)], [PV.int .i64 (4 : Int), PV.int .i64 (917760 : Int), PV.int .i64 (917999 : Int), PV.int .i64 (4 : Int), PV.int .i64 (0 : Int)]])
theorem e_api_breaks  (R : PV → Prop) : aFn Try.prog (fun _ => none) Try.f40 [0] (fun _ => none) (Try.f40.body.getD .skip) [] R = r_api_breaks  R := by kernel_rfl
theorem a_api_breaks  {R : PV → Prop} (h : r_api_breaks  R) : PCall Try.prog 40 [] R :=
  PCall.of Try.func40 (by kernel_rfl) (by kernel_rfl) (Nat.le_of_ble_eq_true (by kernel_rfl)) (Eq.mpr (e_api_breaks  R) h)

def r_api_picts  (R : PV → Prop) : Prop :=
 R (PV.sl false true [[PV.int .i64 (5 : Int), PV.int .i64 (169 : Int), PV.int .i64 (169 : Int), PV.int .i64 (1 : Int), PV.int .i64 (0 : Int)], [PV.int .i64 (5 : Int), PV.int .i64 (174 : Int), PV.int .i64 (174 : Int), PV.int .i64 (1 : Int),
 PV.int .i64 (0 : Int)], [PV.int .i64 (5 : Int), PV.int .i64 (8252 : Int), PV.int .i64 (8252 : Int), PV.int .i64 (1 : Int), PV.int .i64 (0 : Int)], [PV.int .i64 (5 : Int), PV.int .i64 (8265 : Int), PV.int .i64 (8265 : Int), PV.int .i64 (1 :
 Int), PV.int .i64 (0 : Int)], [PV.int .i64 (5 : Int), PV.int .i64 (8482 : Int), PV.int .i64 (8482 : Int), PV.int .i64 (1 : Int), PV.int .i64 (0 : Int)], [PV.int .i64 (5 : Int), PV.int .i64 (8505 : Int), PV.int .i64 (8505 : Int), PV.int .i64
 (1 : Int), PV.int .i64 (0 : Int)], [PV.int .i64 (5 : Int), PV.int .i64 (8596 : Int), PV.int .i64 (8601 : Int), PV.int .i64 (1 : Int), PV.int .i64 (0 : Int)], [PV.int .i64 (5 : Int), PV.int .i64 (8617 : Int), PV.int .i64 (8618 : Int), PV.int
 .i64 (1 : Int), PV.int .i64 (0 : Int)], [PV.int .i64 (5 : Int), PV.int .i64 (8986 : Int), PV.int .i64 (8987 : Int), PV.int .i64 (1 : Int), PV.int .i64 (0 : Int)], [PV.int .i64 (5 : Int), PV.int .i64 (9193 : Int), PV.int .i64 (9203 : Int),
 PV.int .i64 (1 : Int), PV.int .i64 (0 : Int)], [PV.int .i64 (5 : Int), PV.int .i64 (9728 : Int), PV.int .i64 (9733 : Int), PV.int .i64 (1 : Int), PV.int .i64 (0 : Int)], [PV.int .i64 (5 : Int), PV.int .i64 (9735 : Int), PV.int .i64 (9746 :
 Int), PV.int .i64 (1 : Int), PV.int .i64 (0 : Int)], [PV.int .i64 (5 : Int), PV.int .i64 (9748 : Int), PV.int .i64 (9861 : Int), PV.int .i64 (1 : Int), PV.int .i64 (0 : Int)], [PV.int .i64 (5 : Int), PV.int .i64 (9872 : Int), PV.int .i64
 (9989 : Int), PV.int .i64 (1 : Int), PV.int .i64 (0 : Int)], [PV.int .i64 (5 : Int), PV.int .i64 (9992 : Int), PV.int .i64 (10002 : Int), PV.int .i64 (1 : Int), PV.int .i64 (0 : Int)], [PV.int .i64 (5 : Int), PV.int .i64 (10084 : Int),
 PV.int .i64 (10087 : Int), PV.int .i64 (1 : Int), PV.int .i64 (0 : Int)], [PV.int .i64 (5 : Int), PV.int .i64 (127744 : Int), PV.int .i64 (127994 : Int), PV.int .i64 (1 : Int), PV.int .i64 (0 : Int)], [PV.int .i64 (5 : Int), PV.int .i64
 (128000 : Int), PV.int .i64 (128317 : Int), PV.int .i64 (1 : Int), PV.int .i64 (0 : Int)], [PV.int .i64 (5 : Int), PV.int .i64 (128326 : Int), PV.int .i64 (128591 : Int), PV.int .i64 (1 : Int), PV.int .i64 (0 : Int)], [PV.int .i64 (5 :
 Int), PV.int .i64 (128640 : Int), PV.int .i64 (128767 : Int), PV.int .i64 (1 : Int), PV.int .i64 (0 : Int)], [PV.int .i64 (5 : Int), PV.int .i64 (129292 : Int), PV.int .i64 (129338 : Int), PV.int .i64 (1 : Int), PV.int .i64 (0 : Int)],
 [PV.int .i64 (5 : Int), PV.int .i64 (129351 : Int), PV.int .i64 (129791 : Int), PV.int .i64 (1 : Int), PV.int .i64 (0 : Int)]])
theorem e_api_picts  (R : PV → Prop) : aFn Try.prog (fun _ => none) Try.f41 [0] (fun _ => none) (Try.f41.body.getD .skip) [] R = r_api_picts  R := by kernel_rfl
theorem a_api_picts  {R : PV → Prop} (h : r_api_picts  R) : PCall Try.prog 41 [] R :=
  PCall.of Try.func41 (by kernel_rfl) (by kernel_rfl) (Nat.le_of_ble_eq_true (by kernel_rfl)) (Eq.mpr (e_api_picts  R) h)

def r_api_conjs  (R : PV → Prop) : Prop :=
 R (PV.sl false true [[PV.int .i64 (6 : Int), PV.int .i64 (2325 : Int), PV.int .i64 (2361 : Int), PV.int .i64 (2 : Int), PV.int .i64 (0 : Int)], [PV.int .i64 (6 : Int), PV.int .i64 (2381 : Int), PV.int .i64 (2381 : Int), PV.int .i64 (1 :
 Int), PV.int .i64 (0 : Int)], [PV.int .i64 (6 : Int), PV.int .i64 (2392 : Int), PV.int .i64 (2399 : Int), PV.int .i64 (2 : Int), PV.int .i64 (0 : Int)], [PV.int .i64 (6 : Int), PV.int .i64 (2453 : Int), PV.int .i64 (2472 : Int), PV.int .i64
 (2 : Int), PV.int .i64 (0 : Int)], [PV.int .i64 (6 : Int), PV.int .i64 (2509 : Int), PV.int .i64 (2509 : Int), PV.int .i64 (1 : Int), PV.int .i64 (0 : Int)]])
theorem e_api_conjs  (R : PV → Prop) : aFn Try.prog (fun _ => none) Try.f42 [0] (fun _ => none) (Try.f42.body.getD .skip) [] R = r_api_conjs  R := by kernel_rfl
theorem a_api_conjs  {R : PV → Prop} (h : r_api_conjs  R) : PCall Try.prog 42 [] R :=
  PCall.of Try.func42 (by kernel_rfl) (by kernel_rfl) (Nat.le_of_ble_eq_true (by kernel_rfl)) (Eq.mpr (e_api_conjs  R) h)

def r_api_wides  (R : PV → Prop) : Prop :=
 R (PV.sl false true [[PV.int .i64 (7 : Int), PV.int .i64 (4352 : Int), PV.int .i64 (4447 : Int), PV.int .i64 (1 : Int), PV.int .i64 (0 : Int)], [PV.int .i64 (7 : Int), PV.int .i64 (8986 : Int), PV.int .i64 (8987 : Int), PV.int .i64 (1 :
 Int), PV.int .i64 (0 : Int)], [PV.int .i64 (7 : Int), PV.int .i64 (9193 : Int), PV.int .i64 (9196 : Int), PV.int .i64 (1 : Int), PV.int .i64 (0 : Int)], [PV.int .i64 (7 : Int), PV.int .i64 (9748 : Int), PV.int .i64 (9749 : Int), PV.int .i64
 (1 : Int), PV.int .i64 (0 : Int)], [PV.int .i64 (7 : Int), PV.int .i64 (11904 : Int), PV.int .i64 (12350 : Int), PV.int .i64 (1 : Int), PV.int .i64 (0 : Int)], [PV.int .i64 (7 : Int), PV.int .i64 (12353 : Int), PV.int .i64 (13311 : Int),
 PV.int .i64 (1 : Int), PV.int .i64 (0 : Int)], [PV.int .i64 (7 : Int), PV.int .i64 (13312 : Int), PV.int .i64 (19903 : Int), PV.int .i64 (1 : Int), PV.int .i64 (0 : Int)], [PV.int .i64 (7 : Int), PV.int .i64 (19968 : Int), PV.int .i64
 (40959 : Int), PV.int .i64 (1 : Int), PV.int .i64 (0 : Int)], [PV.int .i64 (7 : Int), PV.int .i64 (43360 : Int), PV.int .i64 (43388 : Int), PV.int .i64 (1 : Int), PV.int .i64 (0 : Int)], [PV.int .i64 (7 : Int), PV.int .i64 (44032 : Int),
 PV.int .i64 (55203 : Int), PV.int .i64 (1 : Int), PV.int .i64 (0 : Int)], [PV.int .i64 (7 : Int), PV.int .i64 (63744 : Int), PV.int .i64 (64255 : Int), PV.int .i64 (1 : Int), PV.int .i64 (0 : Int)], [PV.int .i64 (7 : Int), PV.int .i64
 (65072 : Int), PV.int .i64 (65135 : Int), PV.int .i64 (1 : Int), PV.int .i64 (0 : Int)], [PV.int .i64 (7 : Int), PV.int .i64 (65281 : Int), PV.int .i64 (65376 : Int), PV.int .i64 (1 : Int), PV.int .i64 (0 : Int)], [PV.int .i64 (7 : Int),
 PV.int .i64 (65504 : Int), PV.int .i64 (65510 : Int), PV.int .i64 (1 : Int), PV.int .i64 (0 : Int)], [PV.int .i64 (7 : Int), PV.int .i64 (127744 : Int), PV.int .i64 (127994 : Int), PV.int .i64 (1 : Int), PV.int .i64 (0 : Int)], [PV.int .i64
 (7 : Int), PV.int .i64 (128000 : Int), PV.int .i64 (128317 : Int), PV.int .i64 (1 : Int), PV.int .i64 (0 : Int)], [PV.int .i64 (7 : Int), PV.int .i64 (128326 : Int), PV.int .i64 (128591 : Int), PV.int .i64 (1 : Int), PV.int .i64 (0 : Int)],
 [PV.int .i64 (7 : Int), PV.int .i64 (128640 : Int), PV.int .i64 (128767 : Int), PV.int .i64 (1 : Int), PV.int .i64 (0 : Int)], [PV.int .i64 (7 : Int), PV.int .i64 (129292 : Int), PV.int .i64 (129338 : Int), PV.int .i64 (1 : Int), PV.int
 .i64 (0 : Int)], [PV.int .i64 (7 : Int), PV.int .i64 (129351 : Int), PV.int .i64 (129791 : Int), PV.int .i64 (1 : Int), PV.int .i64 (0 : Int)], [PV.int .i64 (7 : Int), PV.int .i64 (131072 : Int), PV.int .i64 (262141 : Int), PV.int .i64 (1 :
 Int), PV.int .i64 (0 : Int)]])
theorem e_api_wides  (R : PV → Prop) : aFn Try.prog (fun _ => none) Try.f43 [0] (fun _ => none) (Try.f43.body.getD .skip) [] R = r_api_wides  R := by kernel_rfl
theorem a_api_wides  {R : PV → Prop} (h : r_api_wides  R) : PCall Try.prog 43 [] R :=
  PCall.of Try.func43 (by kernel_rfl) (by kernel_rfl) (Nat.le_of_ble_eq_true (by kernel_rfl)) (Eq.mpr (e_api_wides  R) h)

def r_api_letters  (R : PV → Prop) : Prop :=
 R (PV.sl false true [[PV.int .i64 (8 : Int), PV.int .i64 (48 : Int), PV.int .i64 (57 : Int), PV.int .i64 (1 : Int), PV.int .i64 (0 : Int)], [PV.int .i64 (8 : Int), PV.int .i64 (65 : Int), PV.int .i64 (90 : Int), PV.int .i64 (1 : Int),
 PV.int .i64 (0 : Int)], [PV.int .i64 (8 : Int), PV.int .i64 (95 : Int), PV.int .i64 (95 : Int), PV.int .i64 (1 : Int), PV.int .i64 (0 : Int)], [PV.int .i64 (8 : Int), PV.int .i64 (97 : Int), PV.int .i64 (122 : Int), PV.int .i64 (1 : Int),
 PV.int .i64 (0 : Int)], [PV.int .i64 (8 : Int), PV.int .i64 (170 : Int), PV.int .i64 (170 : Int), PV.int .i64 (1 : Int), PV.int .i64 (0 : Int)], [PV.int .i64 (8 : Int), PV.int .i64 (181 : Int), PV.int .i64 (181 : Int), PV.int .i64 (1 :
 Int), PV.int .i64 (0 : Int)], [PV.int .i64 (8 : Int), PV.int .i64 (186 : Int), PV.int .i64 (186 : Int), PV.int .i64 (1 : Int), PV.int .i64 (0 : Int)], [PV.int .i64 (8 : Int), PV.int .i64 (192 : Int), PV.int .i64 (214 : Int), PV.int .i64 (1
 : Int), PV.int .i64 (0 : Int)], [PV.int .i64 (8 : Int), PV.int .i64 (216 : Int), PV.int .i64 (246 : Int), PV.int .i64 (1 : Int), PV.int .i64 (0 : Int)], [PV.int .i64 (8 : Int), PV.int .i64 (248 : Int), PV.int .i64 (705 : Int), PV.int .i64
 (1 : Int), PV.int .i64 (0 : Int)], [PV.int .i64 (8 : Int), PV.int .i64 (880 : Int), PV.int .i64 (883 : Int), PV.int .i64 (1 : Int), PV.int .i64 (0 : Int)], [PV.int .i64 (8 : Int), PV.int .i64 (886 : Int), PV.int .i64 (887 : Int), PV.int
 .i64 (1 : Int), PV.int .i64 (0 : Int)], [PV.int .i64 (8 : Int), PV.int .i64 (902 : Int), PV.int .i64 (902 : Int), PV.int .i64 (1 : Int), PV.int .i64 (0 : Int)], [PV.int .i64 (8 : Int), PV.int .i64 (904 : Int), PV.int .i64 (1023 : Int),
 PV.int .i64 (1 : Int), PV.int .i64 (0 : Int)], [PV.int .i64 (8 : Int), PV.int .i64 (1024 : Int), PV.int .i64 (1153 : Int), PV.int .i64 (1 : Int), PV.int .i64 (0 : Int)], [PV.int .i64 (8 : Int), PV.int .i64 (1162 : Int), PV.int .i64 (1327 :
 Int), PV.int .i64 (1 : Int), PV.int .i64 (0 : Int)], [PV.int .i64 (8 : Int), PV.int .i64 (1329 : Int), PV.int .i64 (1366 : Int), PV.int .i64 (1 : Int), PV.int .i64 (0 : Int)], [PV.int .i64 (8 : Int), PV.int .i64 (1488 : Int), PV.int .i64
 (1514 : Int), PV.int .i64 (1 : Int), PV.int .i64 (0 : Int)], [PV.int .i64 (8 : Int), PV.int .i64 (1568 : Int), PV.int .i64 (1610 : Int), PV.int .i64 (1 : Int), PV.int .i64 (0 : Int)], [PV.int .i64 (8 : Int), PV.int .i64 (2308 : Int), PV.int
 .i64 (2361 : Int), PV.int .i64 (1 : Int), PV.int .i64 (0 : Int)], [PV.int .i64 (8 : Int), PV.int .i64 (2392 : Int), PV.int .i64 (2401 : Int), PV.int .i64 (1 : Int), PV.int .i64 (0 : Int)], [PV.int .i64 (8 : Int), PV.int .i64 (2437 : Int),
 PV.int .i64 (2489 : Int), PV.int .i64 (1 : Int), PV.int .i64 (0 : Int)], [PV.int .i64 (8 : Int), PV.int .i64 (3585 : Int), PV.int .i64 (3632 : Int), PV.int .i64 (1 : Int), PV.int .i64 (0 : Int)], [PV.int .i64 (8 : Int), PV.int .i64 (4352 :
 Int), PV.int .i64 (4607 : Int), PV.int .i64 (1 : Int), PV.int .i64 (0 : Int)], [PV.int .i64 (8 : Int), PV.int .i64 (7680 : Int), PV.int .i64 (8191 : Int), PV.int .i64 (1 : Int), PV.int .i64 (0 : Int)], [PV.int .i64 (8 : Int), PV.int .i64
 (8486 : Int), PV.int .i64 (8486 : Int), PV.int .i64 (1 : Int), PV.int .i64 (0 : Int)], [PV.int .i64 (8 : Int), PV.int .i64 (8490 : Int), PV.int .i64 (8491 : Int), PV.int .i64 (1 : Int), PV.int .i64 (0 : Int)], [PV.int .i64 (8 : Int), PV.int
 .i64 (12353 : Int), PV.int .i64 (12438 : Int), PV.int .i64 (1 : Int), PV.int .i64 (0 : Int)], [PV.int .i64 (8 : Int), PV.int .i64 (12449 : Int), PV.int .i64 (12538 : Int), PV.int .i64 (1 : Int), PV.int .i64 (0 : Int)], [PV.int .i64 (8 :
 Int), PV.int .i64 (13312 : Int), PV.int .i64 (19903 : Int), PV.int .i64 (1 : Int), PV.int .i64 (0 : Int)], [PV.int .i64 (8 : Int), PV.int .i64 (19968 : Int), PV.int .i64 (40959 : Int), PV.int .i64 (1 : Int), PV.int .i64 (0 : Int)], [PV.int
 .i64 (8 : Int), PV.int .i64 (44032 : Int), PV.int .i64 (55203 : Int), PV.int .i64 (1 : Int), PV.int .i64 (0 : Int)], [PV.int .i64 (8 : Int), PV.int .i64 (63744 : Int), PV.int .i64 (64255 : Int), PV.int .i64 (1 : Int), PV.int .i64 (0 :
 Int)], [PV.int .i64 (8 : Int), PV.int .i64 (131072 : Int), PV.int .i64 (262141 : Int), PV.int .i64 (1 : Int), PV.int .i64 (0 : Int)]])
theorem e_api_letters  (R : PV → Prop) : aFn Try.prog (fun _ => none) Try.f44 [0] (fun _ => none) (Try.f44.body.getD .skip) [] R = r_api_letters  R := by kernel_rfl
theorem a_api_letters  {R : PV → Prop} (h : r_api_letters  R) : PCall Try.prog 44 [] R :=
  PCall.of Try.func44 (by kernel_rfl) (by kernel_rfl) (Nat.le_of_ble_eq_true (by kernel_rfl)) (Eq.mpr (e_api_letters  R) h)

def r_api_Rows  (R : PV → Prop) : Prop :=
 PCall Try.prog 37 [] fun (v : PV) ↦ ∃ (n : Bool), ∃ (f : Bool), ∃ (es : List (List PV)), v = PV.sl n f es ∧ ApOK true [] es 5 40 ∧ PCall Try.prog 38 [] fun (v1 : PV) ↦ ∃ (n1 : Bool), ∃ (f1 : Bool), ∃ (es1 : List (List PV)), v1 = PV.sl n1 f1
 es1 ∧ (szOK es1 5 ∧ (([] ++ es).length + es1.length) * 40 ≤ 140737488355328) ∧ PCall Try.prog 39 [] fun (v2 : PV) ↦ ∃ (n2 : Bool), ∃ (f2 : Bool), ∃ (es2 : List (List PV)), v2 = PV.sl n2 f2 es2 ∧ (szOK es2 5 ∧ (([] ++ es ++ es1).length +
 es2.length) * 40 ≤ 140737488355328) ∧ PCall Try.prog 40 [] fun (v3 : PV) ↦ ∃ (n3 : Bool), ∃ (f3 : Bool), ∃ (es3 : List (List PV)), v3 = PV.sl n3 f3 es3 ∧ (szOK es3 5 ∧ (([] ++ es ++ es1 ++ es2).length + es3.length) * 40 ≤ 140737488355328) ∧
 PCall Try.prog 41 [] fun (v4 : PV) ↦ ∃ (n4 : Bool), ∃ (f4 : Bool), ∃ (es4 : List (List PV)), v4 = PV.sl n4 f4 es4 ∧ (szOK es4 5 ∧ (([] ++ es ++ es1 ++ es2 ++ es3).length + es4.length) * 40 ≤ 140737488355328) ∧ PCall Try.prog 42 [] fun (v5 :
 PV) ↦ ∃ (n5 : Bool), ∃ (f5 : Bool), ∃ (es5 : List (List PV)), v5 = PV.sl n5 f5 es5 ∧ (szOK es5 5 ∧ (([] ++ es ++ es1 ++ es2 ++ es3 ++ es4).length + es5.length) * 40 ≤ 140737488355328) ∧ PCall Try.prog 43 [] fun (v6 : PV) ↦ ∃ (n6 : Bool), ∃
 (f6 : Bool), ∃ (es6 : List (List PV)), v6 = PV.sl n6 f6 es6 ∧ (szOK es6 5 ∧ (([] ++ es ++ es1 ++ es2 ++ es3 ++ es4 ++ es5).length + es6.length) * 40 ≤ 140737488355328) ∧ PCall Try.prog 44 [] fun (v7 : PV) ↦ ∃ (n7 : Bool), ∃ (f7 : Bool), ∃
 (es7 : List (List PV)), v7 = PV.sl n7 f7 es7 ∧ (szOK es7 5 ∧ (([] ++ es ++ es1 ++ es2 ++ es3 ++ es4 ++ es5 ++ es6).length + es7.length) * 40 ≤ 140737488355328) ∧ R (PV.sl (es.isEmpty && es1.isEmpty && es2.isEmpty && es3.isEmpty &&
 es4.isEmpty && es5.isEmpty && es6.isEmpty && es7.isEmpty) false ([] ++ es ++ es1 ++ es2 ++ es3 ++ es4 ++ es5 ++ es6 ++ es7))
theorem e_api_Rows  (R : PV → Prop) : aFn Try.prog (fun _ => none) Try.f13 [0, 1] (fun _ => none) (Try.f13.body.getD .skip) [] R = r_api_Rows  R := by kernel_rfl
theorem a_api_Rows  {R : PV → Prop} (h : r_api_Rows  R) : PCall Try.prog 13 [] R :=
  PCall.of Try.func13 (by kernel_rfl) (by kernel_rfl) (Nat.le_of_ble_eq_true (by kernel_rfl)) (Eq.mpr (e_api_Rows  R) h)

end Go.Eng
namespace Go.Eng.Rows
/-- A row of the table, a span of a kind. -/
structure Row where
  kind : Int
  fr : Int
  to : Int
  a : Int
  b : Int
deriving DecidableEq
structure Sp where
  fr : Int
  to : Int
  a : Int
  b : Int
deriving DecidableEq, Inhabited
def Sp.has (x : Sp) (r : Int) : Prop := x.fr ≤ r ∧ r ≤ x.to
/-- What of a span no other one has. -/
def restL : List Sp → Sp → List Sp
  | [], s => if s.fr ≤ s.to then [s] else []
  | x :: xs, s => if x.to < s.fr then restL xs s else if s.to < x.fr then restL xs s else
    if s.fr < x.fr then { s with to := x.fr - 1 } :: restL xs { s with fr := x.to + 1 } else restL xs { s with fr := x.to + 1 }
/-- Spans in order. -/
def Rise (l : List Sp) : Prop := l.Pairwise fun x y => x.to < y.fr
def In (l : List Sp) : Prop := ∀ x ∈ l, 0 ≤ x.fr ∧ x.fr ≤ x.to ∧ x.to ≤ 1114111
def Good (l : List Sp) : Prop := Rise l ∧ In l
def Apart (x y : Sp) : Prop := x.to < y.fr ∨ y.to < x.fr
def Has (l : List Sp) (r a b : Int) : Prop := ∃ x ∈ l, x.has r ∧ x.a = a ∧ x.b = b
theorem Rise.apart {l : List Sp} (h : Rise l) : l.Pairwise Apart := h.imp fun h => .inl h
theorem restL_in {l : List Sp} {s : Sp} (hl : Good l) : ∀ y ∈ restL l s, s.fr ≤ y.fr ∧ y.fr ≤ y.to ∧ y.to ≤ s.to ∧ y.a = s.a ∧ y.b = s.b := by
  obtain ⟨h1, h2⟩ := hl
  induction l generalizing s with
  | nil =>
    intro y hy
    simp only [restL] at hy
    split at hy
    · simp only [List.mem_singleton] at hy; subst hy; refine ⟨by omega, by omega, by omega, rfl, rfl⟩
    · cases hy
  | cons x xs ih =>
    have hx := h2 x (List.mem_cons_self)
    have ih := fun s => ih (s := s) (List.Pairwise.of_cons h1) (fun y hy => h2 y (List.mem_cons_of_mem _ hy))
    intro y hy
    simp only [restL] at hy
    split at hy
    · exact ih s y hy
    · split at hy
      · exact ih s y hy
      · split at hy
        · rcases List.mem_cons.1 hy with e | hy
          · subst e; exact ⟨Int.le_refl _, by show s.fr ≤ x.fr - 1; omega, by show x.fr - 1 ≤ s.to; omega, rfl, rfl⟩
          · have := ih _ y hy
            refine ⟨by have := this.1; simp only at this; omega, this.2.1, this.2.2.1, this.2.2.2.1, this.2.2.2.2⟩
        · have := ih _ y hy
          refine ⟨by have := this.1; simp only at this; omega, this.2.1, this.2.2.1, this.2.2.2.1, this.2.2.2.2⟩
theorem restL_has {l : List Sp} {s : Sp} (hl : Good l) (r : Int) : (∃ y ∈ restL l s, y.has r) ↔ s.has r ∧ ∀ x ∈ l, ¬ x.has r := by
  obtain ⟨h1, h2⟩ := hl
  induction l generalizing s with
  | nil =>
    simp only [restL]
    split
    · simp
    · simp [Sp.has]; omega
  | cons x xs ih =>
    have hx := h2 x (List.mem_cons_self)
    have hrise : ∀ {y}, y ∈ xs → x.to < y.fr := fun hy => List.rel_of_pairwise_cons h1 hy
    have ih := fun s => ih (s := s) (List.Pairwise.of_cons h1) (fun y hy => h2 y (List.mem_cons_of_mem _ hy))
    simp only [restL, List.forall_mem_cons]
    split
    · rw [ih s]; simp only [Sp.has]
      exact ⟨fun ⟨a, b⟩ => ⟨a, by omega, b⟩, fun ⟨a, _, b⟩ => ⟨a, b⟩⟩
    · split
      · rw [ih s]; simp only [Sp.has]
        exact ⟨fun ⟨a, b⟩ => ⟨a, by omega, b⟩, fun ⟨a, _, b⟩ => ⟨a, b⟩⟩
      · split
        · rw [show (∃ y ∈ { s with to := x.fr - 1 } :: restL xs { s with fr := x.to + 1 }, y.has r) ↔ (Sp.has { s with to := x.fr - 1 } r ∨ ∃ y ∈ restL xs { s with fr := x.to + 1 }, y.has r) by simp, ih]
          simp only [Sp.has]
          constructor
          · rintro (⟨a, b⟩ | ⟨⟨a, b⟩, c⟩)
            · refine ⟨⟨a, by omega⟩, by omega, fun y hy => ?_⟩
              have := hrise hy; omega
            · exact ⟨⟨by omega, b⟩, by omega, c⟩
          · rintro ⟨⟨a, b⟩, c, d⟩
            by_cases h : r ≤ x.fr - 1
            · exact .inl ⟨a, h⟩
            · exact .inr ⟨⟨by omega, b⟩, d⟩
        · rw [ih]
          simp only [Sp.has]
          constructor
          · rintro ⟨⟨a, b⟩, c⟩
            exact ⟨⟨by omega, b⟩, by omega, c⟩
          · rintro ⟨⟨a, b⟩, c, d⟩
            exact ⟨⟨by omega, b⟩, d⟩
theorem restL_rise {l : List Sp} {s : Sp} (hl : Good l) : Rise (restL l s) := by
  obtain ⟨h1, h2⟩ := hl
  induction l generalizing s with
  | nil => simp only [restL, Rise]; split <;> simp
  | cons x xs ih =>
    have hx := h2 x (List.mem_cons_self)
    have hg : Good xs := ⟨List.Pairwise.of_cons h1, fun y hy => h2 y (List.mem_cons_of_mem _ hy)⟩
    have ih := fun s => ih (s := s) hg.1 hg.2
    simp only [restL]
    split
    · exact ih s
    · split
      · exact ih s
      · split
        · refine List.pairwise_cons.2 ⟨fun y hy => ?_, ih _⟩
          have := (restL_in hg y hy).1
          simp only at this ⊢; omega
        · exact ih _
theorem restL_len (l : List Sp) (s : Sp) : (restL l s).length ≤ l.length + 1 := by
  induction l generalizing s with
  | nil => simp only [restL]; split <;> simp
  | cons x xs ih =>
    simp only [restL]
    split
    · have := ih s; simp; omega
    · split
      · have := ih s; simp; omega
      · split
        · have := ih { s with fr := x.to + 1 }; simp; omega
        · have := ih { s with fr := x.to + 1 }; simp; omega
/-- Spans that rise are not many. -/
theorem Good.len_aux {l : List Sp} (h : Good l) : ∀ c : Int, 0 ≤ c → (∀ x ∈ l, c ≤ x.fr) → c ≤ 1114112 → (l.length : Int) ≤ 1114112 - c := by
  obtain ⟨h1, h2⟩ := h
  induction l with
  | nil => intro c h0 hc h; simp; omega
  | cons x xs ih =>
    intro c h0 hc hm
    have hx := h2 x (List.mem_cons_self)
    have hcx := hc x (List.mem_cons_self)
    have := ih (List.Pairwise.of_cons h1) (fun y hy => h2 y (List.mem_cons_of_mem _ hy)) (x.to + 1) (by omega) (fun y hy => by have := List.rel_of_pairwise_cons h1 hy; omega) (by omega)
    simp only [List.length_cons]
    omega
theorem Good.len {l : List Sp} (h : Good l) : l.length ≤ 1114112 := by
  have := h.len_aux 0 (Int.le_refl _) (fun x hx => (h.2 x hx).1) (by omega)
  omega
/-- The spans with one that came, in order. -/
theorem good_more {l t : List Sp} {s : Sp} (hl : Good l) (h0 : 0 ≤ s.fr) (h1 : s.to ≤ 1114111) (hp : t.Perm (l ++ restL l s)) (hs : t.Pairwise fun x y => ¬ y.fr < x.fr) : Good t := by
  have hin : In (l ++ restL l s) := fun x hx => by
    rcases List.mem_append.1 hx with hx | hx
    · exact hl.2 x hx
    · have := restL_in hl x hx; omega
  have hap : (l ++ restL l s).Pairwise Apart := by
    refine List.pairwise_append.2 ⟨hl.1.apart, (restL_rise hl).apart, fun x hx y hy => ?_⟩
    have hy2 := restL_in hl y hy
    have hx2 := hl.2 x hx
    by_cases h : x.to < y.fr
    · exact .inl h
    · by_cases h' : y.to < x.fr
      · exact .inr h'
      · exfalso
        have hh := ((restL_has hl (if x.fr ≤ y.fr then y.fr else x.fr)).1 ⟨y, hy, by unfold Sp.has; split <;> omega⟩).2 x hx
        apply hh
        unfold Sp.has
        split <;> omega
  have hap2 : t.Pairwise Apart := (hp.pairwise_iff (fun h => h.symm)).2 hap
  have hin2 : In t := fun x hx => hin x (hp.mem_iff.1 hx)
  refine ⟨?_, hin2⟩
  have := (List.Pairwise.and hap2 hs)
  refine List.Pairwise.imp_of_mem (fun {x y} hx hy h => ?_) this
  have hx := hin2 x hx
  have hy := hin2 y hy
  rcases h.1 with h' | h'
  · exact h'
  · have := h.2; omega
theorem has_more {l t : List Sp} {s : Sp} (hl : Good l) (hp : t.Perm (l ++ restL l s)) (r a b : Int) : Has t r a b ↔ Has l r a b ∨ (s.has r ∧ s.a = a ∧ s.b = b ∧ ∀ x ∈ l, ¬ x.has r) := by
  unfold Has
  simp only [hp.mem_iff, List.mem_append]
  constructor
  · rintro ⟨x, hx | hx, h1, h2, h3⟩
    · exact .inl ⟨x, hx, h1, h2, h3⟩
    · have h4 := restL_in hl x hx
      have h5 := (restL_has hl r).1 ⟨x, hx, h1⟩
      exact .inr ⟨h5.1, by omega, by omega, h5.2⟩
  · rintro (⟨x, hx, h⟩ | ⟨h1, h2, h3, h4⟩)
    · exact ⟨x, .inl hx, h⟩
    · obtain ⟨y, hy, h⟩ := (restL_has hl r).2 ⟨h1, h4⟩
      have h5 := restL_in hl y hy
      exact ⟨y, .inr hy, h, by omega, by omega⟩
/-- The order of spans is one. -/
theorem perm_sorted_eq : ∀ {t u : List Sp}, t.Perm u → Good t → Good u → t = u
  | [], u, hp, _, _ => by simp at hp; exact hp.symm
  | x :: t, [], hp, _, _ => by simp at hp
  | x :: t, y :: u, hp, ht, hu => by
    have hxy : x = y := by
      have hx : x ∈ y :: u := hp.mem_iff.1 List.mem_cons_self
      have hy : y ∈ x :: t := hp.mem_iff.2 List.mem_cons_self
      rcases List.mem_cons.1 hx with e | hx
      · exact e
      · rcases List.mem_cons.1 hy with e | hy
        · exact e.symm
        · have h1 := List.rel_of_pairwise_cons hu.1 hx
          have h2 := List.rel_of_pairwise_cons ht.1 hy
          have h3 := ht.2 x List.mem_cons_self
          have h4 := hu.2 y List.mem_cons_self
          omega
    subst hxy
    have hp' : t.Perm u := hp.cons_inv
    rw [perm_sorted_eq hp' ⟨List.Pairwise.of_cons ht.1, fun z hz => ht.2 z (List.mem_cons_of_mem _ hz)⟩ ⟨List.Pairwise.of_cons hu.1, fun z hz => hu.2 z (List.mem_cons_of_mem _ hz)⟩]
/-- Two lists of spans joined where they meet. -/
def joinS (acc : List Sp) (x : Sp) : List Sp :=
  match acc.getLast? with
  | some y => if y.to + 1 = x.fr ∧ y.a = x.a ∧ y.b = x.b then acc.dropLast ++ [{ y with to := x.to }] else acc ++ [x]
  | none => acc ++ [x]
def joinL (l : List Sp) : List Sp := l.foldl joinS []
/-- None that meet are the same. -/
def Split (l : List Sp) : Prop := ∀ (i : Nat) (h : i + 1 < l.length), ¬ (l[i].to + 1 = l[i+1].fr ∧ l[i].a = l[i+1].a ∧ l[i].b = l[i+1].b)
theorem Split.append {l : List Sp} {x : Sp} (h : Split l) (hl : ∀ y, l.getLast? = some y → ¬ (y.to + 1 = x.fr ∧ y.a = x.a ∧ y.b = x.b)) : Split (l ++ [x]) := by
  intro i hi
  simp only [List.length_append, List.length_cons, List.length_nil] at hi
  by_cases h1 : i + 1 < l.length
  · have := h i h1
    rw [List.getElem_append_left (by omega), List.getElem_append_left h1]
    exact this
  · have e : i + 1 = l.length := by omega
    have := hl l[i] (by rw [List.getLast?_eq_getElem?, List.getElem?_eq_getElem (by omega)]; congr 2; omega)
    rw [List.getElem_append_left (by omega), List.getElem_append_right (by omega)]
    simpa using this
theorem split_snoc {l : List Sp} {y z : Sp} (h : Split (l ++ [y])) (h1 : z.fr = y.fr) (h2 : z.a = y.a) (h3 : z.b = y.b) : Split (l ++ [z]) := by
  refine Split.append (fun i hi => ?_) fun u hu => ?_
  · have := h i (by simp; omega)
    rw [List.getElem_append_left (by omega), List.getElem_append_left hi] at this
    exact this
  · have hlen : 0 < l.length := by cases l with | nil => simp at hu | cons => simp
    have := h (l.length - 1) (by simp; omega)
    rw [List.getElem_append_left (by omega), List.getElem_append_right (by omega)] at this
    rw [List.getLast?_eq_getElem?, List.getElem?_eq_getElem (by omega)] at hu
    cases hu
    simpa [h1, h2, h3] using this
theorem snoc_of {l : List Sp} {y : Sp} (h : l.getLast? = some y) : ∃ k, l = k ++ [y] := by
  refine ⟨l.dropLast, ?_⟩
  have hne : l ≠ [] := by rintro rfl; simp at h
  rw [List.getLast?_eq_some_getLast hne] at h
  cases h
  exact (List.dropLast_concat_getLast hne).symm
theorem joinS_len (acc : List Sp) (x : Sp) : (joinS acc x).length ≤ acc.length + 1 := by
  unfold joinS
  split
  · split <;> simp <;> omega
  · simp
/-- One more. -/
theorem joinS_ok {acc : List Sp} {x : Sp} (hg : Good (acc ++ [x])) (hs : Split acc) : Good (joinS acc x) ∧ Split (joinS acc x) ∧ (∀ r a b, Has (joinS acc x) r a b ↔ Has (acc ++ [x]) r a b) ∧ (∀ y, (joinS acc x).getLast? = some y → y.to = x.to) := by
  unfold joinS
  split
  next y hy =>
    obtain ⟨k, rfl⟩ := snoc_of hy
    split
    next h =>
      obtain ⟨h1, h2, h3⟩ := h
      rw [List.dropLast_concat]
      obtain ⟨g1, g2⟩ := hg
      have hy2 := g2 y (by simp)
      have hx2 := g2 x (by simp)
      refine ⟨⟨?_, fun z hz => ?_⟩, split_snoc hs rfl rfl rfl, fun r a b => ?_, fun z hz => by simp at hz; subst hz; rfl⟩
      · have g3 := (List.pairwise_append.1 g1).1
        have g4 := List.pairwise_append.1 g3
        refine List.pairwise_append.2 ⟨g4.1, by simp, fun u hu v hv => ?_⟩
        simp only [List.mem_singleton] at hv
        subst hv
        exact g4.2.2 u hu y (by simp)
      · rcases List.mem_append.1 hz with hz | hz
        · exact g2 z (by simp [hz])
        · simp only [List.mem_singleton] at hz; subst hz; exact ⟨hy2.1, by show y.fr ≤ x.to; omega, hx2.2.2⟩
      · simp only [Has, List.mem_append, List.mem_singleton, Sp.has]
        constructor
        · rintro ⟨z, hz | rfl, h⟩
          · exact ⟨z, .inl (.inl hz), h⟩
          · obtain ⟨⟨e1, e2⟩, e3, e4⟩ := h
            simp only at e1 e2 e3 e4
            by_cases hr : r ≤ y.to
            · exact ⟨y, .inl (.inr rfl), ⟨e1, hr⟩, e3, e4⟩
            · exact ⟨x, .inr rfl, ⟨by omega, e2⟩, by omega, by omega⟩
        · rintro ⟨z, (hz | rfl) | rfl, ⟨e1, e2⟩, e3, e4⟩
          · exact ⟨z, .inl hz, ⟨e1, e2⟩, e3, e4⟩
          · exact ⟨_, .inr rfl, ⟨e1, by show r ≤ x.to; omega⟩, e3, e4⟩
          · exact ⟨_, .inr rfl, ⟨by show y.fr ≤ r; omega, e2⟩, by show y.a = a; omega, by show y.b = b; omega⟩
    next h =>
      refine ⟨hg, hs.append fun z hz => ?_, fun r a b => Iff.rfl, fun z hz => by simp at hz; subst hz; rfl⟩
      rw [hy] at hz; cases hz; exact h
  next hy =>
    refine ⟨hg, hs.append fun z hz => ?_, fun r a b => Iff.rfl, fun z hz => by simp at hz; subst hz; rfl⟩
    rw [hy] at hz; cases hz
theorem joinL_aux {l : List Sp} : ∀ {acc : List Sp}, Good acc → Split acc → Good l → (∀ y, acc.getLast? = some y → ∀ x ∈ l, y.to < x.fr) → Good (l.foldl joinS acc) ∧ Split (l.foldl joinS acc) ∧ ∀ r a b, Has (l.foldl joinS acc) r a b ↔ Has acc r a b ∨ Has l r a b := by
  induction l with
  | nil => intro acc h1 h2 h3 h4; exact ⟨h1, h2, fun r a b => by simp [Has]⟩
  | cons x xs ih =>
    intro acc h1 h2 h3 h4
    have hxs : Good xs := ⟨List.Pairwise.of_cons h3.1, fun z hz => h3.2 z (List.mem_cons_of_mem _ hz)⟩
    have hg : Good (acc ++ [x]) := by
      refine ⟨List.pairwise_append.2 ⟨h1.1, by simp, fun u hu v hv => ?_⟩, fun z hz => ?_⟩
      · simp only [List.mem_singleton] at hv
        subst hv
        have hne : acc ≠ [] := by rintro rfl; simp at hu
        obtain ⟨y, hy⟩ : ∃ y, acc.getLast? = some y := ⟨_, List.getLast?_eq_some_getLast hne⟩
        have h5 := h4 y hy v List.mem_cons_self
        obtain ⟨k, rfl⟩ := snoc_of hy
        rcases List.mem_append.1 hu with hu | hu
        · have := (List.pairwise_append.1 h1.1).2.2 u hu y (by simp)
          have := h1.2 y (by simp)
          omega
        · simp only [List.mem_singleton] at hu; subst hu; exact h5
      · rcases List.mem_append.1 hz with hz | hz
        · exact h1.2 z hz
        · simp only [List.mem_singleton] at hz; subst hz; exact h3.2 z List.mem_cons_self
    obtain ⟨j1, j2, j3, j4⟩ := joinS_ok hg h2
    obtain ⟨k1, k2, k3⟩ := ih j1 j2 hxs (fun y hy z hz => by rw [j4 y hy]; exact List.rel_of_pairwise_cons h3.1 hz)
    refine ⟨k1, k2, fun r a b => ?_⟩
    rw [List.foldl_cons, k3, j3]
    unfold Has
    simp only [List.mem_append, List.mem_cons, List.not_mem_nil, or_false]
    constructor
    · rintro (⟨z, hz | rfl, h⟩ | ⟨z, hz, h⟩)
      · exact .inl ⟨z, hz, h⟩
      · exact .inr ⟨_, .inl rfl, h⟩
      · exact .inr ⟨z, .inr hz, h⟩
    · rintro (⟨z, hz, h⟩ | ⟨z, rfl | hz, h⟩)
      · exact .inl ⟨z, .inl hz, h⟩
      · exact .inl ⟨_, .inr rfl, h⟩
      · exact .inr ⟨z, hz, h⟩
theorem joinL_ok {l : List Sp} (h : Good l) : Good (joinL l) ∧ Split (joinL l) ∧ ∀ r a b, Has (joinL l) r a b ↔ Has l r a b := by
  have := joinL_aux (l := l) (acc := []) ⟨List.Pairwise.nil, fun _ h => by cases h⟩ (fun i hi => by simp at hi) h (by simp)
  refine ⟨this.1, this.2.1, fun r a b => ?_⟩
  rw [joinL, this.2.2]
  simp [Has]
theorem joinS_ne {acc : List Sp} {x : Sp} : joinS acc x ≠ [] := by unfold joinS; split <;> (try split) <;> simp
end Go.Eng.Rows
namespace Go.Eng.Rows
def ins (x : Sp) : List Sp → List Sp
  | [] => [x]
  | y :: l => if y.fr < x.fr then y :: ins x l else x :: y :: l
def isort : List Sp → List Sp
  | [] => []
  | x :: l => ins x (isort l)
theorem ins_perm (x : Sp) (l : List Sp) : (ins x l).Perm (x :: l) := by
  induction l with
  | nil => exact List.Perm.refl _
  | cons y l ih =>
    simp only [ins]
    split
    · exact ((List.Perm.cons y ih).trans (List.Perm.swap x y l))
    · exact List.Perm.refl _
theorem isort_perm (l : List Sp) : (isort l).Perm l := by
  induction l with
  | nil => exact List.Perm.refl _
  | cons x l ih => exact (ins_perm x _).trans (List.Perm.cons x ih)
theorem ins_sorted {x : Sp} {l : List Sp} (h : l.Pairwise fun x y => ¬ y.fr < x.fr) : (ins x l).Pairwise fun x y => ¬ y.fr < x.fr := by
  induction l with
  | nil => simp [ins]
  | cons y l ih =>
    simp only [ins]
    have h1 : ∀ z ∈ l, ¬ z.fr < y.fr := fun z hz => List.rel_of_pairwise_cons h hz
    split
    · refine List.pairwise_cons.2 ⟨fun z hz => ?_, ih (List.Pairwise.of_cons h)⟩
      rcases List.mem_cons.1 ((ins_perm x l).mem_iff.1 hz) with e | hz
      · subst e; omega
      · exact h1 z hz
    · refine List.pairwise_cons.2 ⟨fun z hz => ?_, h⟩
      rcases List.mem_cons.1 hz with e | hz
      · subst e; omega
      · have := h1 z hz; omega
theorem isort_sorted (l : List Sp) : (isort l).Pairwise fun x y => ¬ y.fr < x.fr := by
  induction l with
  | nil => exact List.Pairwise.nil
  | cons x l ih => exact ins_sorted ih
def Row.sp (x : Row) : Sp := ⟨if x.fr < 0 then 0 else x.fr, if 1114111 < x.to then 1114111 else x.to, x.a, x.b⟩
theorem Row.sp_lo (x : Row) : 0 ≤ x.sp.fr := by simp only [Row.sp]; split <;> omega
theorem Row.sp_hi (x : Row) : x.sp.to ≤ 1114111 := by simp only [Row.sp]; split <;> omega
def stepL (k : Int) (l : List Sp) (x : Row) : List Sp := if x.kind = k then isort (l ++ restL l x.sp) else l
def allL (k : Int) (rows : List Row) : List Sp := rows.foldl (stepL k) []
def ofL (k : Int) (rows : List Row) : List Sp := joinL (allL k rows)
def Row.has (x : Row) (k r : Int) : Bool := decide (x.kind = k) && (decide (x.fr ≤ r) && decide (r ≤ x.to))
def first (rows : List Row) (k r : Int) : Option (Int × Int) := (rows.find? fun x => x.has k r).map fun x => (x.a, x.b)
theorem step_good {k : Int} {l : List Sp} (h : Good l) (x : Row) : Good (stepL k l x) := by
  unfold stepL
  split
  · exact good_more h x.sp_lo x.sp_hi (isort_perm _) (isort_sorted _)
  · exact h
theorem step_eq {k : Int} {l t : List Sp} (h : Good l) {x : Row} (hx : x.kind = k) (hp : t.Perm (l ++ restL l x.sp)) (hs : t.Pairwise fun x y => ¬ y.fr < x.fr) : t = stepL k l x := by
  unfold stepL
  rw [if_pos hx]
  exact perm_sorted_eq (hp.trans (isort_perm _).symm) (good_more h x.sp_lo x.sp_hi hp hs) (good_more h x.sp_lo x.sp_hi (isort_perm _) (isort_sorted _))
theorem all_good {k : Int} (rows : List Row) : ∀ {l : List Sp}, Good l → Good (rows.foldl (stepL k) l) := by
  induction rows with
  | nil => intro l h; exact h
  | cons x xs ih => intro l h; exact ih (step_good h x)
theorem allL_good (k : Int) (rows : List Row) : Good (allL k rows) := all_good rows ⟨List.Pairwise.nil, fun _ h => by cases h⟩
theorem allL_snoc (k : Int) (rows : List Row) (x : Row) : allL k (rows ++ [x]) = stepL k (allL k rows) x := by simp [allL]
theorem first_snoc (rows : List Row) (x : Row) (k r : Int) : first (rows ++ [x]) k r = (first rows k r).or (if x.has k r then some (x.a, x.b) else none) := by
  unfold first
  rw [List.find?_append]
  cases h : rows.find? fun x => x.has k r with
  | some y => simp
  | none => simp only [Option.none_or, Option.map_none, List.find?_singleton]; split <;> rfl
theorem allL_has (k : Int) (rows : List Row) (r a b : Int) : Has (allL k rows) r a b ↔ (0 ≤ r ∧ r ≤ 1114111) ∧ first rows k r = some (a, b) := by
  suffices H : ∀ n, ∀ (rows : List Row), rows.length = n → ∀ r a b, Has (allL k rows) r a b ↔ (0 ≤ r ∧ r ≤ 1114111) ∧ first rows k r = some (a, b) from H _ rows rfl r a b
  intro n
  induction n with
  | zero =>
    intro rows h r a b
    have := List.length_eq_zero_iff.1 h
    subst this
    simp [allL, Has, first]
  | succ n ih =>
    intro rows h r a b
    obtain ⟨ys, x, rfl⟩ : ∃ ys x, rows = ys ++ [x] := by
      have hne : rows ≠ [] := by rintro rfl; simp at h
      exact ⟨rows.dropLast, rows.getLast hne, (List.dropLast_concat_getLast hne).symm⟩
    have ih := ih ys (by simpa using h)
    rw [allL_snoc, first_snoc]
    unfold stepL
    split
    next hk =>
      rw [has_more (allL_good k ys) (isort_perm _), ih]
      have hno : (∀ y ∈ allL k ys, ¬ y.has r) ↔ ∀ a b, ¬ Has (allL k ys) r a b := by
        constructor
        · rintro h a b ⟨y, hy, h1, _⟩; exact h y hy h1
        · intro h y hy h1; exact h y.a y.b ⟨y, hy, h1, rfl, rfl⟩
      rw [hno]
      simp only [ih]
      have hsp : x.sp.has r ↔ (0 ≤ r ∧ r ≤ 1114111) ∧ x.has k r = true := by
        simp only [Sp.has, Row.sp, Row.has, Bool.and_eq_true, decide_eq_true_eq, hk, true_and]
        split <;> split <;> omega
      rw [hsp]
      cases hf : first ys k r with
      | some p =>
        simp only [Option.some_or]
        constructor
        · rintro (h | ⟨⟨h1, h2⟩, _, _, h3⟩)
          · exact h
          · exact absurd ⟨h1, rfl⟩ (h3 p.1 p.2)
        · exact fun h => .inl h
      | none =>
        simp only [Option.none_or, reduceCtorEq, and_false, false_or, not_false_eq_true, implies_true, and_true]
        constructor
        · rintro ⟨⟨h1, h2⟩, h3, h4⟩; rw [if_pos h2, ← h3, ← h4]; exact ⟨h1, rfl⟩
        · rintro ⟨h1, h2⟩
          split at h2
          · cases h2; exact ⟨⟨h1, by assumption⟩, rfl, rfl⟩
          · cases h2
    next hk =>
      rw [ih]
      have : x.has k r = false := by simp [Row.has, hk]
      rw [this]
      simp
theorem ofL_good (k : Int) (rows : List Row) : Good (ofL k rows) := (joinL_ok (allL_good k rows)).1
theorem ofL_split (k : Int) (rows : List Row) : Split (ofL k rows) := (joinL_ok (allL_good k rows)).2.1
theorem ofL_has (k : Int) (rows : List Row) (r a b : Int) : Has (ofL k rows) r a b ↔ (0 ≤ r ∧ r ≤ 1114111) ∧ first rows k r = some (a, b) := by
  rw [ofL, (joinL_ok (allL_good k rows)).2.2, allL_has]
example : ofL 1 [⟨1, 5, 9, 7, 0⟩, ⟨1, 8, 12, 8, 0⟩] = [⟨5, 9, 7, 0⟩, ⟨10, 12, 8, 0⟩] := by decide
end Go.Eng.Rows
set_option linter.unusedVariables false
set_option linter.unusedSimpArgs false
namespace Go.Eng
open Go Go.Proofs Go.Shelf Go.Sort
/-- Numbers as cells. -/
def ints64 (l : List Int) : List PV := l.map fun n => .int .i64 n
def vals64 (l : List Int) : List Value := l.map fun n => .int .i64 n
theorem vals_rep {w : World} {I : Nat → Prop} (l : List Int) : Rep w I (.agg (ints64 l)) (.agg (vals64 l).toArray) := by
  refine .agg _ _ (by simp [ints64, vals64]) (fun k v hv => ?_) (fun k v hv => ?_) <;>
  · simp only [ints64, List.getElem?_map] at hv
    cases hq : l[k]? with
    | none => rw [hq] at hv; cases hv
    | some n =>
      rw [hq] at hv; cases hv
      have : (vals64 l).toArray.getD k undef = .int .i64 n := by
        have hk := (List.getElem?_eq_some_iff.1 hq)
        obtain ⟨hk, he⟩ := hk
        simp [vals64, hk, he]
      rw [this]
      first | exact .int _ _ | rfl
theorem rep_ints {w : World} {I : Nat → Prop} {n : Int} {v : Value} (h : Rep w I (.int .i64 n) v) : v = .int .i64 n := by cases h; rfl
/-- A call of numbers alone: the world behind it. -/
theorem PCall.grows {P : Program} {g : Nat} {ps : List PV} {n : Int} (hc : PCall P g ps fun v => v = .int .i64 n) {args : Array Value} (hsz : args.size = ps.length) (hr : ∀ (w : World) (I : Nat → Prop) (i : Nat) p, ps[i]? = some p → Rep w I p (args.getD i undef)) (W : World) :
    Calls P g args W fun e w' => e = .returned (.int .i64 n) ∧ ∃ q os', w' = Sort.grow (W.drewN q) os' := by
  refine (hc.2 W (fun b => b < W.heap.size) (fun _ => ⟨0, 0, 0, 0⟩) args (HRel.nil _ fun b hb => hb) (by simpa using hsz) (fun i v hi => ?_)).mono fun e w' ⟨cv, r, h', I', G', e1, ⟨v, e2, hq⟩, e3, e4, e5⟩ => ?_
  · rw [List.getElem?_map] at hi
    cases hp : ps[i]? with
    | none => rw [hp] at hi; cases hi
    | some p => rw [hp] at hi; cases hi; exact .pv _ _ (hr _ _ i p hp)
  · subst e2; subst hq
    have := e4.int_eq
    subst this
    have e5 := e5.t
    refine ⟨e1, w'.drawn - W.drawn, w'.heap.extract W.heap.size w'.heap.size, ?_⟩
    have hno : ∀ b, ¬ Owns [] (fun _ => (⟨0, 0, 0, 0⟩ : Pl)) b := fun b ⟨o, ob, ho, _⟩ => by simp at ho
    have hh : w'.heap = W.heap ++ w'.heap.extract W.heap.size w'.heap.size := by
      apply Array.ext
      · simp; have := e5.size; omega
      · intro i h1 h2
        by_cases hi : i < W.heap.size
        · have := e5.keep i hi (hno i)
          rw [Array.getElem?_eq_getElem h1, Array.getElem?_eq_getElem hi] at this
          rw [Array.getElem_append_left hi]
          exact Option.some.inj this
        · rw [Array.getElem_append_right (by omega)]
          simp only [Array.getElem_extract]
          congr 1; omega
    have hd : ∀ q, (W.drewN q).heap = W.heap ∧ (W.drewN q).tape = W.tape ∧ (W.drewN q).drawn = W.drawn + q ∧ (W.drewN q).os = W.os ∧ (W.drewN q).output = W.output := fun q => by
      induction q with
      | zero => exact ⟨rfl, rfl, rfl, rfl, rfl⟩
      | succ q ih =>
        obtain ⟨i1, i2, i3, i4, i5⟩ := ih
        exact ⟨i1, i2, by show (W.drewN q).drawn + 1 = _; rw [i3]; omega, i4, i5⟩
    obtain ⟨d1, d2, d3, d4, d5⟩ := hd (w'.drawn - W.drawn)
    have hdr := e5.drawn
    obtain ⟨h1, h2, h3, h4, h5⟩ := w'
    simp only [Sort.grow, World.mk.injEq]
    refine ⟨by rw [d1]; exact hh, by rw [d2]; exact e5.tape, by rw [d3]; simp only at hdr ⊢; omega, by rw [d4]; exact e5.os, by rw [d5]; exact e5.output⟩

theorem vals64_get (l : List Int) (q : Nat) (hq : q < l.length) : (vals64 l)[q]! = .int .i64 (l.getD q 0) := by
  simp [vals64, hq, List.getD]
theorem ints64_get (l : List Int) (q : Nat) (hq : q < l.length) : (ints64 l)[q]? = some (.int .i64 (l.getD q 0)) := by
  simp [ints64, hq, List.getD]
/-- slices.SortFunc, of rows of numbers. -/
theorem sort_ok {P : Program} {ρ : Go.Shelf.Ren} (L : SlLaysF0.n6 P ρ) (hcal : callable P (ρ.f 6)) (k : Nat) (hk0 : k ≠ 0) (aE : ∀ w, (isAgg (ρ.t 24)).run P w = .ok true w) (zE : ∀ w, (Go.sizeOf (ρ.t 24)).run P w = .ok k w) {α : Type} [Inhabited α] (fs : α → List Int) (hk : ∀ x, (fs x).length = k)
    (cf : α → α → Int) (hO : Sort.SWO (ltOf cf)) (g : Nat) (hc : ∀ x y, PCall P g [.agg (ints64 (fs x)), .agg (ints64 (fs y))] fun v => v = .int .i64 (cf x y)) (ty : Nat × Nat) (hty : ty.2 = k) (nl : Bool) (l : List α) (hnl : nl = true → l = []) (hl : l.length < 4611686018427387904) :
    ACall P (ρ.f 6) [.own 0, .pv (.fn g [])] [.sl ty false nl (l.map fun x => ints64 (fs x))] fun r h' => ∃ t : List α, r = .tup [] ∧ h' = [.sl ty false nl (t.map fun x => ints64 (fs x))] ∧ t.Perm l ∧ t.Pairwise (fun a b => ¬ cf b a < 0) := by
  refine ⟨hcal, fun w I G cargs hh hsz hrel => ?_⟩
  simp only [List.length_cons, List.length_nil] at hsz
  have h0 := hrel 0 (.own 0) rfl
  have h1 := hrel 1 (.pv (.fn g [])) rfl
  obtain ⟨v0, v1, rfl⟩ : ∃ v0 v1, cargs = #[v0, v1] := by
    obtain ⟨c⟩ := cargs
    match c, hsz with
    | [a, b], _ => exact ⟨a, b, rfl⟩
  have e0 : (#[v0, v1] : Array Value).getD 0 undef = v0 := rfl
  have e1 : (#[v0, v1] : Array Value).getD 1 undef = v1 := rfl
  rw [e0] at h0
  rw [e1] at h1
  have hv1 : v1 = .func (.func g) #[] #[] := by
    cases h1 with
    | pv _ _ h => cases h with
      | fn f cs vs q1 q2 => have : vs = #[] := Array.eq_empty_of_size_eq_zero (by simpa using q1); rw [this]
  subst hv1
  by_cases hl0 : l = []
  · subst hl0
    obtain ⟨p, cap, rfl⟩ : ∃ p cap, v0 = .slice p 0 cap := by
      cases h0 with
      | ownNil => exact ⟨_, _, rfl⟩
      | own o ty m es ad q0 q1 => simp at q1; obtain ⟨_, _, _, rfl⟩ := q1; exact ⟨_, _, rfl⟩
    refine (AnyF.slices_SortFunc_none L p cap _ w).mono fun e w' ⟨he, hw⟩ => ?_
    subst hw
    exact ⟨_, _, _, I, G, he, ⟨[], rfl, rfl, List.Perm.refl _, List.Pairwise.nil⟩, hh, .tup [] #[] rfl (fun k v hk => by simp at hk), .refl _ _ _ _⟩
  · have hnl' : nl = false := by cases nl with | false => rfl | true => exact absurd (hnl rfl) hl0
    subst hnl'
    have hor := hh.obs 0 _ rfl
    obtain ⟨o1, o2, o3, o4, o5, o6⟩ := hor
    have hlen : 0 < l.length := List.length_pos_iff.2 hl0
    simp only [List.length_map] at o1
    have hcap : (G 0).cap ≠ 0 := by omega
    have hoff := o3 hcap
    obtain ⟨vs, f1, f2, f3⟩ := o6 hcap
    have hs4 : (G 0).sz = k := o4.trans hty
    cases h0 with
    | ownNil o ty m es q1 => simp at q1
    | own o ty' m es ad q0 q1 =>
      simp only [List.getElem?_cons_zero, Option.some.injEq, Ob.sl.injEq] at q1
      obtain ⟨rfl, rfl, _, rfl⟩ := q1
      have had := q0 hcap
      subst had
      rw [hoff]
      have hown : Owns [Ob.sl ty false false (l.map fun x => ints64 (fs x))] G (G 0).blk := ⟨0, _, rfl, ⟨rfl, hcap⟩, rfl⟩
      have hblk := hh.blk_lt hown
      have kpos := Nat.pos_of_ne_zero hk0
      have hdm : ∀ {i q : Nat}, q < k → (i * k + q) / k = i ∧ (i * k + q) % k = q := fun {i q} hq => by
        constructor
        · rw [Nat.mul_comm, Nat.mul_add_div kpos, Nat.div_eq_of_lt hq]; omega
        · rw [Nat.mul_comm, Nat.mul_add_mod, Nat.mod_eq_of_lt hq]
      have hrow : ∀ (d : Array α) (i q : Nat), i < d.size → q < k → (flatK (fun x => vals64 (fs x)) k d)[i * k + q]! = .int .i64 ((fs d[i]!).getD q 0) := fun d i q hi hq => by
        have hlt : i * k + q < d.size * k := by
          have : (i + 1) * k ≤ d.size * k := Nat.mul_le_mul_right _ hi
          rw [Nat.add_mul] at this; omega
        rw [get_flatK _ _ _ _ hlt, (hdm hq).1, (hdm hq).2]
        exact vals64_get _ _ (by rw [hk]; exact hq)
      have hH : HoldsK (fun x => vals64 (fs x)) k w (G 0).blk 0 l.toArray := fun j hj => by
        simp only [size_flatK, List.size_toArray] at hj
        have hi : j / k < l.length := by rw [Nat.div_lt_iff_lt_mul kpos]; exact hj
        have hq : j % k < k := Nat.mod_lt _ kpos
        have hjj : j = j / k * k + j % k := by have := Nat.div_add_mod j k; rw [Nat.mul_comm] at this; omega
        have hlt : j < vs.size := by
          rw [f2, hs4]
          exact Nat.lt_of_lt_of_le hj (Nat.mul_le_mul_right _ o1)
        have hr := f3 (j / k) _ (by simp [hi]) (j % k) _ (ints64_get (fs l[j / k]) (j % k) (by rw [hk]; exact hq))
        rw [hs4, ← hjj] at hr
        have hval := rep_ints hr.1
        refine ⟨?_, ?_⟩
        · have h2 := hrow l.toArray (j / k) (j % k) (by simpa using hi) hq
          rw [← hjj] at h2
          rw [h2, Nat.zero_add, cells_of_row f1 hlt, hval]
          simp [hi]
        · simp [World.frozen?, f1]
      have eg : ∀ args w, (callFunc g args).run P w = .ok (.enter g args) w := fun args w => run_callFunc (hc default default).1
      have hcmp : CmpLays P g #[] (fun x => vals64 (fs x)) k cf (G 0).blk 0 l.toArray.size w := fun m os dk hdk x y => by
        refine PCall.grows (hc x y) rfl (fun w I i p hi => ?_) _
        match i, hi with
        | 0, hi => cases hi; exact vals_rep _
        | 1, hi => cases hi; exact vals_rep _
      have main := AnyQ.slices_SortFunc L k aE zE (fun x => vals64 (fs x)) (fun x => by simp [vals64, hk]) (fun x v hv => by simp only [vals64, List.mem_map] at hv; obtain ⟨n, _, rfl⟩ := hv; rfl) cf hO g #[] (G 0).blk 0 (G 0).cap l.toArray w eg hcmp hH hblk (by simpa using hl)
      have e3 : l.toArray.size = (l.map fun x => ints64 (fs x)).length := by simp
      rw [e3] at main
      refine main.mono fun e w' ⟨he, d', n, os, hp, hs, hw⟩ => ?_
      subst hw
      have hds : d'.size = l.length := by rw [hp.1]; simp
      have hperm : d'.toList.Perm l := by
        have := hp.2.2
        simp only [List.length_map] at this
        rw [show d'.extract 0 l.length = d' by rw [← hds]; simp] at this
        simpa using this
      have hbl : (sortWorldK (fun x => vals64 (fs x)) k w (G 0).blk 0 n d' os).heap[(G 0).blk]? = some (.cells (putCells id 0 (flatK (fun x => vals64 (fs x)) k d') vs) ty.1 (0, 0)) := by
        unfold sortWorldK putRowK putRow
        rw [Sort.heap_grow_old _ _ (by simpa [Sort.mapBlock, Sort.ahead] using hblk)]
        simp only [Sort.mapBlock, Sort.ahead, Array.getElem?_modify, if_true, f1]
        rfl
      have hother : ∀ b, b < w.heap.size → b ≠ (G 0).blk → (sortWorldK (fun x => vals64 (fs x)) k w (G 0).blk 0 n d' os).heap[b]? = w.heap[b]? := fun b hb hne => by
        unfold sortWorldK putRowK putRow
        rw [Sort.heap_grow_old _ _ (by simpa [Sort.mapBlock, Sort.ahead] using hb)]
        simp only [Sort.mapBlock, Sort.ahead, Array.getElem?_modify]
        rw [if_neg (fun e => hne e.symm)]
      have hsize : w.heap.size ≤ (sortWorldK (fun x => vals64 (fs x)) k w (G 0).blk 0 n d' os).heap.size := by
        unfold sortWorldK putRowK putRow
        rw [Sort.size_grow]
        simp [Sort.mapBlock, Sort.ahead]
      have hkeep : Keeps w I (sortWorldK (fun x => vals64 (fs x)) k w (G 0).blk 0 n d' os) I := ⟨fun b hb hbs => hother b hbs (fun e => hh.nI 0 _ rfl ⟨rfl, hcap⟩ (e ▸ hb)), fun _ x _ => x⟩
      refine ⟨_, _, _, I, G, he, ⟨d'.toList, rfl, rfl, hperm, ?_⟩, ⟨fun o ob ho => ?_, fun o o' ob ob' ho _ ho' _ _ => ?_, fun o ob ho ha => ?_, fun b hb => Nat.lt_of_lt_of_le (hh.cl b hb) hsize⟩, .tup [] #[] rfl (fun k v hk => by simp at hk), ⟨⟨rfl, rfl, rfl, hsize, fun b hb hn => hother b hb (fun e => hn (e ▸ hown)), fun _ x => x, fun _ x => .inl x, fun b ⟨o, ob, ho, ha, hb⟩ => .inl ?_, fun a ha => ?_, Nat.le_add_right _ _⟩, Nat.le_refl _, fun o ob' ho hx hf => ?_⟩⟩
      · rw [List.pairwise_iff_getElem]
        intro i j hi hj hij
        have := hs i j (Nat.zero_le _) hij (by simp at hj ⊢; omega)
        simp only [ltOf, decide_eq_false_iff_not] at this
        simp only [Array.length_toList] at hi hj
        simpa [hi, hj] using this
      · cases o with
        | succ o => simp at ho
        | zero =>
          simp only [List.getElem?_cons_zero, Option.some.injEq] at ho
          subst ho
          refine ⟨by simp; omega, o2, fun _ => hoff, o4, fun i e he => ?_, fun _ => ⟨_, hbl, by simp [putCells, f2], fun i e he q v hv => ?_⟩⟩
          · rw [List.getElem?_map] at he
            cases hq : d'.toList[i]? with
            | none => rw [hq] at he; cases he
            | some x => rw [hq] at he; cases he; simp [ints64, hk, hs4]
          · rw [List.getElem?_map] at he
            cases hq : d'.toList[i]? with
            | none => rw [hq] at he; cases he
            | some x =>
              rw [hq] at he
              simp only [Option.map_some, Option.some.injEq] at he
              subst he
              have hi := (List.getElem?_eq_some_iff.1 hq)
              obtain ⟨hi, hix⟩ := hi
              simp only [Array.length_toList] at hi
              have hqk : q < k := by have := (List.getElem?_eq_some_iff.1 hv).1; simpa [ints64, hk] using this
              rw [ints64_get _ _ (by rw [hk]; exact hqk)] at hv
              cases hv
              have hlt : i * k + q < vs.size := by
                rw [f2, hs4]
                have h1 : (i + 1) * k ≤ (G 0).cap * k := Nat.mul_le_mul_right _ (by omega)
                rw [Nat.add_mul] at h1; omega
              have hlt2 : i * k + q < d'.size * k := by
                have h1 : (i + 1) * k ≤ d'.size * k := Nat.mul_le_mul_right _ hi
                rw [Nat.add_mul] at h1; omega
              have : (putCells id 0 (flatK (fun x => vals64 (fs x)) k d') vs).getD (i * (G 0).sz + q) undef = .int .i64 ((fs x).getD q 0) := by
                rw [hs4]
                have h2 := hrow d' i q hi hqk
                have h3 : d'[i]! = x := by rw [← hix]; simp [hi]
                rw [h3] at h2
                simp only [putCells, Array.getD_eq_getD_getElem?, Array.getElem?_mapIdx, Array.getElem?_eq_getElem hlt, Option.map_some, Option.getD_some, Nat.sub_zero, size_flatK, Nat.zero_add]
                rw [if_pos ⟨Nat.zero_le _, hlt2⟩]
                exact h2
              rw [this]
              exact ⟨.int _ _, rfl⟩
      · cases o with
        | succ o => simp at ho
        | zero => cases o' with
          | succ o' => simp at ho'
          | zero => rfl
      · cases o with
        | succ o => simp at ho
        | zero => exact hh.nI 0 _ rfl ⟨rfl, hcap⟩
      · cases o with
        | succ o => simp at ho
        | zero => exact hb ▸ hown
      · unfold sortWorldK putRowK
        rw [Sort.frozen?_grow _ _ _ (by simpa [putRow, Sort.mapBlock, Sort.ahead] using ha), Sort.frozen?_putRow]
        rfl
      · cases o with
        | succ o => simp at ho
        | zero => exact ⟨rfl, _, rfl, rfl⟩
end Go.Eng
/-
  DERIVED: THE SHELF's CONTRACTS AT THIS DUMP, IN PLAIN WORDS (tools/lay-plain.mjs out of 'Sspan.lean', which tools/lay-shelf.mjs wrote): THE SAME DECLARATIONS UNDER THE SAME NAMES: 'import', 'namespace', 'open', 'def', 'theorem' AND NOTHING ELSE: no command of the shelf's: FOR A HAND-IN. Each laying: the table of numbers ('.._ren') and one theorem, a field a fact of the dump's own or the kernel's comparison; each contract: ONE APPLICATION.
-/
namespace Go.Proofs
open Go.Shelf
def Try.sortSpan_ren : Go.Shelf.Ren := ⟨fun | 6 => 76 | 15 => 100 | 14 => 99 | 28 => 114 | 29 => 115 | 20 => 106 | 21 => 107 | 22 => 108 | 23 => 109 | 24 => 110 | 25 => 111 | 26 => 112 | 27 => 113 | 46 => 117 | 47 => 118 | 48 => 119 | 49 => 120 | 50 => 121 | 57 => 123 | n => n, fun | 22 => 55 | 24 => 58 | 25 => 103 | 3 => 3 | 39 => 160 | 0 => 0 | 53 => 173 | 55 => 175 | 4 => 4 | 46 => 167 | 45 => 166 | 50 => 142 | 5 => 5 | 9 => 9 | 66 => 176 | 70 => 180 | 76 => 182 | 77 => 137 | n => n, fun | n => n⟩
theorem Try.sortSpan : Go.Proofs.SlLaysF0.n6 Try.prog Try.sortSpan_ren := {
  mixed := by kernel_rfl
  f6 := ⟨Try.f76.name, by decide, Try.func76.trans (congrArg some (by kernel_rfl))⟩
  f14 := ⟨Try.f99.name, by decide, Try.func99.trans (congrArg some (by kernel_rfl))⟩
  f15 := Try.func100.trans (congrArg some (by kernel_rfl))
  f20 := ⟨Try.f106.name, by decide, Try.func106.trans (congrArg some (by kernel_rfl))⟩
  f21 := ⟨Try.f107.name, by decide, Try.func107.trans (congrArg some (by kernel_rfl))⟩
  f22 := ⟨Try.f108.name, by decide, Try.func108.trans (congrArg some (by kernel_rfl))⟩
  f23 := ⟨Try.f109.name, by decide, Try.func109.trans (congrArg some (by kernel_rfl))⟩
  f24 := ⟨Try.f110.name, by decide, Try.func110.trans (congrArg some (by kernel_rfl))⟩
  f25 := ⟨Try.f111.name, by decide, Try.func111.trans (congrArg some (by kernel_rfl))⟩
  f26 := ⟨Try.f112.name, by decide, Try.func112.trans (congrArg some (by kernel_rfl))⟩
  f27 := ⟨Try.f113.name, by decide, Try.func113.trans (congrArg some (by kernel_rfl))⟩
  f28 := Try.func114.trans (congrArg some (by kernel_rfl))
  f29 := Try.func115.trans (congrArg some (by kernel_rfl))
  f46 := ⟨Try.f117.name, by decide, Try.func117.trans (congrArg some (by kernel_rfl))⟩
  f47 := Try.func118.trans (congrArg some (by kernel_rfl))
  f48 := Try.func119.trans (congrArg some (by kernel_rfl))
  f49 := ⟨Try.f120.name, by decide, Try.func120.trans (congrArg some (by kernel_rfl))⟩
  f50 := ⟨Try.f121.name, by decide, Try.func121.trans (congrArg some (by kernel_rfl))⟩
  f57 := ⟨Try.f123.name, by decide, Try.func123.trans (congrArg some (by kernel_rfl))⟩
  t0 := Try.underlying0
  a0 := Try.isAgg0
  z0 := Try.sizeOf0
  v0 := Try.zeroValue0
  t3 := Try.underlying3
  a3 := Try.isAgg3
  z3 := Try.sizeOf3
  v3 := Try.zeroValue3
  t4 := Try.underlying4
  a4 := Try.isAgg4
  z4 := Try.sizeOf4
  v4 := Try.zeroValue4
  t5 := Try.underlying5
  a5 := Try.isAgg5
  z5 := Try.sizeOf5
  v5 := Try.zeroValue5
  t9 := Try.underlying9
  a9 := Try.isAgg9
  z9 := Try.sizeOf9
  v9 := Try.zeroValue9
  t22 := Try.underlying55
  a22 := Try.isAgg55
  z22 := Try.sizeOf55
  v22 := Try.zeroValue55
  t25 := Try.underlying103
  a25 := Try.isAgg103
  z25 := Try.sizeOf103
  v25 := Try.zeroValue103
  t39 := Try.underlying160
  a39 := Try.isAgg160
  z39 := Try.sizeOf160
  v39 := Try.zeroValue160
  t45 := Try.underlying166
  a45 := Try.isAgg166
  z45 := Try.sizeOf166
  v45 := Try.zeroValue166
  t46 := Try.underlying167
  a46 := Try.isAgg167
  z46 := Try.sizeOf167
  v46 := Try.zeroValue167
  t50 := Try.underlying142
  a50 := Try.isAgg142
  z50 := Try.sizeOf142
  v50 := Try.zeroValue142
  t53 := Try.underlying173
  a53 := Try.isAgg173
  z53 := Try.sizeOf173
  v53 := Try.zeroValue173
  t55 := Try.underlying175
  a55 := Try.isAgg175
  z55 := Try.sizeOf175
  v55 := Try.zeroValue175
  t66 := Try.underlying176
  a66 := Try.isAgg176
  z66 := Try.sizeOf176
  v66 := Try.zeroValue176
  t70 := Try.underlying180
  a70 := Try.isAgg180
  z70 := Try.sizeOf180
  v70 := Try.zeroValue180
  t76 := Try.underlying182
  a76 := Try.isAgg182
  z76 := Try.sizeOf182
  v76 := Try.zeroValue182
  t77 := Try.underlying137
  a77 := Try.isAgg137
  z77 := Try.sizeOf137
  v77 := Try.zeroValue137 }
end Go.Proofs
set_option maxRecDepth 100000
set_option linter.unusedVariables false
set_option linter.unusedSimpArgs false
namespace Go.Eng
open Go Go.Proofs Go.Eng.Rows
def encS (s : Sp) : List PV := [.int .i64 s.fr, .int .i64 s.to, .int .i64 s.a, .int .i64 s.b]
def encR (x : Row) : List PV := [.int .i64 x.kind, .int .i64 x.fr, .int .i64 x.to, .int .i64 x.a, .int .i64 x.b]
def sps (l : List Sp) : List (List PV) := l.map encS
def rws (l : List Row) : List (List PV) := l.map encR
theorem encS_len (x : Sp) : (encS x).length = 4 := rfl
theorem encR_len (x : Row) : (encR x).length = 5 := rfl
theorem p96 (x : Int) : PCall Try.prog 88 [.int .i64 x] fun v => v = .bool false := by
  refine a_cmp_isNaN_int x ?_; unfold r_cmp_isNaN_int; simp
def cmpS (x y : Int) : Int := if x < y then -1 else if x > y then 1 else 0
theorem p61 (x y : Int) : PCall Try.prog 65 [.int .i64 x, .int .i64 y] fun v => v = .int .i64 (cmpS x y) := by
  refine a_cmp_Compare_int x y ?_; unfold r_cmp_Compare_int
  refine (p96 x).mono ?_; rintro _ rfl
  refine ⟨_, rfl, ?_⟩
  refine (p96 y).mono ?_; rintro _ rfl
  refine ⟨_, rfl, ?_⟩
  simp only [Bool.false_eq_true, if_false, cmpS, decide_eq_true_eq]
  by_cases h : x < y
  · rw [if_pos h, if_pos h]
  · rw [if_neg h, if_neg h]
    by_cases h : x > y
    · rw [if_pos h, if_pos h]
    · rw [if_neg h, if_neg h]
theorem cmpS_lt (x y : Int) : cmpS x y < 0 ↔ x < y := by
  unfold cmpS
  by_cases h : x < y
  · simp [h]
  · rw [if_neg h]; split <;> omega
theorem p60 (x y : Sp) : PCall Try.prog 74 [.agg (encS x), .agg (encS y)] fun v => v = .int .i64 (cmpS x.fr y.fr) := by
  refine a_rows_Of_1 _ _ _ _ _ _ _ _ ?_; unfold r_rows_Of_1
  refine (p61 x.fr y.fr).mono ?_; rintro _ rfl
  exact ⟨_, rfl, rfl⟩
/-- What is left of a span. -/
theorem p62 (s : Sp) (n : Bool) (l : List Sp) (hl : Rows.Good l) (h0 : 0 ≤ s.fr) (h1 : s.to ≤ 1114111) : ACall Try.prog 75 [.pv (.agg (encS s)), .own 0] [.sl (58, 4) false n (sps l)] fun r h' => ∃ m, r = .own 1 ∧ h' = [.sl (58, 4) false n (sps l), .sl (58, 4) true m (sps (restL l s))] := by
  refine a_rows_rest _ _ _ _ _ _ (fun i fr to a b _ acc => 0 ≤ i ∧ i ≤ l.length ∧ a = s.a ∧ b = s.b ∧ ∃ t, acc = sps t ∧ t ++ restL (l.drop i.toNat) ⟨fr, to, a, b⟩ = restL l s ∧ 0 ≤ fr ∧ to ≤ 1114111) (fun i _ _ _ _ _ _ => l.length - i.toNat) ?_
  unfold r_rows_rest
  refine ⟨⟨rfl, Int.le_refl _, by omega, rfl, rfl, [], rfl, rfl, h0, h1⟩, ?_⟩
  rintro i fr to a b m acc ⟨i0, i1, rfl, rfl, t, rfl, ht, b0, b1⟩
  have hlen : (sps l).length = l.length := by simp [sps]
  have hll := hl.len
  have htl : t.length ≤ 1114113 := by
    have := restL_len l s
    rw [← ht] at this
    simp at this; omega
  have hszt : (sps t).length = t.length := by simp [sps]
  split
  next hc =>
    simp only [decide_eq_true_eq, hlen] at hc
    have hi : i.toNat < l.length := by omega
    have hx := hl.2 l[i.toNat] (List.getElem_mem hi)
    have hw : IntKind.i64.wrap (i + 1) = i + 1 := wrap_i64 (by omega) (by omega)
    have hn : (i + 1).toNat = i.toNat + 1 := by omega
    have hg : (sps l).getD i.toNat [] = encS l[i.toNat] := getD_map hi
    rw [drop_cons hi] at ht
    refine ⟨idxOK_map encS_len i0 hc, l[i.toNat].fr, by rw [hg]; rfl, l[i.toNat].to, by rw [hg]; rfl, l[i.toNat].a, by rw [hg]; rfl, l[i.toNat].b, by rw [hg]; rfl, ?_⟩
    simp only [restL] at ht
    rw [hw]
    split
    next c1 =>
      simp only [decide_eq_true_eq, gt_iff_lt] at c1
      rw [if_pos c1] at ht
      exact ⟨rfl, ⟨by omega, by omega, rfl, rfl, t, rfl, by rw [hn]; exact ht, b0, b1⟩, by dsimp only; omega⟩
    next c1 =>
      simp only [decide_eq_true_eq, gt_iff_lt] at c1
      rw [if_neg c1] at ht
      split
      next c2 =>
        simp only [decide_eq_true_eq, gt_iff_lt] at c2
        rw [if_pos c2] at ht
        exact ⟨rfl, ⟨by omega, by omega, rfl, rfl, t, rfl, by rw [hn]; exact ht, b0, b1⟩, by dsimp only; omega⟩
      next c2 =>
        simp only [decide_eq_true_eq, gt_iff_lt] at c2
        rw [if_neg c2] at ht
        have hw2 : IntKind.i64.wrap (l[i.toNat].to + 1) = l[i.toNat].to + 1 := wrap_i64 (by omega) (by omega)
        have hw3 : IntKind.i64.wrap (l[i.toNat].fr - 1) = l[i.toNat].fr - 1 := wrap_i64 (by omega) (by omega)
        rw [hw2, hw3]
        split
        next c3 =>
          simp only [decide_eq_true_eq, gt_iff_lt] at c3
          rw [if_pos c3] at ht
          refine ⟨⟨fun e he => by simp at he; subst he; rfl, by rw [hszt]; omega⟩, rfl, ⟨by omega, by omega, rfl, rfl, t ++ [⟨fr, l[i.toNat].fr - 1, s.a, s.b⟩], by simp [sps, encS], by rw [hn, List.append_assoc]; exact ht, by omega, b1⟩, by dsimp only; omega⟩
        next c3 =>
          simp only [decide_eq_true_eq, gt_iff_lt] at c3
          rw [if_neg c3] at ht
          exact ⟨rfl, ⟨by omega, by omega, rfl, rfl, t, rfl, by rw [hn]; exact ht, by omega, b1⟩, by dsimp only; omega⟩
  next hc =>
    simp only [decide_eq_true_eq, hlen] at hc
    have hi : l.length ≤ i.toNat := by omega
    rw [List.drop_eq_nil_of_le hi] at ht
    simp only [restL] at ht
    split
    next c =>
      simp only [decide_eq_true_eq, gt_iff_lt] at c
      rw [if_pos c] at ht
      refine ⟨⟨fun e he => by simp at he; subst he; rfl, by rw [hszt]; omega⟩, m && false, rfl, ?_⟩
      rw [← ht]; simp [sps, encS]
    next c =>
      simp only [decide_eq_true_eq, gt_iff_lt] at c
      rw [if_neg c] at ht
      refine ⟨m, rfl, ?_⟩
      rw [← ht]; simp [sps]
/-- The spans sorted. -/
theorem p63 (n : Bool) (l : List Sp) (hn : n = true → l = []) (hl : l.length < 4611686018427387904) : ACall Try.prog 76 [.own 0, .pv (.fn 74 [])] [.sl (58, 4) false n (sps l)] fun r h' => ∃ t : List Sp, r = .tup [] ∧ h' = [.sl (58, 4) false n (sps t)] ∧ t.Perm l ∧ t.Pairwise (fun x y => ¬ y.fr < x.fr) := by
  have := sort_ok Try.sortSpan ⟨_, Try.func76, by kernel_rfl, by kernel_rfl⟩ 4 (by decide) (fun w => Try.isAgg58 w) (fun w => Try.sizeOf58 w) (fun s : Sp => [s.fr, s.to, s.a, s.b]) (fun _ => rfl) (fun x y => cmpS x.fr y.fr) ⟨fun x => ?_, fun x y z h1 h2 => ?_, fun x y z h1 h2 => ?_⟩ 74 (fun x y => p60 x y) (58, 4) rfl n l hn hl
  · refine this.mono ?_
    rintro r h' ⟨t, h1, h2, h3, h4⟩
    refine ⟨t, h1, h2, h3, h4.imp fun {a b} h => ?_⟩
    exact fun hlt => h ((cmpS_lt _ _).2 hlt)
  · simp [ltOf, cmpS_lt]
  · simp only [ltOf, cmpS_lt, decide_eq_true_eq] at *; omega
  · simp only [ltOf, cmpS_lt, decide_eq_false_iff_not] at *; omega
end Go.Eng
