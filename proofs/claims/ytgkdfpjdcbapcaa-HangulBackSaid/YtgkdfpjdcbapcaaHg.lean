/- What the functions give: printed by program, checked by the kernel. -/
import Derived.Test.YtgkdfpjdcbapcaaEngC
import Derived.Test.YtgkdfpjdcbapcaaProg
set_option linter.unusedVariables false
set_option maxRecDepth 100000
set_option linter.constructorNameAsVariable false
namespace Go.Eng
open Go Go.Proofs
def r_a10 (r : Int) (R : PV → Prop) : Prop :=
 R (PV.bool (decide (r ≥ (44032 : Int)) && decide (r < (55204 : Int))))
theorem e_a10 (r : Int) (R : PV → Prop) : aFn Try.prog Try.f10 [0, 2] (fun _ => none) (Try.f10.body.getD .skip) [.int .i32 r] R = r_a10 r R := by kernel_rfl
theorem a10 (r : Int) {R : PV → Prop} (h : r_a10 r R) : PCall Try.prog 10 [.int .i32 r] R :=
  PCall.of Try.func10 (by kernel_rfl) (by kernel_rfl) (Nat.le_of_ble_eq_true (by kernel_rfl)) (Eq.mpr (e_a10 r R) h)

def r_a11 (r : Int) (R : PV → Prop) : Prop :=
 R (PV.bool (decide (r ≥ (44032 : Int)) && decide (r ≤ (55203 : Int))))
theorem e_a11 (r : Int) (R : PV → Prop) : aFn Try.prog Try.f11 [0, 2] (fun _ => none) (Try.f11.body.getD .skip) [.int .i32 r] R = r_a11 r R := by kernel_rfl
theorem a11 (r : Int) {R : PV → Prop} (h : r_a11 r R) : PCall Try.prog 11 [.int .i32 r] R :=
  PCall.of Try.func11 (by kernel_rfl) (by kernel_rfl) (Nat.le_of_ble_eq_true (by kernel_rfl)) (Eq.mpr (e_a11 r R) h)

def r_a8 (r : Int) (R : PV → Prop) : Prop :=

  PCall Try.prog ((10 : Nat)) [PV.int IntKind.i32 r] fun (v : PV) ↦
    ∃ (b : Bool),
      v = PV.bool b ∧
        if (!b) = true then R (PV.sl true true [])
        else
          ((3 : Nat) = (3 : Nat) ∧ (3 : Nat) ≤ (3 : Nat)) ∧
            ((0 : Int) ≤ (2 : Int) ∧ (2 : Int) < (↑((3 : Nat)) : Int)) ∧
              ∃ (n : Int),
                some
                      (PV.int IntKind.i32
                        (IntKind.i32.wrap ((4519 : Int) + (IntKind.i32.wrap (r - (44032 : Int))).tmod (28 : Int)))) =
                    some (PV.int IntKind.i32 n) ∧
                  if (n == (4519 : Int)) = true then
                    (slOK ((3 : Nat)) none (some (2 : Int)) (some (2 : Int)) ∧ (3 : Nat) = (3 : Nat)) ∧
                      R
                        (PV.sl false true
                          [[PV.int IntKind.i32
                                (IntKind.i32.wrap
                                  ((4352 : Int) +
                                    IntKind.i32.wrap ((IntKind.i32.wrap (r - (44032 : Int))).tdiv (588 : Int))))],
                            [PV.int IntKind.i32
                                (IntKind.i32.wrap
                                  ((4449 : Int) +
                                    (IntKind.i32.wrap ((IntKind.i32.wrap (r - (44032 : Int))).tdiv (28 : Int))).tmod
                                      (21 : Int)))]])
                  else
                    (slOK ((3 : Nat)) none none none ∧ (3 : Nat) = (3 : Nat)) ∧
                      R
                        (PV.sl false true
                          [[PV.int IntKind.i32
                                (IntKind.i32.wrap
                                  ((4352 : Int) +
                                    IntKind.i32.wrap ((IntKind.i32.wrap (r - (44032 : Int))).tdiv (588 : Int))))],
                            [PV.int IntKind.i32
                                (IntKind.i32.wrap
                                  ((4449 : Int) +
                                    (IntKind.i32.wrap ((IntKind.i32.wrap (r - (44032 : Int))).tdiv (28 : Int))).tmod
                                      (21 : Int)))],
                            [PV.int IntKind.i32
                                (IntKind.i32.wrap
                                  ((4519 : Int) + (IntKind.i32.wrap (r - (44032 : Int))).tmod (28 : Int)))]])
theorem e_a8 (r : Int) (R : PV → Prop) : aFn Try.prog Try.f8 [0, 2, 3, 4, 7, 23] (fun _ => none) (Try.f8.body.getD .skip) [.int .i32 r] R = r_a8 r R := by kernel_rfl
theorem a8 (r : Int) {R : PV → Prop} (h : r_a8 r R) : PCall Try.prog 8 [.int .i32 r] R :=
  PCall.of Try.func8 (by kernel_rfl) (by kernel_rfl) (Nat.le_of_ble_eq_true (by kernel_rfl)) (Eq.mpr (e_a8 r R) h)

def r_a9 (r : Int) (R : PV → Prop) : Prop :=

  PCall Try.prog ((11 : Nat)) [PV.int IntKind.i32 r] fun (v : PV) ↦
    ∃ (b : Bool),
      v = PV.bool b ∧
        if (!b) = true then R (PV.sl true true [])
        else
          if ((IntKind.i64.wrap (IntKind.i64.wrap r - (44032 : Int))).tmod (28 : Int) != (0 : Int)) = true then
            ApOK true
                [[PV.int IntKind.i32
                      (IntKind.i32.wrap
                        (IntKind.i64.wrap
                          ((4352 : Int) +
                            IntKind.i64.wrap
                              ((IntKind.i64.wrap (IntKind.i64.wrap r - (44032 : Int))).tdiv (588 : Int)))))],
                  [PV.int IntKind.i32
                      (IntKind.i32.wrap
                        (IntKind.i64.wrap
                          ((4449 : Int) +
                            (IntKind.i64.wrap
                                  ((IntKind.i64.wrap (IntKind.i64.wrap r - (44032 : Int))).tdiv (28 : Int))).tmod
                              (21 : Int))))]]
                [[PV.int IntKind.i32
                      (IntKind.i32.wrap
                        (IntKind.i64.wrap
                          ((4519 : Int) + (IntKind.i64.wrap (IntKind.i64.wrap r - (44032 : Int))).tmod (28 : Int))))]]
                ((1 : Nat)) ((4 : Nat)) ∧
              R
                (PV.sl false false
                  [[PV.int IntKind.i32
                        (IntKind.i32.wrap
                          (IntKind.i64.wrap
                            ((4352 : Int) +
                              IntKind.i64.wrap
                                ((IntKind.i64.wrap (IntKind.i64.wrap r - (44032 : Int))).tdiv (588 : Int)))))],
                    [PV.int IntKind.i32
                        (IntKind.i32.wrap
                          (IntKind.i64.wrap
                            ((4449 : Int) +
                              (IntKind.i64.wrap
                                    ((IntKind.i64.wrap (IntKind.i64.wrap r - (44032 : Int))).tdiv (28 : Int))).tmod
                                (21 : Int))))],
                    [PV.int IntKind.i32
                        (IntKind.i32.wrap
                          (IntKind.i64.wrap
                            ((4519 : Int) +
                              (IntKind.i64.wrap (IntKind.i64.wrap r - (44032 : Int))).tmod (28 : Int))))]])
          else
            R
              (PV.sl false true
                [[PV.int IntKind.i32
                      (IntKind.i32.wrap
                        (IntKind.i64.wrap
                          ((4352 : Int) +
                            IntKind.i64.wrap
                              ((IntKind.i64.wrap (IntKind.i64.wrap r - (44032 : Int))).tdiv (588 : Int)))))],
                  [PV.int IntKind.i32
                      (IntKind.i32.wrap
                        (IntKind.i64.wrap
                          ((4449 : Int) +
                            (IntKind.i64.wrap
                                  ((IntKind.i64.wrap (IntKind.i64.wrap r - (44032 : Int))).tdiv (28 : Int))).tmod
                              (21 : Int))))]])
theorem e_a9 (r : Int) (R : PV → Prop) : aFn Try.prog Try.f9 [0, 2, 3, 4, 7, 23] (fun _ => none) (Try.f9.body.getD .skip) [.int .i32 r] R = r_a9 r R := by kernel_rfl
theorem a9 (r : Int) {R : PV → Prop} (h : r_a9 r R) : PCall Try.prog 9 [.int .i32 r] R :=
  PCall.of Try.func9 (by kernel_rfl) (by kernel_rfl) (Nat.le_of_ble_eq_true (by kernel_rfl)) (Eq.mpr (e_a9 r R) h)

def r_a7 (a1 a2 : Bool) (xs : List (List PV)) (b1 b2 : Bool) (ys : List (List PV)) (J : Int → Prop) (μ : Int → Nat) (R : PV → Prop) : Prop :=

  if ((↑xs.length : Int) != (↑ys.length : Int)) = true then R (PV.bool false)
  else
    ∃ (s0 : Int),
      Fits
          [((0 : Nat), LV.pv (PV.sl a1 a2 xs)), ((1 : Nat), LV.pv (PV.sl b1 b2 ys)), ((4 : Nat), LV.pv (PV.bool false)),
            ((5 : Nat), LV.pv (PV.int IntKind.i64 (0 : Int))),
            ((10 : Nat), LV.pv (PV.bool ((↑xs.length : Int) != (↑ys.length : Int))))]
          []
          [((0 : Nat), LV.pv (PV.sl a1 a2 xs)), ((1 : Nat), LV.pv (PV.sl b1 b2 ys)),
            ((5 : Nat), LV.pv (PV.int IntKind.i64 s0))]
          [] ∧
        J s0 ∧
          ∀ (s : Int),
            J s →
              if decide (s < (↑xs.length : Int)) = true then
                idxOK xs s ((1 : Nat)) ∧
                  ∃ (n : Int),
                    (xs.getD s.toNat []).head? = some (PV.int IntKind.i32 n) ∧
                      idxOK ys s ((1 : Nat)) ∧
                        ∃ (n_1 : Int),
                          (ys.getD s.toNat []).head? = some (PV.int IntKind.i32 n_1) ∧
                            if (n != n_1) = true then R (PV.bool false)
                            else
                              ∃ (s' : Int),
                                Fits
                                    [((0 : Nat), LV.pv (PV.sl a1 a2 xs)), ((1 : Nat), LV.pv (PV.sl b1 b2 ys)),
                                      ((5 : Nat), LV.pv (PV.int IntKind.i64 (IntKind.i64.wrap (s + (1 : Int))))),
                                      ((14 : Nat), LV.pv (PV.bool (decide (s < (↑xs.length : Int))))),
                                      ((25 : Nat), LV.pv (PV.bool (n != n_1)))]
                                    []
                                    [((0 : Nat), LV.pv (PV.sl a1 a2 xs)), ((1 : Nat), LV.pv (PV.sl b1 b2 ys)),
                                      ((5 : Nat), LV.pv (PV.int IntKind.i64 s'))]
                                    [] ∧
                                  J s' ∧ μ s' < μ s
              else R (PV.bool true)
theorem e_a7 (a1 a2 : Bool) (xs : List (List PV)) (b1 b2 : Bool) (ys : List (List PV)) (J : Int → Prop) (μ : Int → Nat) (R : PV → Prop) : aFn Try.prog Try.f7 [0, 1, 4, 5, 10, 14, 25] (fun k => match k with | 4 => some ⟨Int, fun i => ([(0, .pv (.sl a1 a2 xs)), (1, .pv (.sl b1 b2 ys)), (5, .pv (.int .i64 i))], []), J, μ⟩ | _ => none) (Try.f7.body.getD .skip) [.sl a1 a2 xs, .sl b1 b2 ys] R = r_a7 a1 a2 xs b1 b2 ys J μ R := by kernel_rfl
theorem a7 (a1 a2 : Bool) (xs : List (List PV)) (b1 b2 : Bool) (ys : List (List PV)) (J : Int → Prop) (μ : Int → Nat) {R : PV → Prop} (h : r_a7 a1 a2 xs b1 b2 ys J μ R) : PCall Try.prog 7 [.sl a1 a2 xs, .sl b1 b2 ys] R :=
  PCall.of Try.func7 (by kernel_rfl) (by kernel_rfl) (Nat.le_of_ble_eq_true (by kernel_rfl)) (Eq.mpr (e_a7 a1 a2 xs b1 b2 ys J μ R) h)

def r_a13 (x y : Int) (R : PV → Prop) : Prop :=

  if
      (decide (x ≥ (4352 : Int)) && decide (x < (4371 : Int)) && decide (y ≥ (4449 : Int)) &&
          decide (y < (4470 : Int))) =
        true then
    R
      (PV.tup
        [PV.int IntKind.i32
            (IntKind.i32.wrap
              ((44032 : Int) +
                IntKind.i32.wrap
                  (IntKind.i32.wrap
                      (IntKind.i32.wrap (IntKind.i32.wrap (IntKind.i32.wrap (x - (4352 : Int)) * (21 : Int)) + y) -
                        (4449 : Int)) *
                    (28 : Int)))),
          PV.bool true])
  else
    PCall Try.prog ((10 : Nat)) [PV.int IntKind.i32 x] fun (v : PV) ↦
      ∃ (b : Bool),
        v = PV.bool b ∧
          if
              (b && (IntKind.i32.wrap (x - (44032 : Int))).tmod (28 : Int) == (0 : Int) && decide (y > (4519 : Int)) &&
                  decide (y < (4547 : Int))) =
                true then
            R (PV.tup [PV.int IntKind.i32 (IntKind.i32.wrap (IntKind.i32.wrap (x + y) - (4519 : Int))), PV.bool true])
          else R (PV.tup [PV.int IntKind.i32 (0 : Int), PV.bool false])
theorem e_a13 (x y : Int) (R : PV → Prop) : aFn Try.prog Try.f13 [0, 1, 4, 5, 6, 29] (fun _ => none) (Try.f13.body.getD .skip) [.int .i32 x, .int .i32 y] R = r_a13 x y R := by kernel_rfl
theorem a13 (x y : Int) {R : PV → Prop} (h : r_a13 x y R) : PCall Try.prog 13 [.int .i32 x, .int .i32 y] R :=
  PCall.of Try.func13 (by kernel_rfl) (by kernel_rfl) (Nat.le_of_ble_eq_true (by kernel_rfl)) (Eq.mpr (e_a13 x y R) h)

def r_a14 (x y : Int) (R : PV → Prop) : Prop :=

  if
      (decide (x ≥ (4352 : Int)) && decide (x ≤ (4370 : Int)) && decide (y ≥ (4449 : Int)) &&
          decide (y ≤ (4469 : Int))) =
        true then
    R
      (PV.tup
        [PV.int IntKind.i32
            (IntKind.i32.wrap
              (IntKind.i64.wrap
                (IntKind.i64.wrap
                    ((44032 : Int) +
                      IntKind.i64.wrap (IntKind.i64.wrap (IntKind.i64.wrap x - (4352 : Int)) * (588 : Int))) +
                  IntKind.i64.wrap (IntKind.i64.wrap (IntKind.i64.wrap y - (4449 : Int)) * (28 : Int))))),
          PV.bool true])
  else
    PCall Try.prog ((9 : Nat)) [PV.int IntKind.i32 x] fun (v : PV) ↦
      ∃ (n : Bool),
        ∃ (f : Bool),
          ∃ (es : List (List PV)),
            v = PV.sl n f es ∧
              if ((↑es.length : Int) == (2 : Int) && decide (y ≥ (4520 : Int)) && decide (y ≤ (4546 : Int))) = true then
                R
                  (PV.tup
                    [PV.int IntKind.i32 (IntKind.i32.wrap (x + IntKind.i32.wrap (y - (4519 : Int)))), PV.bool true])
              else R (PV.tup [PV.int IntKind.i32 (0 : Int), PV.bool false])
theorem e_a14 (x y : Int) (R : PV → Prop) : aFn Try.prog Try.f14 [0, 1, 4, 5, 6, 20, 44] (fun _ => none) (Try.f14.body.getD .skip) [.int .i32 x, .int .i32 y] R = r_a14 x y R := by kernel_rfl
theorem a14 (x y : Int) {R : PV → Prop} (h : r_a14 x y R) : PCall Try.prog 14 [.int .i32 x, .int .i32 y] R :=
  PCall.of Try.func14 (by kernel_rfl) (by kernel_rfl) (Nat.le_of_ble_eq_true (by kernel_rfl)) (Eq.mpr (e_a14 x y R) h)

def r_a15 (r : Int) (R : PV → Prop) : Prop :=

  R
    (PV.bool
      (decide (r ≥ (4449 : Int)) && decide (r < (4470 : Int)) ||
        decide (r > (4519 : Int)) && decide (r < (4547 : Int))))
theorem e_a15 (r : Int) (R : PV → Prop) : aFn Try.prog Try.f15 [0, 2] (fun _ => none) (Try.f15.body.getD .skip) [.int .i32 r] R = r_a15 r R := by kernel_rfl
theorem a15 (r : Int) {R : PV → Prop} (h : r_a15 r R) : PCall Try.prog 15 [.int .i32 r] R :=
  PCall.of Try.func15 (by kernel_rfl) (by kernel_rfl) (Nat.le_of_ble_eq_true (by kernel_rfl)) (Eq.mpr (e_a15 r R) h)

def r_a16 (r : Int) (R : PV → Prop) : Prop :=

  R
    (PV.bool
      (decide (r ≥ (4449 : Int)) && decide (r ≤ (4469 : Int)) ||
        decide (r ≥ (4520 : Int)) && decide (r ≤ (4546 : Int))))
theorem e_a16 (r : Int) (R : PV → Prop) : aFn Try.prog Try.f16 [0, 2] (fun _ => none) (Try.f16.body.getD .skip) [.int .i32 r] R = r_a16 r R := by kernel_rfl
theorem a16 (r : Int) {R : PV → Prop} (h : r_a16 r R) : PCall Try.prog 16 [.int .i32 r] R :=
  PCall.of Try.func16 (by kernel_rfl) (by kernel_rfl) (Nat.le_of_ble_eq_true (by kernel_rfl)) (Eq.mpr (e_a16 r R) h)

def r_a12  (R : PV → Prop) : Prop :=

  PCall Try.prog ((13 : Nat)) [PV.int IntKind.i32 (4352 : Int), PV.int IntKind.i32 (4449 : Int)] fun (v : PV) ↦
    ∃ (vs : List PV),
      v = PV.tup vs ∧
        vs.length = (2 : Nat) ∧
          ∃ (x : PV),
            vs.head? = some x ∧
              ∃ (n : Int),
                x = PV.int IntKind.i32 n ∧
                  ∃ (x : PV),
                    vs.tail.head? = some x ∧
                      ∃ (b : Bool),
                        x = PV.bool b ∧
                          PCall Try.prog ((13 : Nat)) [PV.int IntKind.i32 n, PV.int IntKind.i32 (4520 : Int)]
                            fun (v : PV) ↦
                            ∃ (vs : List PV),
                              v = PV.tup vs ∧
                                vs.length = (2 : Nat) ∧
                                  ∃ (x : PV),
                                    vs.head? = some x ∧
                                      ∃ (n_1 : Int),
                                        x = PV.int IntKind.i32 n_1 ∧
                                          ∃ (x : PV),
                                            vs.tail.head? = some x ∧
                                              ∃ (b_1 : Bool),
                                                x = PV.bool b_1 ∧
                                                  if
                                                      (n == (44032 : Int) && b && n_1 == (44033 : Int) && b_1) =
                                                        true then
                                                    PCall Try.prog ((8 : Nat)) [PV.int IntKind.i32 n_1] fun (v : PV) ↦
                                                      ∃ (n : Bool),
                                                        ∃ (f : Bool),
                                                          ∃ (es : List (List PV)),
                                                            v = PV.sl n f es ∧
                                                              PCall Try.prog ((7 : Nat))
                                                                [PV.sl n f es,
                                                                  PV.sl false true
                                                                    [[PV.int IntKind.i32 (4352 : Int)],
                                                                      [PV.int IntKind.i32 (4449 : Int)],
                                                                      [PV.int IntKind.i32 (4520 : Int)]]]
                                                                fun (v : PV) ↦
                                                                ∃ (b : Bool), v = PV.bool b ∧ R (PV.bool b)
                                                  else R (PV.bool false)
theorem e_a12  (R : PV → Prop) : aFn Try.prog Try.f12 [0, 1, 2, 3, 4] (fun _ => none) (Try.f12.body.getD .skip) [] R = r_a12  R := by kernel_rfl
theorem a12  {R : PV → Prop} (h : r_a12  R) : PCall Try.prog 12 [] R :=
  PCall.of Try.func12 (by kernel_rfl) (by kernel_rfl) (Nat.le_of_ble_eq_true (by kernel_rfl)) (Eq.mpr (e_a12  R) h)

def r_a3 (r : Int) (R : PV → Prop) : Prop :=

  PCall Try.prog ((8 : Nat)) [PV.int IntKind.i32 r] fun (v : PV) ↦
    ∃ (n : Bool),
      ∃ (f : Bool),
        ∃ (es : List (List PV)),
          v = PV.sl n f es ∧
            PCall Try.prog ((9 : Nat)) [PV.int IntKind.i32 r] fun (v : PV) ↦
              ∃ (n_1 : Bool),
                ∃ (f_1 : Bool),
                  ∃ (es_1 : List (List PV)),
                    v = PV.sl n_1 f_1 es_1 ∧
                      PCall Try.prog ((7 : Nat)) [PV.sl n f es, PV.sl n_1 f_1 es_1] fun (v : PV) ↦
                        ∃ (b : Bool),
                          v = PV.bool b ∧
                            if b = true then
                              PCall Try.prog ((10 : Nat)) [PV.int IntKind.i32 r] fun (v : PV) ↦
                                ∃ (b : Bool),
                                  v = PV.bool b ∧
                                    PCall Try.prog ((11 : Nat)) [PV.int IntKind.i32 r] fun (v : PV) ↦
                                      ∃ (b_1 : Bool),
                                        v = PV.bool b_1 ∧
                                          if (b == b_1) = true then
                                            PCall Try.prog ((12 : Nat)) [] fun (v : PV) ↦
                                              ∃ (b : Bool), v = PV.bool b ∧ R (PV.bool b)
                                          else R (PV.bool false)
                            else R (PV.bool false)
theorem e_a3 (r : Int) (R : PV → Prop) : aFn Try.prog Try.f3 [0, 2] (fun _ => none) (Try.f3.body.getD .skip) [.int .i32 r] R = r_a3 r R := by kernel_rfl
theorem a3 (r : Int) {R : PV → Prop} (h : r_a3 r R) : PCall Try.prog 3 [.int .i32 r] R :=
  PCall.of Try.func3 (by kernel_rfl) (by kernel_rfl) (Nat.le_of_ble_eq_true (by kernel_rfl)) (Eq.mpr (e_a3 r R) h)

def r_a4 (r : Int) (R : PV → Prop) : Prop :=

  PCall Try.prog ((8 : Nat))
    [PV.int IntKind.i32
        (IntKind.i32.wrap
          (IntKind.i64.wrap
            ((44032 : Int) + (IntKind.i64.wrap (r.tmod (11172 : Int) + (11172 : Int))).tmod (11172 : Int))))]
    fun (v : PV) ↦
    ∃ (n : Bool),
      ∃ (f : Bool),
        ∃ (es : List (List PV)),
          v = PV.sl n f es ∧
            if (decide ((↑es.length : Int) < (2 : Int)) || decide ((↑es.length : Int) > (3 : Int))) = true then
              R (PV.bool false)
            else
              idxOK es (0 : Int) ((1 : Nat)) ∧
                ∃ (n : Int),
                  (es.getD ((0 : Nat)) []).head? = some (PV.int IntKind.i32 n) ∧
                    idxOK es (1 : Int) ((1 : Nat)) ∧
                      ∃ (n_1 : Int),
                        (es.getD ((1 : Nat)) []).head? = some (PV.int IntKind.i32 n_1) ∧
                          PCall Try.prog ((13 : Nat)) [PV.int IntKind.i32 n, PV.int IntKind.i32 n_1] fun (v : PV) ↦
                            ∃ (vs : List PV),
                              v = PV.tup vs ∧
                                vs.length = (2 : Nat) ∧
                                  ∃ (x : PV),
                                    vs.head? = some x ∧
                                      ∃ (n : Int),
                                        x = PV.int IntKind.i32 n ∧
                                          ∃ (x : PV),
                                            vs.tail.head? = some x ∧
                                              ∃ (b : Bool),
                                                x = PV.bool b ∧
                                                  if ((↑es.length : Int) == (3 : Int)) = true then
                                                    idxOK es (2 : Int) ((1 : Nat)) ∧
                                                      ∃ (n_2 : Int),
                                                        (es.getD ((2 : Nat)) []).head? = some (PV.int IntKind.i32 n_2) ∧
                                                          PCall Try.prog ((13 : Nat))
                                                            [PV.int IntKind.i32 n, PV.int IntKind.i32 n_2]
                                                            fun (v : PV) ↦
                                                            ∃ (vs : List PV),
                                                              v = PV.tup vs ∧
                                                                vs.length = (2 : Nat) ∧
                                                                  ∃ (x : PV),
                                                                    vs.head? = some x ∧
                                                                      ∃ (n : Int),
                                                                        x = PV.int IntKind.i32 n ∧
                                                                          ∃ (x : PV),
                                                                            vs.tail.head? = some x ∧
                                                                              ∃ (b_1 : Bool),
                                                                                x = PV.bool b_1 ∧
                                                                                  if
                                                                                      (b && b_1 &&
                                                                                          n ==
                                                                                            IntKind.i32.wrap
                                                                                              (IntKind.i64.wrap
                                                                                                ((44032 : Int) +
                                                                                                  (IntKind.i64.wrap
                                                                                                        (r.tmod
                                                                                                            (11172 :
                                                                                                              Int) +
                                                                                                          (11172 :
                                                                                                            Int))).tmod
                                                                                                    (11172 : Int)))) =
                                                                                        true then
                                                                                    PCall Try.prog ((12 : Nat)) []
                                                                                      fun (v : PV) ↦
                                                                                      ∃ (b : Bool),
                                                                                        v = PV.bool b ∧ R (PV.bool b)
                                                                                  else R (PV.bool false)
                                                  else
                                                    if
                                                        (b &&
                                                            n ==
                                                              IntKind.i32.wrap
                                                                (IntKind.i64.wrap
                                                                  ((44032 : Int) +
                                                                    (IntKind.i64.wrap
                                                                          (r.tmod (11172 : Int) + (11172 : Int))).tmod
                                                                      (11172 : Int)))) =
                                                          true then
                                                      PCall Try.prog ((12 : Nat)) [] fun (v : PV) ↦
                                                        ∃ (b : Bool), v = PV.bool b ∧ R (PV.bool b)
                                                    else R (PV.bool false)
theorem e_a4 (r : Int) (R : PV → Prop) : aFn Try.prog Try.f4 [0, 2, 3, 4, 5, 6, 7, 8, 24, 37] (fun _ => none) (Try.f4.body.getD .skip) [.int .i64 r] R = r_a4 r R := by kernel_rfl
theorem a4 (r : Int) {R : PV → Prop} (h : r_a4 r R) : PCall Try.prog 4 [.int .i64 r] R :=
  PCall.of Try.func4 (by kernel_rfl) (by kernel_rfl) (Nat.le_of_ble_eq_true (by kernel_rfl)) (Eq.mpr (e_a4 r R) h)

def r_a5 (x y z : Int) (R : PV → Prop) : Prop :=

  PCall Try.prog ((13 : Nat))
    [PV.int IntKind.i32
        (IntKind.i32.wrap
          (IntKind.i64.wrap ((4352 : Int) + (IntKind.i64.wrap (x.tmod (19 : Int) + (19 : Int))).tmod (19 : Int)))),
      PV.int IntKind.i32
        (IntKind.i32.wrap
          (IntKind.i64.wrap ((4449 : Int) + (IntKind.i64.wrap (y.tmod (21 : Int) + (21 : Int))).tmod (21 : Int))))]
    fun (v : PV) ↦
    ∃ (vs : List PV),
      v = PV.tup vs ∧
        vs.length = (2 : Nat) ∧
          ∃ (x_1 : PV),
            vs.head? = some x_1 ∧
              ∃ (n : Int),
                x_1 = PV.int IntKind.i32 n ∧
                  ∃ (x_2 : PV),
                    vs.tail.head? = some x_2 ∧
                      ∃ (b : Bool),
                        x_2 = PV.bool b ∧
                          if
                              decide ((IntKind.i64.wrap (z.tmod (28 : Int) + (28 : Int))).tmod (28 : Int) > (0 : Int)) =
                                true then
                            PCall Try.prog ((13 : Nat))
                              [PV.int IntKind.i32 n,
                                PV.int IntKind.i32
                                  (IntKind.i32.wrap
                                    (IntKind.i64.wrap
                                      ((4519 : Int) +
                                        (IntKind.i64.wrap (z.tmod (28 : Int) + (28 : Int))).tmod (28 : Int))))]
                              fun (v : PV) ↦
                              ∃ (vs : List PV),
                                v = PV.tup vs ∧
                                  vs.length = (2 : Nat) ∧
                                    ∃ (x_3 : PV),
                                      vs.head? = some x_3 ∧
                                        ∃ (n : Int),
                                          x_3 = PV.int IntKind.i32 n ∧
                                            ∃ (x_4 : PV),
                                              vs.tail.head? = some x_4 ∧
                                                ∃ (b_1 : Bool),
                                                  x_4 = PV.bool b_1 ∧
                                                    if (!b_1) = true then R (PV.bool false)
                                                    else
                                                      ApOK true
                                                          [[PV.int IntKind.i32
                                                                (IntKind.i32.wrap
                                                                  (IntKind.i64.wrap
                                                                    ((4352 : Int) +
                                                                      (IntKind.i64.wrap
                                                                            (x.tmod (19 : Int) + (19 : Int))).tmod
                                                                        (19 : Int))))],
                                                            [PV.int IntKind.i32
                                                                (IntKind.i32.wrap
                                                                  (IntKind.i64.wrap
                                                                    ((4449 : Int) +
                                                                      (IntKind.i64.wrap
                                                                            (y.tmod (21 : Int) + (21 : Int))).tmod
                                                                        (21 : Int))))]]
                                                          [[PV.int IntKind.i32
                                                                (IntKind.i32.wrap
                                                                  (IntKind.i64.wrap
                                                                    ((4519 : Int) +
                                                                      (IntKind.i64.wrap
                                                                            (z.tmod (28 : Int) + (28 : Int))).tmod
                                                                        (28 : Int))))]]
                                                          ((1 : Nat)) ((4 : Nat)) ∧
                                                        if
                                                            (b &&
                                                                IntKind.i64.wrap n ==
                                                                  IntKind.i64.wrap
                                                                    (IntKind.i64.wrap
                                                                        ((44032 : Int) +
                                                                          IntKind.i64.wrap
                                                                            (IntKind.i64.wrap
                                                                                (IntKind.i64.wrap
                                                                                    ((IntKind.i64.wrap
                                                                                            (x.tmod (19 : Int) +
                                                                                              (19 : Int))).tmod
                                                                                        (19 : Int) *
                                                                                      (21 : Int)) +
                                                                                  (IntKind.i64.wrap
                                                                                        (y.tmod (21 : Int) +
                                                                                          (21 : Int))).tmod
                                                                                    (21 : Int)) *
                                                                              (28 : Int))) +
                                                                      (IntKind.i64.wrap
                                                                            (z.tmod (28 : Int) + (28 : Int))).tmod
                                                                        (28 : Int))) =
                                                              true then
                                                          PCall Try.prog ((8 : Nat)) [PV.int IntKind.i32 n]
                                                            fun (v : PV) ↦
                                                            ∃ (n : Bool),
                                                              ∃ (f : Bool),
                                                                ∃ (es : List (List PV)),
                                                                  v = PV.sl n f es ∧
                                                                    PCall Try.prog ((7 : Nat))
                                                                      [PV.sl n f es,
                                                                        PV.sl false false
                                                                          [[PV.int IntKind.i32
                                                                                (IntKind.i32.wrap
                                                                                  (IntKind.i64.wrap
                                                                                    ((4352 : Int) +
                                                                                      (IntKind.i64.wrap
                                                                                            (x.tmod (19 : Int) +
                                                                                              (19 : Int))).tmod
                                                                                        (19 : Int))))],
                                                                            [PV.int IntKind.i32
                                                                                (IntKind.i32.wrap
                                                                                  (IntKind.i64.wrap
                                                                                    ((4449 : Int) +
                                                                                      (IntKind.i64.wrap
                                                                                            (y.tmod (21 : Int) +
                                                                                              (21 : Int))).tmod
                                                                                        (21 : Int))))],
                                                                            [PV.int IntKind.i32
                                                                                (IntKind.i32.wrap
                                                                                  (IntKind.i64.wrap
                                                                                    ((4519 : Int) +
                                                                                      (IntKind.i64.wrap
                                                                                            (z.tmod (28 : Int) +
                                                                                              (28 : Int))).tmod
                                                                                        (28 : Int))))]]]
                                                                      fun (v : PV) ↦
                                                                      ∃ (b : Bool),
                                                                        v = PV.bool b ∧
                                                                          true = true ∧
                                                                            if b = true then
                                                                              PCall Try.prog ((12 : Nat)) []
                                                                                fun (v : PV) ↦
                                                                                ∃ (b : Bool),
                                                                                  v = PV.bool b ∧ R (PV.bool b)
                                                                            else R (PV.bool false)
                                                        else R (PV.bool false)
                          else
                            if
                                (b &&
                                    IntKind.i64.wrap n ==
                                      IntKind.i64.wrap
                                        (IntKind.i64.wrap
                                            ((44032 : Int) +
                                              IntKind.i64.wrap
                                                (IntKind.i64.wrap
                                                    (IntKind.i64.wrap
                                                        ((IntKind.i64.wrap (x.tmod (19 : Int) + (19 : Int))).tmod
                                                            (19 : Int) *
                                                          (21 : Int)) +
                                                      (IntKind.i64.wrap (y.tmod (21 : Int) + (21 : Int))).tmod
                                                        (21 : Int)) *
                                                  (28 : Int))) +
                                          (IntKind.i64.wrap (z.tmod (28 : Int) + (28 : Int))).tmod (28 : Int))) =
                                  true then
                              PCall Try.prog ((8 : Nat)) [PV.int IntKind.i32 n] fun (v : PV) ↦
                                ∃ (n : Bool),
                                  ∃ (f : Bool),
                                    ∃ (es : List (List PV)),
                                      v = PV.sl n f es ∧
                                        PCall Try.prog ((7 : Nat))
                                          [PV.sl n f es,
                                            PV.sl false true
                                              [[PV.int IntKind.i32
                                                    (IntKind.i32.wrap
                                                      (IntKind.i64.wrap
                                                        ((4352 : Int) +
                                                          (IntKind.i64.wrap (x.tmod (19 : Int) + (19 : Int))).tmod
                                                            (19 : Int))))],
                                                [PV.int IntKind.i32
                                                    (IntKind.i32.wrap
                                                      (IntKind.i64.wrap
                                                        ((4449 : Int) +
                                                          (IntKind.i64.wrap (y.tmod (21 : Int) + (21 : Int))).tmod
                                                            (21 : Int))))]]]
                                          fun (v : PV) ↦
                                          ∃ (b : Bool),
                                            v = PV.bool b ∧
                                              if b = true then
                                                PCall Try.prog ((12 : Nat)) [] fun (v : PV) ↦
                                                  ∃ (b : Bool), v = PV.bool b ∧ R (PV.bool b)
                                              else R (PV.bool false)
                            else R (PV.bool false)
theorem e_a5 (x y z : Int) (R : PV → Prop) : aFn Try.prog Try.f5 [0, 1, 2, 6, 7, 8, 9, 10, 11, 12, 13, 14, 45, 55] (fun _ => none) (Try.f5.body.getD .skip) [.int .i64 x, .int .i64 y, .int .i64 z] R = r_a5 x y z R := by kernel_rfl
theorem a5 (x y z : Int) {R : PV → Prop} (h : r_a5 x y z R) : PCall Try.prog 5 [.int .i64 x, .int .i64 y, .int .i64 z] R :=
  PCall.of Try.func5 (by kernel_rfl) (by kernel_rfl) (Nat.le_of_ble_eq_true (by kernel_rfl)) (Eq.mpr (e_a5 x y z R) h)

def r_a6 (x y : Int) (R : PV → Prop) : Prop :=

  PCall Try.prog ((13 : Nat)) [PV.int IntKind.i32 x, PV.int IntKind.i32 y] fun (v : PV) ↦
    ∃ (vs : List PV),
      v = PV.tup vs ∧
        vs.length = (2 : Nat) ∧
          ∃ (x_1 : PV),
            vs.head? = some x_1 ∧
              ∃ (n : Int),
                x_1 = PV.int IntKind.i32 n ∧
                  ∃ (x_2 : PV),
                    vs.tail.head? = some x_2 ∧
                      ∃ (b : Bool),
                        x_2 = PV.bool b ∧
                          PCall Try.prog ((14 : Nat)) [PV.int IntKind.i32 x, PV.int IntKind.i32 y] fun (v : PV) ↦
                            ∃ (vs : List PV),
                              v = PV.tup vs ∧
                                vs.length = (2 : Nat) ∧
                                  ∃ (x : PV),
                                    vs.head? = some x ∧
                                      ∃ (n_1 : Int),
                                        x = PV.int IntKind.i32 n_1 ∧
                                          ∃ (x : PV),
                                            vs.tail.head? = some x ∧
                                              ∃ (b_1 : Bool),
                                                x = PV.bool b_1 ∧
                                                  if (n == n_1 && b == b_1) = true then
                                                    PCall Try.prog ((15 : Nat)) [PV.int IntKind.i32 y] fun (v : PV) ↦
                                                      ∃ (b_2 : Bool),
                                                        v = PV.bool b_2 ∧
                                                          PCall Try.prog ((16 : Nat)) [PV.int IntKind.i32 y]
                                                            fun (v : PV) ↦
                                                            ∃ (b_3 : Bool),
                                                              v = PV.bool b_3 ∧
                                                                if (b_2 == b_3) = true then
                                                                  if (!b) = true then
                                                                    PCall Try.prog ((12 : Nat)) [] fun (v : PV) ↦
                                                                      ∃ (b : Bool), v = PV.bool b ∧ R (PV.bool b)
                                                                  else
                                                                    PCall Try.prog ((15 : Nat)) [PV.int IntKind.i32 y]
                                                                      fun (v : PV) ↦
                                                                      ∃ (b : Bool),
                                                                        v = PV.bool b ∧
                                                                          if b = true then
                                                                            PCall Try.prog ((12 : Nat)) []
                                                                              fun (v : PV) ↦
                                                                              ∃ (b : Bool),
                                                                                v = PV.bool b ∧ R (PV.bool b)
                                                                          else R (PV.bool false)
                                                                else R (PV.bool false)
                                                  else R (PV.bool false)
theorem e_a6 (x y : Int) (R : PV → Prop) : aFn Try.prog Try.f6 [0, 1, 4, 5, 6, 7, 8] (fun _ => none) (Try.f6.body.getD .skip) [.int .i32 x, .int .i32 y] R = r_a6 x y R := by kernel_rfl
theorem a6 (x y : Int) {R : PV → Prop} (h : r_a6 x y R) : PCall Try.prog 6 [.int .i32 x, .int .i32 y] R :=
  PCall.of Try.func6 (by kernel_rfl) (by kernel_rfl) (Nat.le_of_ble_eq_true (by kernel_rfl)) (Eq.mpr (e_a6 x y R) h)

end Go.Eng
