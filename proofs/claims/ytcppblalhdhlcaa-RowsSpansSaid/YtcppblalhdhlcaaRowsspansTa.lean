/- Abstract states run over the code; what each function gives, printed by program and checked by the kernel; and what follows of it. -/
import Derived.Test.YtcppblalhdhlcaaEngb
import Derived.Shelf.SlSortCmp.NoneTotal
import Derived.Shelf.SlSortCmp.WholeK
set_option linter.unusedVariables false
set_option maxRecDepth 100000
set_option linter.constructorNameAsVariable false
namespace Go.Eng
open Go Go.Proofs
def r_rows_rest (a b c d : Int) (n1 : Bool) (es : List (List PV)) (J : (Int) → (Int) → (Int) → (Int) → (Int) → (Bool) → (List (List PV)) → Prop) (μ : (Int) → (Int) → (Int) → (Int) → (Int) → (Bool) → (List (List PV)) → Nat) (R : LV → Hp → Prop) : Prop :=

  (SameSt
        ([(2, LV.box 1 0), (5, LV.own 2), (8, LV.own 0),
            (9, LV.pv (PV.int IntKind.i64 (↑es.length : Int))),
            (10, LV.pv (PV.int IntKind.i64 (0 : Int)))],
          [Ob.sl (62, 4) false n1 es,
            Ob.box
              [LV.pv (PV.int IntKind.i64 a), LV.pv (PV.int IntKind.i64 b), LV.pv (PV.int IntKind.i64 c),
                LV.pv (PV.int IntKind.i64 d)],
            Ob.sl (62, 4) true true []])
        ([(2, LV.box 1 0), (5, LV.own 2), (8, LV.own 0),
            (9, LV.pv (PV.int IntKind.i64 (↑es.length : Int))),
            (10, LV.pv (PV.int IntKind.i64 (0 : Int)))],
          [Ob.sl (62, 4) false n1 es,
            Ob.box
              [LV.pv (PV.int IntKind.i64 a), LV.pv (PV.int IntKind.i64 b), LV.pv (PV.int IntKind.i64 c),
                LV.pv (PV.int IntKind.i64 d)],
            Ob.sl (62, 4) true true []]) ∧
      J (0 : Int) a b c d true []) ∧
    ∀ (x10 h1_0 h1_1 h1_2 h1_3 : Int) (n_2 : Bool) (s_2 : List (List PV)),
      J x10 h1_0 h1_1 h1_2 h1_3 n_2 s_2 →
        if decide (x10 < (↑es.length : Int)) = true then
          idxOK es x10 4 ∧
            ∃ (n : Int),
              (List.drop 0 (es.getD x10.toNat [])).head? = some (PV.int IntKind.i64 n) ∧
                ∃ (n2 : Int),
                  (List.drop 0 (es.getD x10.toNat [])).tail.head? = some (PV.int IntKind.i64 n2) ∧
                    ∃ (n3 : Int),
                      (List.drop 0 (es.getD x10.toNat [])).tail.tail.head? = some (PV.int IntKind.i64 n3) ∧
                        ∃ (n4 : Int),
                          (List.drop 0 (es.getD x10.toNat [])).tail.tail.tail.head? =
                              some (PV.int IntKind.i64 n4) ∧
                            if decide (n2 < h1_0) = true then
                              SameSt
                                  ([(2, LV.box 1 0), (5, LV.own 2),
                                      (8, LV.own 0),
                                      (9, LV.pv (PV.int IntKind.i64 (↑es.length : Int))),
                                      (10, LV.pv (PV.int IntKind.i64 (IntKind.i64.wrap (x10 + (1 : Int)))))],
                                    [Ob.sl (62, 4) false n1 es,
                                      Ob.box
                                        [LV.pv (PV.int IntKind.i64 h1_0), LV.pv (PV.int IntKind.i64 h1_1),
                                          LV.pv (PV.int IntKind.i64 h1_2), LV.pv (PV.int IntKind.i64 h1_3)],
                                      Ob.sl (62, 4) true n_2 s_2])
                                  ([(2, LV.box 1 0), (5, LV.own 2),
                                      (8, LV.own 0),
                                      (9, LV.pv (PV.int IntKind.i64 (↑es.length : Int))),
                                      (10, LV.pv (PV.int IntKind.i64 (IntKind.i64.wrap (x10 + (1 : Int)))))],
                                    [Ob.sl (62, 4) false n1 es,
                                      Ob.box
                                        [LV.pv (PV.int IntKind.i64 h1_0), LV.pv (PV.int IntKind.i64 h1_1),
                                          LV.pv (PV.int IntKind.i64 h1_2), LV.pv (PV.int IntKind.i64 h1_3)],
                                      Ob.sl (62, 4) true n_2 s_2]) ∧
                                J (IntKind.i64.wrap (x10 + (1 : Int))) h1_0 h1_1 h1_2 h1_3 n_2 s_2 ∧
                                  μ (IntKind.i64.wrap (x10 + (1 : Int))) h1_0 h1_1 h1_2 h1_3 n_2 s_2 <
                                    μ x10 h1_0 h1_1 h1_2 h1_3 n_2 s_2
                            else
                              if decide (n > h1_1) = true then
                                SameSt
                                    ([(2, LV.box 1 0), (5, LV.own 2),
                                        (8, LV.own 0),
                                        (9, LV.pv (PV.int IntKind.i64 (↑es.length : Int))),
                                        (10, LV.pv (PV.int IntKind.i64 (IntKind.i64.wrap (x10 + (1 : Int)))))],
                                      [Ob.sl (62, 4) false n1 es,
                                        Ob.box
                                          [LV.pv (PV.int IntKind.i64 h1_0), LV.pv (PV.int IntKind.i64 h1_1),
                                            LV.pv (PV.int IntKind.i64 h1_2), LV.pv (PV.int IntKind.i64 h1_3)],
                                        Ob.sl (62, 4) true n_2 s_2])
                                    ([(2, LV.box 1 0), (5, LV.own 2),
                                        (8, LV.own 0),
                                        (9, LV.pv (PV.int IntKind.i64 (↑es.length : Int))),
                                        (10, LV.pv (PV.int IntKind.i64 (IntKind.i64.wrap (x10 + (1 : Int)))))],
                                      [Ob.sl (62, 4) false n1 es,
                                        Ob.box
                                          [LV.pv (PV.int IntKind.i64 h1_0), LV.pv (PV.int IntKind.i64 h1_1),
                                            LV.pv (PV.int IntKind.i64 h1_2), LV.pv (PV.int IntKind.i64 h1_3)],
                                        Ob.sl (62, 4) true n_2 s_2]) ∧
                                  J (IntKind.i64.wrap (x10 + (1 : Int))) h1_0 h1_1 h1_2 h1_3 n_2 s_2 ∧
                                    μ (IntKind.i64.wrap (x10 + (1 : Int))) h1_0 h1_1 h1_2 h1_3 n_2 s_2 <
                                      μ x10 h1_0 h1_1 h1_2 h1_3 n_2 s_2
                              else
                                if decide (n > h1_0) = true then
                                  (szOK
                                        [[PV.int IntKind.i64 h1_0,
                                            PV.int IntKind.i64 (IntKind.i64.wrap (n - (1 : Int))),
                                            PV.int IntKind.i64 h1_2, PV.int IntKind.i64 h1_3]]
                                        4 ∧
                                      (s_2.length + 1) * 32 ≤ 140737488355328) ∧
                                    SameSt
                                        ([(2, LV.box 1 0), (5, LV.own 2),
                                            (8, LV.own 0),
                                            (9, LV.pv (PV.int IntKind.i64 (↑es.length : Int))),
                                            (10,
                                              LV.pv (PV.int IntKind.i64 (IntKind.i64.wrap (x10 + (1 : Int)))))],
                                          [Ob.sl (62, 4) false n1 es,
                                            Ob.box
                                              [LV.pv (PV.int IntKind.i64 (IntKind.i64.wrap (n2 + (1 : Int)))),
                                                LV.pv (PV.int IntKind.i64 h1_1), LV.pv (PV.int IntKind.i64 h1_2),
                                                LV.pv (PV.int IntKind.i64 h1_3)],
                                            Ob.sl (62, 4) true (n_2 && false)
                                              (s_2 ++
                                                [[PV.int IntKind.i64 h1_0,
                                                    PV.int IntKind.i64 (IntKind.i64.wrap (n - (1 : Int))),
                                                    PV.int IntKind.i64 h1_2, PV.int IntKind.i64 h1_3]])])
                                        ([(2, LV.box 1 0), (5, LV.own 2),
                                            (8, LV.own 0),
                                            (9, LV.pv (PV.int IntKind.i64 (↑es.length : Int))),
                                            (10,
                                              LV.pv (PV.int IntKind.i64 (IntKind.i64.wrap (x10 + (1 : Int)))))],
                                          [Ob.sl (62, 4) false n1 es,
                                            Ob.box
                                              [LV.pv (PV.int IntKind.i64 (IntKind.i64.wrap (n2 + (1 : Int)))),
                                                LV.pv (PV.int IntKind.i64 h1_1), LV.pv (PV.int IntKind.i64 h1_2),
                                                LV.pv (PV.int IntKind.i64 h1_3)],
                                            Ob.sl (62, 4) true (n_2 && false)
                                              (s_2 ++
                                                [[PV.int IntKind.i64 h1_0,
                                                    PV.int IntKind.i64 (IntKind.i64.wrap (n - (1 : Int))),
                                                    PV.int IntKind.i64 h1_2, PV.int IntKind.i64 h1_3]])]) ∧
                                      J (IntKind.i64.wrap (x10 + (1 : Int))) (IntKind.i64.wrap (n2 + (1 : Int))) h1_1
                                          h1_2 h1_3 (n_2 && false)
                                          (s_2 ++
                                            [[PV.int IntKind.i64 h1_0,
                                                PV.int IntKind.i64 (IntKind.i64.wrap (n - (1 : Int))),
                                                PV.int IntKind.i64 h1_2, PV.int IntKind.i64 h1_3]]) ∧
                                        μ (IntKind.i64.wrap (x10 + (1 : Int))) (IntKind.i64.wrap (n2 + (1 : Int))) h1_1
                                            h1_2 h1_3 (n_2 && false)
                                            (s_2 ++
                                              [[PV.int IntKind.i64 h1_0,
                                                  PV.int IntKind.i64 (IntKind.i64.wrap (n - (1 : Int))),
                                                  PV.int IntKind.i64 h1_2, PV.int IntKind.i64 h1_3]]) <
                                          μ x10 h1_0 h1_1 h1_2 h1_3 n_2 s_2
                                else
                                  SameSt
                                      ([(2, LV.box 1 0), (5, LV.own 2),
                                          (8, LV.own 0),
                                          (9, LV.pv (PV.int IntKind.i64 (↑es.length : Int))),
                                          (10,
                                            LV.pv (PV.int IntKind.i64 (IntKind.i64.wrap (x10 + (1 : Int)))))],
                                        [Ob.sl (62, 4) false n1 es,
                                          Ob.box
                                            [LV.pv (PV.int IntKind.i64 (IntKind.i64.wrap (n2 + (1 : Int)))),
                                              LV.pv (PV.int IntKind.i64 h1_1), LV.pv (PV.int IntKind.i64 h1_2),
                                              LV.pv (PV.int IntKind.i64 h1_3)],
                                          Ob.sl (62, 4) true n_2 s_2])
                                      ([(2, LV.box 1 0), (5, LV.own 2),
                                          (8, LV.own 0),
                                          (9, LV.pv (PV.int IntKind.i64 (↑es.length : Int))),
                                          (10,
                                            LV.pv (PV.int IntKind.i64 (IntKind.i64.wrap (x10 + (1 : Int)))))],
                                        [Ob.sl (62, 4) false n1 es,
                                          Ob.box
                                            [LV.pv (PV.int IntKind.i64 (IntKind.i64.wrap (n2 + (1 : Int)))),
                                              LV.pv (PV.int IntKind.i64 h1_1), LV.pv (PV.int IntKind.i64 h1_2),
                                              LV.pv (PV.int IntKind.i64 h1_3)],
                                          Ob.sl (62, 4) true n_2 s_2]) ∧
                                    J (IntKind.i64.wrap (x10 + (1 : Int))) (IntKind.i64.wrap (n2 + (1 : Int))) h1_1 h1_2
                                        h1_3 n_2 s_2 ∧
                                      μ (IntKind.i64.wrap (x10 + (1 : Int))) (IntKind.i64.wrap (n2 + (1 : Int))) h1_1
                                          h1_2 h1_3 n_2 s_2 <
                                        μ x10 h1_0 h1_1 h1_2 h1_3 n_2 s_2
        else
          if decide (h1_0 ≤ h1_1) = true then
            (szOK [[PV.int IntKind.i64 h1_0, PV.int IntKind.i64 h1_1, PV.int IntKind.i64 h1_2, PV.int IntKind.i64 h1_3]]
                  4 ∧
                (s_2.length + 1) * 32 ≤ 140737488355328) ∧
              R (LV.own 1)
                [Ob.sl (62, 4) false n1 es,
                  Ob.sl (62, 4) true (n_2 && false)
                    (s_2 ++
                      [[PV.int IntKind.i64 h1_0, PV.int IntKind.i64 h1_1, PV.int IntKind.i64 h1_2,
                          PV.int IntKind.i64 h1_3]])]
          else
            R (LV.own 1)
              [Ob.sl (62, 4) false n1 es, Ob.sl (62, 4) true n_2 s_2]
theorem e_rows_rest (a b c d : Int) (n1 : Bool) (es : List (List PV)) (J : (Int) → (Int) → (Int) → (Int) → (Int) → (Bool) → (List (List PV)) → Prop) (μ : (Int) → (Int) → (Int) → (Int) → (Int) → (Bool) → (List (List PV)) → Nat) (R : LV → Hp → Prop) : aFnH Try.prog (fun _ => none) Try.f62 [0, 1, 2, 4, 5, 7, 8, 9, 10, 11, 25, 30, 53] (fun zz_ => match zz_ with | 3 => some ⟨Int × Int × Int × Int × Int × Bool × (List (List PV)), fun s => (fun (x10 : Int) (h1_0 : Int) (h1_1 : Int) (h1_2 : Int) (h1_3 : Int) (n_2 : Bool) (s_2 : List (List PV)) => ([(2, LV.box 1 0), (5, LV.own 2), (8, LV.own 0), (9, LV.pv (PV.int IntKind.i64 ↑es.length)), (10, .pv (.int IntKind.i64 x10))], [.sl (62, 4) false n1 es, .box [.pv (.int IntKind.i64 h1_0), .pv (.int IntKind.i64 h1_1), .pv (.int IntKind.i64 h1_2), .pv (.int IntKind.i64 h1_3)], .sl (62, 4) true n_2 s_2])) s.1 s.2.1 s.2.2.1 s.2.2.2.1 s.2.2.2.2.1 s.2.2.2.2.2.1 s.2.2.2.2.2.2, fun s => J s.1 s.2.1 s.2.2.1 s.2.2.2.1 s.2.2.2.2.1 s.2.2.2.2.2.1 s.2.2.2.2.2.2, fun s => μ s.1 s.2.1 s.2.2.1 s.2.2.2.1 s.2.2.2.2.1 s.2.2.2.2.2.1 s.2.2.2.2.2.2, fun e h => (gI e 10, hI h 1 0, hI h 1 1, hI h 1 2, hI h 1 3, oN h 2, oS h 2), [(5, 62, 4)], [2, 5, 8, 9, 10], [], fun p => ∀ (x10 : Int) (h1_0 : Int) (h1_1 : Int) (h1_2 : Int) (h1_3 : Int) (n_2 : Bool) (s_2 : List (List PV)), p (x10, h1_0, h1_1, h1_2, h1_3, n_2, s_2), fun p h s => h s.1 s.2.1 s.2.2.1 s.2.2.2.1 s.2.2.2.2.1 s.2.2.2.2.2.1 s.2.2.2.2.2.2⟩ | _ => none) [0, 2] (Try.f62.body.getD .skip) [.pv (.agg [.int .i64 a, .int .i64 b, .int .i64 c, .int .i64 d]), .own 0] [.sl (62, 4) false n1 es] R = r_rows_rest a b c d n1 es J μ R := by kernel_rfl
theorem a_rows_rest (a b c d : Int) (n1 : Bool) (es : List (List PV)) (J : (Int) → (Int) → (Int) → (Int) → (Int) → (Bool) → (List (List PV)) → Prop) (μ : (Int) → (Int) → (Int) → (Int) → (Int) → (Bool) → (List (List PV)) → Nat) {R : LV → Hp → Prop} (h : r_rows_rest a b c d n1 es J μ R) : ACall Try.prog 62 [.pv (.agg [.int .i64 a, .int .i64 b, .int .i64 c, .int .i64 d]), .own 0] [.sl (62, 4) false n1 es] R :=
  ACall.of Try.func62 (by kernel_rfl) (by kernel_rfl) (Nat.le_of_ble_eq_true (by kernel_rfl)) (Eq.mpr (e_rows_rest a b c d n1 es J μ R) h)

def r_rows_joined (n f : Bool) (es : List (List PV)) (J : (Int) → (Bool) → (List (List PV)) → Prop) (μ : (Int) → (Bool) → (List (List PV)) → Nat) (R : PV → Prop) : Prop :=

  (SameSt
        ([(3, LV.own 0), (7, LV.pv (PV.sl n f es)),
            (8, LV.pv (PV.int IntKind.i64 (↑es.length : Int))),
            (9, LV.pv (PV.int IntKind.i64 (0 : Int)))],
          [Ob.sl (62, 4) true true []])
        ([(3, LV.own 0), (7, LV.pv (PV.sl n f es)),
            (8, LV.pv (PV.int IntKind.i64 (↑es.length : Int))),
            (9, LV.pv (PV.int IntKind.i64 (0 : Int)))],
          [Ob.sl (62, 4) true true []]) ∧
      J (0 : Int) true []) ∧
    ∀ (x9 : Int) (n_0 : Bool) (s_0 : List (List PV)),
      J x9 n_0 s_0 →
        if decide (x9 < (↑es.length : Int)) = true then
          idxOK es x9 4 ∧
            ∃ (n1 : Int),
              (es.getD x9.toNat []).head? = some (PV.int IntKind.i64 n1) ∧
                ∃ (n2 : Int),
                  (es.getD x9.toNat []).tail.head? = some (PV.int IntKind.i64 n2) ∧
                    ∃ (n3 : Int),
                      (es.getD x9.toNat []).tail.tail.head? = some (PV.int IntKind.i64 n3) ∧
                        ∃ (n4 : Int),
                          (es.getD x9.toNat []).tail.tail.tail.head? = some (PV.int IntKind.i64 n4) ∧
                            if decide (IntKind.i64.wrap ((↑s_0.length : Int) - (1 : Int)) ≥ (0 : Int)) = true then
                              idxOK s_0 (IntKind.i64.wrap ((↑s_0.length : Int) - (1 : Int))) 4 ∧
                                ∃ (n5 : Int),
                                  (List.drop 1
                                          (s_0.getD (IntKind.i64.wrap ((↑s_0.length : Int) - (1 : Int))).toNat
                                            [])).head? =
                                      some (PV.int IntKind.i64 n5) ∧
                                    if (IntKind.i64.wrap (n5 + (1 : Int)) == n1) = true then
                                      idxOK s_0 (IntKind.i64.wrap ((↑s_0.length : Int) - (1 : Int))) 4 ∧
                                        ∃ (n6 : Int),
                                          (List.drop 2
                                                  (s_0.getD (IntKind.i64.wrap ((↑s_0.length : Int) - (1 : Int))).toNat
                                                    [])).head? =
                                              some (PV.int IntKind.i64 n6) ∧
                                            if (n6 == n3) = true then
                                              idxOK s_0 (IntKind.i64.wrap ((↑s_0.length : Int) - (1 : Int)))
                                                  4 ∧
                                                ∃ (n7 : Int),
                                                  (List.drop 3
                                                          (s_0.getD
                                                            (IntKind.i64.wrap ((↑s_0.length : Int) - (1 : Int))).toNat
                                                            [])).head? =
                                                      some (PV.int IntKind.i64 n7) ∧
                                                    if (n7 == n4) = true then
                                                      idxOK s_0 (IntKind.i64.wrap ((↑s_0.length : Int) - (1 : Int)))
                                                          4 ∧
                                                        (1 = 1 ∧
                                                            2 ≤
                                                              (s_0.getD
                                                                  (IntKind.i64.wrap
                                                                      ((↑s_0.length : Int) - (1 : Int))).toNat
                                                                  []).length) ∧
                                                          SameSt
                                                              ([(3, LV.own 0),
                                                                  (7, LV.pv (PV.sl n f es)),
                                                                  (8,
                                                                    LV.pv (PV.int IntKind.i64 (↑es.length : Int))),
                                                                  (9,
                                                                    LV.pv
                                                                      (PV.int IntKind.i64
                                                                        (IntKind.i64.wrap (x9 + (1 : Int)))))],
                                                                [Ob.sl (62, 4) true n_0
                                                                    (s_0.set
                                                                      (IntKind.i64.wrap
                                                                          ((↑s_0.length : Int) - (1 : Int))).toNat
                                                                      (spl
                                                                        (s_0.getD
                                                                          (IntKind.i64.wrap
                                                                              ((↑s_0.length : Int) - (1 : Int))).toNat
                                                                          [])
                                                                        1 [PV.int IntKind.i64 n2]))])
                                                              ([(3, LV.own 0),
                                                                  (7, LV.pv (PV.sl n f es)),
                                                                  (8,
                                                                    LV.pv (PV.int IntKind.i64 (↑es.length : Int))),
                                                                  (9,
                                                                    LV.pv
                                                                      (PV.int IntKind.i64
                                                                        (IntKind.i64.wrap (x9 + (1 : Int)))))],
                                                                [Ob.sl (62, 4) true n_0
                                                                    (s_0.set
                                                                      (IntKind.i64.wrap
                                                                          ((↑s_0.length : Int) - (1 : Int))).toNat
                                                                      (spl
                                                                        (s_0.getD
                                                                          (IntKind.i64.wrap
                                                                              ((↑s_0.length : Int) - (1 : Int))).toNat
                                                                          [])
                                                                        1 [PV.int IntKind.i64 n2]))]) ∧
                                                            J (IntKind.i64.wrap (x9 + (1 : Int))) n_0
                                                                (s_0.set
                                                                  (IntKind.i64.wrap
                                                                      ((↑s_0.length : Int) - (1 : Int))).toNat
                                                                  (spl
                                                                    (s_0.getD
                                                                      (IntKind.i64.wrap
                                                                          ((↑s_0.length : Int) - (1 : Int))).toNat
                                                                      [])
                                                                    1 [PV.int IntKind.i64 n2])) ∧
                                                              μ (IntKind.i64.wrap (x9 + (1 : Int))) n_0
                                                                  (s_0.set
                                                                    (IntKind.i64.wrap
                                                                        ((↑s_0.length : Int) - (1 : Int))).toNat
                                                                    (spl
                                                                      (s_0.getD
                                                                        (IntKind.i64.wrap
                                                                            ((↑s_0.length : Int) - (1 : Int))).toNat
                                                                        [])
                                                                      1 [PV.int IntKind.i64 n2])) <
                                                                μ x9 n_0 s_0
                                                    else
                                                      (szOK
                                                            [[PV.int IntKind.i64 n1, PV.int IntKind.i64 n2,
                                                                PV.int IntKind.i64 n3, PV.int IntKind.i64 n4]]
                                                            4 ∧
                                                          (s_0.length + 1) * 32 ≤
                                                            140737488355328) ∧
                                                        SameSt
                                                            ([(3, LV.own 0),
                                                                (7, LV.pv (PV.sl n f es)),
                                                                (8,
                                                                  LV.pv (PV.int IntKind.i64 (↑es.length : Int))),
                                                                (9,
                                                                  LV.pv
                                                                    (PV.int IntKind.i64
                                                                      (IntKind.i64.wrap (x9 + (1 : Int)))))],
                                                              [Ob.sl (62, 4) true (n_0 && false)
                                                                  (s_0 ++
                                                                    [[PV.int IntKind.i64 n1, PV.int IntKind.i64 n2,
                                                                        PV.int IntKind.i64 n3,
                                                                        PV.int IntKind.i64 n4]])])
                                                            ([(3, LV.own 0),
                                                                (7, LV.pv (PV.sl n f es)),
                                                                (8,
                                                                  LV.pv (PV.int IntKind.i64 (↑es.length : Int))),
                                                                (9,
                                                                  LV.pv
                                                                    (PV.int IntKind.i64
                                                                      (IntKind.i64.wrap (x9 + (1 : Int)))))],
                                                              [Ob.sl (62, 4) true (n_0 && false)
                                                                  (s_0 ++
                                                                    [[PV.int IntKind.i64 n1, PV.int IntKind.i64 n2,
                                                                        PV.int IntKind.i64 n3,
                                                                        PV.int IntKind.i64 n4]])]) ∧
                                                          J (IntKind.i64.wrap (x9 + (1 : Int))) (n_0 && false)
                                                              (s_0 ++
                                                                [[PV.int IntKind.i64 n1, PV.int IntKind.i64 n2,
                                                                    PV.int IntKind.i64 n3, PV.int IntKind.i64 n4]]) ∧
                                                            μ (IntKind.i64.wrap (x9 + (1 : Int))) (n_0 && false)
                                                                (s_0 ++
                                                                  [[PV.int IntKind.i64 n1, PV.int IntKind.i64 n2,
                                                                      PV.int IntKind.i64 n3, PV.int IntKind.i64 n4]]) <
                                                              μ x9 n_0 s_0
                                            else
                                              (szOK
                                                    [[PV.int IntKind.i64 n1, PV.int IntKind.i64 n2,
                                                        PV.int IntKind.i64 n3, PV.int IntKind.i64 n4]]
                                                    4 ∧
                                                  (s_0.length + 1) * 32 ≤ 140737488355328) ∧
                                                SameSt
                                                    ([(3, LV.own 0),
                                                        (7, LV.pv (PV.sl n f es)),
                                                        (8, LV.pv (PV.int IntKind.i64 (↑es.length : Int))),
                                                        (9,
                                                          LV.pv
                                                            (PV.int IntKind.i64 (IntKind.i64.wrap (x9 + (1 : Int)))))],
                                                      [Ob.sl (62, 4) true (n_0 && false)
                                                          (s_0 ++
                                                            [[PV.int IntKind.i64 n1, PV.int IntKind.i64 n2,
                                                                PV.int IntKind.i64 n3, PV.int IntKind.i64 n4]])])
                                                    ([(3, LV.own 0),
                                                        (7, LV.pv (PV.sl n f es)),
                                                        (8, LV.pv (PV.int IntKind.i64 (↑es.length : Int))),
                                                        (9,
                                                          LV.pv
                                                            (PV.int IntKind.i64 (IntKind.i64.wrap (x9 + (1 : Int)))))],
                                                      [Ob.sl (62, 4) true (n_0 && false)
                                                          (s_0 ++
                                                            [[PV.int IntKind.i64 n1, PV.int IntKind.i64 n2,
                                                                PV.int IntKind.i64 n3, PV.int IntKind.i64 n4]])]) ∧
                                                  J (IntKind.i64.wrap (x9 + (1 : Int))) (n_0 && false)
                                                      (s_0 ++
                                                        [[PV.int IntKind.i64 n1, PV.int IntKind.i64 n2,
                                                            PV.int IntKind.i64 n3, PV.int IntKind.i64 n4]]) ∧
                                                    μ (IntKind.i64.wrap (x9 + (1 : Int))) (n_0 && false)
                                                        (s_0 ++
                                                          [[PV.int IntKind.i64 n1, PV.int IntKind.i64 n2,
                                                              PV.int IntKind.i64 n3, PV.int IntKind.i64 n4]]) <
                                                      μ x9 n_0 s_0
                                    else
                                      (szOK
                                            [[PV.int IntKind.i64 n1, PV.int IntKind.i64 n2, PV.int IntKind.i64 n3,
                                                PV.int IntKind.i64 n4]]
                                            4 ∧
                                          (s_0.length + 1) * 32 ≤ 140737488355328) ∧
                                        SameSt
                                            ([(3, LV.own 0), (7, LV.pv (PV.sl n f es)),
                                                (8, LV.pv (PV.int IntKind.i64 (↑es.length : Int))),
                                                (9,
                                                  LV.pv (PV.int IntKind.i64 (IntKind.i64.wrap (x9 + (1 : Int)))))],
                                              [Ob.sl (62, 4) true (n_0 && false)
                                                  (s_0 ++
                                                    [[PV.int IntKind.i64 n1, PV.int IntKind.i64 n2,
                                                        PV.int IntKind.i64 n3, PV.int IntKind.i64 n4]])])
                                            ([(3, LV.own 0), (7, LV.pv (PV.sl n f es)),
                                                (8, LV.pv (PV.int IntKind.i64 (↑es.length : Int))),
                                                (9,
                                                  LV.pv (PV.int IntKind.i64 (IntKind.i64.wrap (x9 + (1 : Int)))))],
                                              [Ob.sl (62, 4) true (n_0 && false)
                                                  (s_0 ++
                                                    [[PV.int IntKind.i64 n1, PV.int IntKind.i64 n2,
                                                        PV.int IntKind.i64 n3, PV.int IntKind.i64 n4]])]) ∧
                                          J (IntKind.i64.wrap (x9 + (1 : Int))) (n_0 && false)
                                              (s_0 ++
                                                [[PV.int IntKind.i64 n1, PV.int IntKind.i64 n2, PV.int IntKind.i64 n3,
                                                    PV.int IntKind.i64 n4]]) ∧
                                            μ (IntKind.i64.wrap (x9 + (1 : Int))) (n_0 && false)
                                                (s_0 ++
                                                  [[PV.int IntKind.i64 n1, PV.int IntKind.i64 n2, PV.int IntKind.i64 n3,
                                                      PV.int IntKind.i64 n4]]) <
                                              μ x9 n_0 s_0
                            else
                              (szOK
                                    [[PV.int IntKind.i64 n1, PV.int IntKind.i64 n2, PV.int IntKind.i64 n3,
                                        PV.int IntKind.i64 n4]]
                                    4 ∧
                                  (s_0.length + 1) * 32 ≤ 140737488355328) ∧
                                SameSt
                                    ([(3, LV.own 0), (7, LV.pv (PV.sl n f es)),
                                        (8, LV.pv (PV.int IntKind.i64 (↑es.length : Int))),
                                        (9, LV.pv (PV.int IntKind.i64 (IntKind.i64.wrap (x9 + (1 : Int)))))],
                                      [Ob.sl (62, 4) true (n_0 && false)
                                          (s_0 ++
                                            [[PV.int IntKind.i64 n1, PV.int IntKind.i64 n2, PV.int IntKind.i64 n3,
                                                PV.int IntKind.i64 n4]])])
                                    ([(3, LV.own 0), (7, LV.pv (PV.sl n f es)),
                                        (8, LV.pv (PV.int IntKind.i64 (↑es.length : Int))),
                                        (9, LV.pv (PV.int IntKind.i64 (IntKind.i64.wrap (x9 + (1 : Int)))))],
                                      [Ob.sl (62, 4) true (n_0 && false)
                                          (s_0 ++
                                            [[PV.int IntKind.i64 n1, PV.int IntKind.i64 n2, PV.int IntKind.i64 n3,
                                                PV.int IntKind.i64 n4]])]) ∧
                                  J (IntKind.i64.wrap (x9 + (1 : Int))) (n_0 && false)
                                      (s_0 ++
                                        [[PV.int IntKind.i64 n1, PV.int IntKind.i64 n2, PV.int IntKind.i64 n3,
                                            PV.int IntKind.i64 n4]]) ∧
                                    μ (IntKind.i64.wrap (x9 + (1 : Int))) (n_0 && false)
                                        (s_0 ++
                                          [[PV.int IntKind.i64 n1, PV.int IntKind.i64 n2, PV.int IntKind.i64 n3,
                                              PV.int IntKind.i64 n4]]) <
                                      μ x9 n_0 s_0
        else R (PV.sl n_0 false s_0)
theorem e_rows_joined (n f : Bool) (es : List (List PV)) (J : (Int) → (Bool) → (List (List PV)) → Prop) (μ : (Int) → (Bool) → (List (List PV)) → Nat) (R : PV → Prop) : aFn Try.prog (fun _ => none) Try.f64 [0, 2, 3, 5, 6, 7, 8, 9, 10, 48] (fun zz_ => match zz_ with | 3 => some ⟨Int × Bool × (List (List PV)), fun s => (fun (x9 : Int) (n_0 : Bool) (s_0 : List (List PV)) => ([(3, LV.own 0), (7, LV.pv (PV.sl n f es)), (8, LV.pv (PV.int IntKind.i64 ↑es.length)), (9, .pv (.int IntKind.i64 x9))], [.sl (62, 4) true n_0 s_0])) s.1 s.2.1 s.2.2, fun s => J s.1 s.2.1 s.2.2, fun s => μ s.1 s.2.1 s.2.2, fun e h => (gI e 9, oN h 0, oS h 0), [(3, 62, 4)], [3, 7, 8, 9], [], fun p => ∀ (x9 : Int) (n_0 : Bool) (s_0 : List (List PV)), p (x9, n_0, s_0), fun p h s => h s.1 s.2.1 s.2.2⟩ | _ => none) (Try.f64.body.getD .skip) [.sl n f es] R = r_rows_joined n f es J μ R := by kernel_rfl
theorem a_rows_joined (n f : Bool) (es : List (List PV)) (J : (Int) → (Bool) → (List (List PV)) → Prop) (μ : (Int) → (Bool) → (List (List PV)) → Nat) {R : PV → Prop} (h : r_rows_joined n f es J μ R) : PCall Try.prog 64 [.sl n f es] R :=
  PCall.of Try.func64 (by kernel_rfl) (by kernel_rfl) (Nat.le_of_ble_eq_true (by kernel_rfl)) (Eq.mpr (e_rows_joined n f es J μ R) h)

def r_rows_Size (n f : Bool) (es : List (List PV)) (J : (Int) → (Int) → Prop) (μ : (Int) → (Int) → Nat) (R : PV → Prop) : Prop :=

  (SameSt
        ([(3, LV.pv (PV.int IntKind.i64 (0 : Int))), (6, LV.pv (PV.sl n f es)),
            (7, LV.pv (PV.int IntKind.i64 (↑es.length : Int))),
            (8, LV.pv (PV.int IntKind.i64 (0 : Int)))],
          [])
        ([(3, LV.pv (PV.int IntKind.i64 (0 : Int))), (6, LV.pv (PV.sl n f es)),
            (7, LV.pv (PV.int IntKind.i64 (↑es.length : Int))),
            (8, LV.pv (PV.int IntKind.i64 (0 : Int)))],
          []) ∧
      J (0 : Int) (0 : Int)) ∧
    ∀ (x3 x8 : Int),
      J x3 x8 →
        if decide (x8 < (↑es.length : Int)) = true then
          idxOK es x8 4 ∧
            ∃ (n1 : Int),
              (es.getD x8.toNat []).head? = some (PV.int IntKind.i64 n1) ∧
                ∃ (n2 : Int),
                  (es.getD x8.toNat []).tail.head? = some (PV.int IntKind.i64 n2) ∧
                    ∃ (n3 : Int),
                      (es.getD x8.toNat []).tail.tail.head? = some (PV.int IntKind.i64 n3) ∧
                        ∃ (n4 : Int),
                          (es.getD x8.toNat []).tail.tail.tail.head? = some (PV.int IntKind.i64 n4) ∧
                            SameSt
                                ([(3,
                                      LV.pv
                                        (PV.int IntKind.i64
                                          (IntKind.i64.wrap
                                            (x3 + IntKind.i64.wrap (IntKind.i64.wrap (n2 - n1) + (1 : Int)))))),
                                    (6, LV.pv (PV.sl n f es)),
                                    (7, LV.pv (PV.int IntKind.i64 (↑es.length : Int))),
                                    (8, LV.pv (PV.int IntKind.i64 (IntKind.i64.wrap (x8 + (1 : Int)))))],
                                  [])
                                ([(3,
                                      LV.pv
                                        (PV.int IntKind.i64
                                          (IntKind.i64.wrap
                                            (x3 + IntKind.i64.wrap (IntKind.i64.wrap (n2 - n1) + (1 : Int)))))),
                                    (6, LV.pv (PV.sl n f es)),
                                    (7, LV.pv (PV.int IntKind.i64 (↑es.length : Int))),
                                    (8, LV.pv (PV.int IntKind.i64 (IntKind.i64.wrap (x8 + (1 : Int)))))],
                                  []) ∧
                              J (IntKind.i64.wrap (x3 + IntKind.i64.wrap (IntKind.i64.wrap (n2 - n1) + (1 : Int))))
                                  (IntKind.i64.wrap (x8 + (1 : Int))) ∧
                                μ (IntKind.i64.wrap (x3 + IntKind.i64.wrap (IntKind.i64.wrap (n2 - n1) + (1 : Int))))
                                    (IntKind.i64.wrap (x8 + (1 : Int))) <
                                  μ x3 x8
        else R (PV.int IntKind.i64 x3)
theorem e_rows_Size (n f : Bool) (es : List (List PV)) (J : (Int) → (Int) → Prop) (μ : (Int) → (Int) → Nat) (R : PV → Prop) : aFn Try.prog (fun _ => none) Try.f30 [0, 2, 3, 5, 6, 7, 8, 9] (fun zz_ => match zz_ with | 3 => some ⟨Int × Int, fun s => (fun (x3 : Int) (x8 : Int) => ([(3, .pv (.int IntKind.i64 x3)), (6, LV.pv (PV.sl n f es)), (7, LV.pv (PV.int IntKind.i64 ↑es.length)), (8, .pv (.int IntKind.i64 x8))], [])) s.1 s.2, fun s => J s.1 s.2, fun s => μ s.1 s.2, fun e h => (gI e 3, gI e 8), [], [3, 6, 7, 8], [], fun p => ∀ (x3 : Int) (x8 : Int), p (x3, x8), fun p h s => h s.1 s.2⟩ | _ => none) (Try.f30.body.getD .skip) [.sl n f es] R = r_rows_Size n f es J μ R := by kernel_rfl
theorem a_rows_Size (n f : Bool) (es : List (List PV)) (J : (Int) → (Int) → Prop) (μ : (Int) → (Int) → Nat) {R : PV → Prop} (h : r_rows_Size n f es J μ R) : PCall Try.prog 30 [.sl n f es] R :=
  PCall.of Try.func30 (by kernel_rfl) (by kernel_rfl) (Nat.le_of_ble_eq_true (by kernel_rfl)) (Eq.mpr (e_rows_Size n f es J μ R) h)

def r_typebarlaw02_few (n f : Bool) (es : List (List PV)) (R : PV → Prop) : Prop :=

  if decide ((↑es.length : Int) > (40 : Int)) = true then
    (slOK es.length none (some (40 : Int)) none ∧ szOK es 5) ∧
      R (PV.sl n (f && decide ((40 : Int) = (↑es.length : Int))) (List.drop 0 (List.take 40 es)))
  else R (PV.sl n f es)
theorem e_typebarlaw02_few (n f : Bool) (es : List (List PV)) (R : PV → Prop) : aFn Try.prog (fun _ => none) Try.f28 [0, 2, 5] (fun _ => none) (Try.f28.body.getD .skip) [.sl n f es] R = r_typebarlaw02_few n f es R := by kernel_rfl
theorem a_typebarlaw02_few (n f : Bool) (es : List (List PV)) {R : PV → Prop} (h : r_typebarlaw02_few n f es R) : PCall Try.prog 28 [.sl n f es] R :=
  PCall.of Try.func28 (by kernel_rfl) (by kernel_rfl) (Nat.le_of_ble_eq_true (by kernel_rfl)) (Eq.mpr (e_typebarlaw02_few n f es R) h)

def r_cmp_isNaN_int (x : Int) (R : PV → Prop) : Prop :=
 R (PV.bool (x != x))
theorem e_cmp_isNaN_int (x : Int) (R : PV → Prop) : aFn Try.prog (fun _ => none) Try.f96 [0, 2] (fun _ => none) (Try.f96.body.getD .skip) [.int .i64 x] R = r_cmp_isNaN_int x R := by kernel_rfl
theorem a_cmp_isNaN_int (x : Int) {R : PV → Prop} (h : r_cmp_isNaN_int x R) : PCall Try.prog 96 [.int .i64 x] R :=
  PCall.of Try.func96 (by kernel_rfl) (by kernel_rfl) (Nat.le_of_ble_eq_true (by kernel_rfl)) (Eq.mpr (e_cmp_isNaN_int x R) h)

def r_cmp_Compare_int (x y : Int) (R : PV → Prop) : Prop :=

  PCall Try.prog 96 [PV.int IntKind.i64 x] fun (v : PV) ↦
    ∃ (b : Bool),
      v = PV.bool b ∧
        PCall Try.prog 96 [PV.int IntKind.i64 y] fun (v1 : PV) ↦
          ∃ (b1 : Bool),
            v1 = PV.bool b1 ∧
              if b = true then if b1 = true then R (PV.int IntKind.i64 (0 : Int)) else R (PV.int IntKind.i64 (-1 : Int))
              else
                if b1 = true then R (PV.int IntKind.i64 (1 : Int))
                else
                  if decide (x < y) = true then R (PV.int IntKind.i64 (-1 : Int))
                  else
                    if decide (x > y) = true then R (PV.int IntKind.i64 (1 : Int)) else R (PV.int IntKind.i64 (0 : Int))
theorem e_cmp_Compare_int (x y : Int) (R : PV → Prop) : aFn Try.prog (fun _ => none) Try.f61 [0, 1, 4, 5, 6, 11, 12, 13, 16, 19] (fun _ => none) (Try.f61.body.getD .skip) [.int .i64 x, .int .i64 y] R = r_cmp_Compare_int x y R := by kernel_rfl
theorem a_cmp_Compare_int (x y : Int) {R : PV → Prop} (h : r_cmp_Compare_int x y R) : PCall Try.prog 61 [.int .i64 x, .int .i64 y] R :=
  PCall.of Try.func61 (by kernel_rfl) (by kernel_rfl) (Nat.le_of_ble_eq_true (by kernel_rfl)) (Eq.mpr (e_cmp_Compare_int x y R) h)

def r_rows_Of_1 (a b c d a2 b2 c2 d2 : Int) (R : PV → Prop) : Prop :=

  PCall Try.prog 61 [PV.int IntKind.i64 a, PV.int IntKind.i64 a2] fun (v : PV) ↦
    ∃ (n : Int), v = PV.int IntKind.i64 n ∧ R (PV.int IntKind.i64 n)
theorem e_rows_Of_1 (a b c d a2 b2 c2 d2 : Int) (R : PV → Prop) : aFn Try.prog (fun _ => none) Try.f60 [0, 1, 2, 3, 4] (fun _ => none) (Try.f60.body.getD .skip) [.agg [.int .i64 a, .int .i64 b, .int .i64 c, .int .i64 d], .agg [.int .i64 a2, .int .i64 b2, .int .i64 c2, .int .i64 d2]] R = r_rows_Of_1 a b c d a2 b2 c2 d2 R := by kernel_rfl
theorem a_rows_Of_1 (a b c d a2 b2 c2 d2 : Int) {R : PV → Prop} (h : r_rows_Of_1 a b c d a2 b2 c2 d2 R) : PCall Try.prog 60 [.agg [.int .i64 a, .int .i64 b, .int .i64 c, .int .i64 d], .agg [.int .i64 a2, .int .i64 b2, .int .i64 c2, .int .i64 d2]] R :=
  PCall.of Try.func60 (by kernel_rfl) (by kernel_rfl) (Nat.le_of_ble_eq_true (by kernel_rfl)) (Eq.mpr (e_rows_Of_1 a b c d a2 b2 c2 d2 R) h)

def r_rows_Of (n f : Bool) (es : List (List PV)) (k : Int) (J : (Int) → (Bool) → (List (List PV)) → Prop) (μ : (Int) → (Bool) → (List (List PV)) → Nat) (R : PV → Prop) : Prop :=

  (SameSt
        ([(1, LV.pv (PV.int IntKind.i64 k)), (5, LV.own 0),
            (6, LV.pv (PV.fn 60 [])), (10, LV.pv (PV.sl n f es)),
            (11, LV.pv (PV.int IntKind.i64 (↑es.length : Int))),
            (12, LV.pv (PV.int IntKind.i64 (0 : Int)))],
          [Ob.sl (62, 4) true true []])
        ([(1, LV.pv (PV.int IntKind.i64 k)), (5, LV.own 0),
            (6, LV.pv (PV.fn 60 [])), (10, LV.pv (PV.sl n f es)),
            (11, LV.pv (PV.int IntKind.i64 (↑es.length : Int))),
            (12, LV.pv (PV.int IntKind.i64 (0 : Int)))],
          [Ob.sl (62, 4) true true []]) ∧
      J (0 : Int) true []) ∧
    ∀ (x12 : Int) (n_0 : Bool) (s_0 : List (List PV)),
      J x12 n_0 s_0 →
        if decide (x12 < (↑es.length : Int)) = true then
          idxOK es x12 5 ∧
            ∃ (n1 : Int),
              (es.getD x12.toNat []).head? = some (PV.int IntKind.i64 n1) ∧
                ∃ (n2 : Int),
                  (es.getD x12.toNat []).tail.head? = some (PV.int IntKind.i64 n2) ∧
                    ∃ (n3 : Int),
                      (es.getD x12.toNat []).tail.tail.head? = some (PV.int IntKind.i64 n3) ∧
                        ∃ (n4 : Int),
                          (es.getD x12.toNat []).tail.tail.tail.head? = some (PV.int IntKind.i64 n4) ∧
                            ∃ (n5 : Int),
                              (es.getD x12.toNat []).tail.tail.tail.tail.head? = some (PV.int IntKind.i64 n5) ∧
                                if (n1 != k) = true then
                                  SameSt
                                      ([(1, LV.pv (PV.int IntKind.i64 k)), (5, LV.own 0),
                                          (6, LV.pv (PV.fn 60 [])),
                                          (10, LV.pv (PV.sl n f es)),
                                          (11, LV.pv (PV.int IntKind.i64 (↑es.length : Int))),
                                          (12,
                                            LV.pv (PV.int IntKind.i64 (IntKind.i64.wrap (x12 + (1 : Int)))))],
                                        [Ob.sl (62, 4) true n_0 s_0])
                                      ([(1, LV.pv (PV.int IntKind.i64 k)), (5, LV.own 0),
                                          (6, LV.pv (PV.fn 60 [])),
                                          (10, LV.pv (PV.sl n f es)),
                                          (11, LV.pv (PV.int IntKind.i64 (↑es.length : Int))),
                                          (12,
                                            LV.pv (PV.int IntKind.i64 (IntKind.i64.wrap (x12 + (1 : Int)))))],
                                        [Ob.sl (62, 4) true n_0 s_0]) ∧
                                    J (IntKind.i64.wrap (x12 + (1 : Int))) n_0 s_0 ∧
                                      μ (IntKind.i64.wrap (x12 + (1 : Int))) n_0 s_0 < μ x12 n_0 s_0
                                else
                                  ACall Try.prog 62
                                    [LV.pv
                                        (PV.agg
                                          [PV.int IntKind.i64 (if n2 < (0 : Int) then (0 : Int) else n2),
                                            PV.int IntKind.i64 (if (1114111 : Int) < n3 then (1114111 : Int) else n3),
                                            PV.int IntKind.i64 n4, PV.int IntKind.i64 n5]),
                                      LV.own 0]
                                    [Ob.sl (62, 4) false n_0 s_0] fun (r : LV) (h' : Hp) ↦
                                    ∃ (t : Bool × List (List PV)),
                                      (r = LV.own 1 ∧
                                          h' =
                                            [Ob.sl (62, 4) false n_0 s_0,
                                              Ob.sl (62, 4) true t.fst t.snd]) ∧
                                        (((62, 4) = (62, 4) ∧
                                              n_0 = n_0 ∧ s_0.length = s_0.length) ∧
                                            True) ∧
                                          (szOK t.snd 4 ∧
                                              (s_0.length + t.snd.length) * 32 ≤ 140737488355328) ∧
                                            ACall Try.prog 63
                                              [LV.own 0, LV.pv (PV.fn 60 [])]
                                              [Ob.sl (62, 4) false (n_0 && t.snd.isEmpty)
                                                  (s_0 ++ t.snd)]
                                              fun (r1 : LV) (h'1 : Hp) ↦
                                              ∃ (t1 : List (List PV)),
                                                (r1 = LV.tup [] ∧
                                                    h'1 =
                                                      [Ob.sl (62, 4) false (n_0 && t.snd.isEmpty) t1]) ∧
                                                  (((62, 4) = (62, 4) ∧
                                                        (n_0 && t.snd.isEmpty) = (n_0 && t.snd.isEmpty) ∧
                                                          (s_0 ++ t.snd).length = t1.length) ∧
                                                      True) ∧
                                                    SameSt
                                                        ([(1, LV.pv (PV.int IntKind.i64 k)),
                                                            (5, LV.own 0),
                                                            (6, LV.pv (PV.fn 60 [])),
                                                            (10, LV.pv (PV.sl n f es)),
                                                            (11, LV.pv (PV.int IntKind.i64 (↑es.length : Int))),
                                                            (12,
                                                              LV.pv
                                                                (PV.int IntKind.i64
                                                                  (IntKind.i64.wrap (x12 + (1 : Int)))))],
                                                          [Ob.sl (62, 4) true (n_0 && t.snd.isEmpty)
                                                              t1])
                                                        ([(1, LV.pv (PV.int IntKind.i64 k)),
                                                            (5, LV.own 0),
                                                            (6, LV.pv (PV.fn 60 [])),
                                                            (10, LV.pv (PV.sl n f es)),
                                                            (11, LV.pv (PV.int IntKind.i64 (↑es.length : Int))),
                                                            (12,
                                                              LV.pv
                                                                (PV.int IntKind.i64
                                                                  (IntKind.i64.wrap (x12 + (1 : Int)))))],
                                                          [Ob.sl (62, 4) true (n_0 && t.snd.isEmpty)
                                                              t1]) ∧
                                                      J (IntKind.i64.wrap (x12 + (1 : Int))) (n_0 && t.snd.isEmpty) t1 ∧
                                                        μ (IntKind.i64.wrap (x12 + (1 : Int))) (n_0 && t.snd.isEmpty)
                                                            t1 <
                                                          μ x12 n_0 s_0
        else
          PCall Try.prog 64 [PV.sl n_0 false s_0] fun (v : PV) ↦
            ∃ (n1 : Bool), ∃ (f1 : Bool), ∃ (es1 : List (List PV)), v = PV.sl n1 f1 es1 ∧ R (PV.sl n1 f1 es1)
theorem e_rows_Of (n f : Bool) (es : List (List PV)) (k : Int) (J : (Int) → (Bool) → (List (List PV)) → Prop) (μ : (Int) → (Bool) → (List (List PV)) → Nat) (R : PV → Prop) : aFn Try.prog (fun zz_ => match zz_ with | 62 => some ⟨Bool × List (List PV), fun _ hs t => (.own 1, hs ++ [.sl (62, 4) true t.1 t.2])⟩ | 63 => some ⟨List (List PV), fun _ hs t => (.tup [], match hs with | [.sl ty _ nl es] => [.sl ty false nl t] | h => h)⟩ | _ => none) Try.f29 [0, 1, 4, 5, 6, 8, 9, 10, 11, 12, 13, 19] (fun zz_ => match zz_ with | 4 => some ⟨Int × Bool × (List (List PV)), fun s => (fun (x12 : Int) (n_0 : Bool) (s_0 : List (List PV)) => ([(1, LV.pv (PV.int IntKind.i64 k)), (5, LV.own 0), (6, LV.pv (PV.fn 60 [])), (10, LV.pv (PV.sl n f es)), (11, LV.pv (PV.int IntKind.i64 ↑es.length)), (12, .pv (.int IntKind.i64 x12))], [.sl (62, 4) true n_0 s_0])) s.1 s.2.1 s.2.2, fun s => J s.1 s.2.1 s.2.2, fun s => μ s.1 s.2.1 s.2.2, fun e h => (gI e 12, oN h 0, oS h 0), [(5, 62, 4)], [1, 5, 6, 10, 11, 12], [], fun p => ∀ (x12 : Int) (n_0 : Bool) (s_0 : List (List PV)), p (x12, n_0, s_0), fun p h s => h s.1 s.2.1 s.2.2⟩ | _ => none) (Try.f29.body.getD .skip) [.sl n f es, .int .i64 k] R = r_rows_Of n f es k J μ R := by kernel_rfl
theorem a_rows_Of (n f : Bool) (es : List (List PV)) (k : Int) (J : (Int) → (Bool) → (List (List PV)) → Prop) (μ : (Int) → (Bool) → (List (List PV)) → Nat) {R : PV → Prop} (h : r_rows_Of n f es k J μ R) : PCall Try.prog 29 [.sl n f es, .int .i64 k] R :=
  PCall.of Try.func29 (by kernel_rfl) (by kernel_rfl) (Nat.le_of_ble_eq_true (by kernel_rfl)) (Eq.mpr (e_rows_Of n f es k J μ R) h)

def r_typebarlaw02_RowsOrder (n f : Bool) (es : List (List PV)) (k : Int) (J : (Bool) → (Bool) → (List (List PV)) → (Int) → (Int) → Prop) (μ : (Bool) → (Bool) → (List (List PV)) → (Int) → (Int) → Nat) (R : PV → Prop) : Prop :=

  PCall Try.prog 28 [PV.sl n f es] fun (v : PV) ↦
    ∃ (n1 : Bool),
      ∃ (f1 : Bool),
        ∃ (es1 : List (List PV)),
          v = PV.sl n1 f1 es1 ∧
            PCall Try.prog 29 [PV.sl n1 f1 es1, PV.int IntKind.i64 k] fun (v1 : PV) ↦
              ∃ (n2 : Bool),
                ∃ (f2 : Bool),
                  ∃ (es2 : List (List PV)),
                    v1 = PV.sl n2 f2 es2 ∧
                      (SameSt
                            ([(5, LV.pv (PV.sl n2 f2 es2)), (6, LV.pv (PV.int IntKind.i64 (0 : Int))),
                                (7, LV.pv (PV.int IntKind.i64 (0 : Int)))],
                              [])
                            ([(5, LV.pv (PV.sl n2 f2 es2)), (6, LV.pv (PV.int IntKind.i64 (0 : Int))),
                                (7, LV.pv (PV.int IntKind.i64 (0 : Int)))],
                              []) ∧
                          J n2 f2 es2 (0 : Int) (0 : Int)) ∧
                        ∀ (n5 f5 : Bool) (s5 : List (List PV)) (x6 x7 : Int),
                          J n5 f5 s5 x6 x7 →
                            if decide (x7 < (↑s5.length : Int)) = true then
                              idxOK s5 x7 4 ∧
                                ∃ (n3 : Int),
                                  (List.drop 0 (s5.getD x7.toNat [])).head? = some (PV.int IntKind.i64 n3) ∧
                                    if decide (n3 < (0 : Int)) = true then R (PV.bool false)
                                    else
                                      idxOK s5 x7 4 ∧
                                        ∃ (n4 : Int),
                                          (List.drop 1 (s5.getD x7.toNat [])).head? =
                                              some (PV.int IntKind.i64 n4) ∧
                                            if decide (n4 > (1114111 : Int)) = true then R (PV.bool false)
                                            else
                                              idxOK s5 x7 4 ∧
                                                ∃ (n6 : Int),
                                                  (List.drop 0 (s5.getD x7.toNat [])).head? =
                                                      some (PV.int IntKind.i64 n6) ∧
                                                    idxOK s5 x7 4 ∧
                                                      ∃ (n7 : Int),
                                                        (List.drop 1 (s5.getD x7.toNat [])).head? =
                                                            some (PV.int IntKind.i64 n7) ∧
                                                          if decide (n6 > n7) = true then R (PV.bool false)
                                                          else
                                                            if decide (x7 > (0 : Int)) = true then
                                                              idxOK s5 (IntKind.i64.wrap (x7 - (1 : Int))) 4 ∧
                                                                ∃ (n8 : Int),
                                                                  (List.drop 1
                                                                          (s5.getD
                                                                            (IntKind.i64.wrap (x7 - (1 : Int))).toNat
                                                                            [])).head? =
                                                                      some (PV.int IntKind.i64 n8) ∧
                                                                    idxOK s5 x7 4 ∧
                                                                      ∃ (n9 : Int),
                                                                        (List.drop 0
                                                                                (s5.getD x7.toNat [])).head? =
                                                                            some (PV.int IntKind.i64 n9) ∧
                                                                          if decide (n8 ≥ n9) = true then
                                                                            R (PV.bool false)
                                                                          else
                                                                            if decide (x7 > (0 : Int)) = true then
                                                                              idxOK s5
                                                                                  (IntKind.i64.wrap (x7 - (1 : Int)))
                                                                                  4 ∧
                                                                                ∃ (n10 : Int),
                                                                                  (List.drop 1
                                                                                          (s5.getD
                                                                                            (IntKind.i64.wrap
                                                                                                (x7 - (1 : Int))).toNat
                                                                                            [])).head? =
                                                                                      some (PV.int IntKind.i64 n10) ∧
                                                                                    idxOK s5 x7 4 ∧
                                                                                      ∃ (n11 : Int),
                                                                                        (List.drop 0
                                                                                                (s5.getD x7.toNat
                                                                                                  [])).head? =
                                                                                            some
                                                                                              (PV.int IntKind.i64 n11) ∧
                                                                                          if
                                                                                              (IntKind.i64.wrap
                                                                                                    (n10 + (1 : Int)) ==
                                                                                                  n11) =
                                                                                                true then
                                                                                            idxOK s5
                                                                                                (IntKind.i64.wrap
                                                                                                  (x7 - (1 : Int)))
                                                                                                4 ∧
                                                                                              ∃ (n12 : Int),
                                                                                                (List.drop 2
                                                                                                        (s5.getD
                                                                                                          (IntKind.i64.wrap
                                                                                                              (x7 -
                                                                                                                (1 :
                                                                                                                  Int))).toNat
                                                                                                          [])).head? =
                                                                                                    some
                                                                                                      (PV.int
                                                                                                        IntKind.i64
                                                                                                        n12) ∧
                                                                                                  idxOK s5 x7
                                                                                                      4 ∧
                                                                                                    ∃ (n13 : Int),
                                                                                                      (List.drop
                                                                                                              (nat_lit
                                                                                                                2)
                                                                                                              (s5.getD
                                                                                                                x7.toNat
                                                                                                                [])).head? =
                                                                                                          some
                                                                                                            (PV.int
                                                                                                              IntKind.i64
                                                                                                              n13) ∧
                                                                                                        if
                                                                                                            (n12 ==
                                                                                                                n13) =
                                                                                                              true then
                                                                                                          idxOK s5
                                                                                                              (IntKind.i64.wrap
                                                                                                                (x7 -
                                                                                                                  (1 :
                                                                                                                    Int)))
                                                                                                              (nat_lit
                                                                                                                4) ∧
                                                                                                            ∃ (n14 :
                                                                                                              Int),
                                                                                                              (List.drop
                                                                                                                      (nat_lit
                                                                                                                        3)
                                                                                                                      (s5.getD
                                                                                                                        (IntKind.i64.wrap
                                                                                                                            (x7 -
                                                                                                                              (1 :
                                                                                                                                Int))).toNat
                                                                                                                        [])).head? =
                                                                                                                  some
                                                                                                                    (PV.int
                                                                                                                      IntKind.i64
                                                                                                                      n14) ∧
                                                                                                                idxOK s5
                                                                                                                    x7
                                                                                                                    (nat_lit
                                                                                                                      4) ∧
                                                                                                                  ∃ (n15
                                                                                                                    :
                                                                                                                    Int),
                                                                                                                    (List.drop
                                                                                                                            (nat_lit
                                                                                                                              3)
                                                                                                                            (s5.getD
                                                                                                                              x7.toNat
                                                                                                                              [])).head? =
                                                                                                                        some
                                                                                                                          (PV.int
                                                                                                                            IntKind.i64
                                                                                                                            n15) ∧
                                                                                                                      if
                                                                                                                          (n14 ==
                                                                                                                              n15) =
                                                                                                                            true then
                                                                                                                        R
                                                                                                                          (PV.bool
                                                                                                                            false)
                                                                                                                      else
                                                                                                                        idxOK
                                                                                                                            s5
                                                                                                                            x7
                                                                                                                            (nat_lit
                                                                                                                              4) ∧
                                                                                                                          ∃
                                                                                                                            (n16
                                                                                                                            :
                                                                                                                            Int),
                                                                                                                            (List.drop
                                                                                                                                    (nat_lit
                                                                                                                                      1)
                                                                                                                                    (s5.getD
                                                                                                                                      x7.toNat
                                                                                                                                      [])).head? =
                                                                                                                                some
                                                                                                                                  (PV.int
                                                                                                                                    IntKind.i64
                                                                                                                                    n16) ∧
                                                                                                                              idxOK
                                                                                                                                  s5
                                                                                                                                  x7
                                                                                                                                  (nat_lit
                                                                                                                                    4) ∧
                                                                                                                                ∃
                                                                                                                                  (n17
                                                                                                                                  :
                                                                                                                                  Int),
                                                                                                                                  (List.drop
                                                                                                                                          (nat_lit
                                                                                                                                            0)
                                                                                                                                          (s5.getD
                                                                                                                                            x7.toNat
                                                                                                                                            [])).head? =
                                                                                                                                      some
                                                                                                                                        (PV.int
                                                                                                                                          IntKind.i64
                                                                                                                                          n17) ∧
                                                                                                                                    SameSt
                                                                                                                                        ([(nat_lit
                                                                                                                                                5,
                                                                                                                                              LV.pv
                                                                                                                                                (PV.sl
                                                                                                                                                  n5
                                                                                                                                                  f5
                                                                                                                                                  s5)),
                                                                                                                                            (nat_lit
                                                                                                                                                6,
                                                                                                                                              LV.pv
                                                                                                                                                (PV.int
                                                                                                                                                  IntKind.i64
                                                                                                                                                  (IntKind.i64.wrap
                                                                                                                                                    (IntKind.i64.wrap
                                                                                                                                                        (IntKind.i64.wrap
                                                                                                                                                            (x6 +
                                                                                                                                                              n16) -
                                                                                                                                                          n17) +
                                                                                                                                                      (1 :
                                                                                                                                                        Int))))),
                                                                                                                                            (nat_lit
                                                                                                                                                7,
                                                                                                                                              LV.pv
                                                                                                                                                (PV.int
                                                                                                                                                  IntKind.i64
                                                                                                                                                  (IntKind.i64.wrap
                                                                                                                                                    (x7 +
                                                                                                                                                      (1 :
                                                                                                                                                        Int)))))],
                                                                                                                                          [])
                                                                                                                                        ([(nat_lit
                                                                                                                                                5,
                                                                                                                                              LV.pv
                                                                                                                                                (PV.sl
                                                                                                                                                  n5
                                                                                                                                                  f5
                                                                                                                                                  s5)),
                                                                                                                                            (nat_lit
                                                                                                                                                6,
                                                                                                                                              LV.pv
                                                                                                                                                (PV.int
                                                                                                                                                  IntKind.i64
                                                                                                                                                  (IntKind.i64.wrap
                                                                                                                                                    (IntKind.i64.wrap
                                                                                                                                                        (IntKind.i64.wrap
                                                                                                                                                            (x6 +
                                                                                                                                                              n16) -
                                                                                                                                                          n17) +
                                                                                                                                                      (1 :
                                                                                                                                                        Int))))),
                                                                                                                                            (nat_lit
                                                                                                                                                7,
                                                                                                                                              LV.pv
                                                                                                                                                (PV.int
                                                                                                                                                  IntKind.i64
                                                                                                                                                  (IntKind.i64.wrap
                                                                                                                                                    (x7 +
                                                                                                                                                      (1 :
                                                                                                                                                        Int)))))],
                                                                                                                                          []) ∧
                                                                                                                                      J
                                                                                                                                          n5
                                                                                                                                          f5
                                                                                                                                          s5
                                                                                                                                          (IntKind.i64.wrap
                                                                                                                                            (IntKind.i64.wrap
                                                                                                                                                (IntKind.i64.wrap
                                                                                                                                                    (x6 +
                                                                                                                                                      n16) -
                                                                                                                                                  n17) +
                                                                                                                                              (1 :
                                                                                                                                                Int)))
                                                                                                                                          (IntKind.i64.wrap
                                                                                                                                            (x7 +
                                                                                                                                              (1 :
                                                                                                                                                Int))) ∧
                                                                                                                                        μ
                                                                                                                                            n5
                                                                                                                                            f5
                                                                                                                                            s5
                                                                                                                                            (IntKind.i64.wrap
                                                                                                                                              (IntKind.i64.wrap
                                                                                                                                                  (IntKind.i64.wrap
                                                                                                                                                      (x6 +
                                                                                                                                                        n16) -
                                                                                                                                                    n17) +
                                                                                                                                                (1 :
                                                                                                                                                  Int)))
                                                                                                                                            (IntKind.i64.wrap
                                                                                                                                              (x7 +
                                                                                                                                                (1 :
                                                                                                                                                  Int))) <
                                                                                                                                          μ
                                                                                                                                            n5
                                                                                                                                            f5
                                                                                                                                            s5
                                                                                                                                            x6
                                                                                                                                            x7
                                                                                                        else
                                                                                                          idxOK s5 x7
                                                                                                              (nat_lit
                                                                                                                4) ∧
                                                                                                            ∃ (n14 :
                                                                                                              Int),
                                                                                                              (List.drop
                                                                                                                      (nat_lit
                                                                                                                        1)
                                                                                                                      (s5.getD
                                                                                                                        x7.toNat
                                                                                                                        [])).head? =
                                                                                                                  some
                                                                                                                    (PV.int
                                                                                                                      IntKind.i64
                                                                                                                      n14) ∧
                                                                                                                idxOK s5
                                                                                                                    x7
                                                                                                                    (nat_lit
                                                                                                                      4) ∧
                                                                                                                  ∃ (n15
                                                                                                                    :
                                                                                                                    Int),
                                                                                                                    (List.drop
                                                                                                                            (nat_lit
                                                                                                                              0)
                                                                                                                            (s5.getD
                                                                                                                              x7.toNat
                                                                                                                              [])).head? =
                                                                                                                        some
                                                                                                                          (PV.int
                                                                                                                            IntKind.i64
                                                                                                                            n15) ∧
                                                                                                                      SameSt
                                                                                                                          ([(nat_lit
                                                                                                                                  5,
                                                                                                                                LV.pv
                                                                                                                                  (PV.sl
                                                                                                                                    n5
                                                                                                                                    f5
                                                                                                                                    s5)),
                                                                                                                              (nat_lit
                                                                                                                                  6,
                                                                                                                                LV.pv
                                                                                                                                  (PV.int
                                                                                                                                    IntKind.i64
                                                                                                                                    (IntKind.i64.wrap
                                                                                                                                      (IntKind.i64.wrap
                                                                                                                                          (IntKind.i64.wrap
                                                                                                                                              (x6 +
                                                                                                                                                n14) -
                                                                                                                                            n15) +
                                                                                                                                        (1 :
                                                                                                                                          Int))))),
                                                                                                                              (nat_lit
                                                                                                                                  7,
                                                                                                                                LV.pv
                                                                                                                                  (PV.int
                                                                                                                                    IntKind.i64
                                                                                                                                    (IntKind.i64.wrap
                                                                                                                                      (x7 +
                                                                                                                                        (1 :
                                                                                                                                          Int)))))],
                                                                                                                            [])
                                                                                                                          ([(nat_lit
                                                                                                                                  5,
                                                                                                                                LV.pv
                                                                                                                                  (PV.sl
                                                                                                                                    n5
                                                                                                                                    f5
                                                                                                                                    s5)),
                                                                                                                              (nat_lit
                                                                                                                                  6,
                                                                                                                                LV.pv
                                                                                                                                  (PV.int
                                                                                                                                    IntKind.i64
                                                                                                                                    (IntKind.i64.wrap
                                                                                                                                      (IntKind.i64.wrap
                                                                                                                                          (IntKind.i64.wrap
                                                                                                                                              (x6 +
                                                                                                                                                n14) -
                                                                                                                                            n15) +
                                                                                                                                        (1 :
                                                                                                                                          Int))))),
                                                                                                                              (nat_lit
                                                                                                                                  7,
                                                                                                                                LV.pv
                                                                                                                                  (PV.int
                                                                                                                                    IntKind.i64
                                                                                                                                    (IntKind.i64.wrap
                                                                                                                                      (x7 +
                                                                                                                                        (1 :
                                                                                                                                          Int)))))],
                                                                                                                            []) ∧
                                                                                                                        J
                                                                                                                            n5
                                                                                                                            f5
                                                                                                                            s5
                                                                                                                            (IntKind.i64.wrap
                                                                                                                              (IntKind.i64.wrap
                                                                                                                                  (IntKind.i64.wrap
                                                                                                                                      (x6 +
                                                                                                                                        n14) -
                                                                                                                                    n15) +
                                                                                                                                (1 :
                                                                                                                                  Int)))
                                                                                                                            (IntKind.i64.wrap
                                                                                                                              (x7 +
                                                                                                                                (1 :
                                                                                                                                  Int))) ∧
                                                                                                                          μ
                                                                                                                              n5
                                                                                                                              f5
                                                                                                                              s5
                                                                                                                              (IntKind.i64.wrap
                                                                                                                                (IntKind.i64.wrap
                                                                                                                                    (IntKind.i64.wrap
                                                                                                                                        (x6 +
                                                                                                                                          n14) -
                                                                                                                                      n15) +
                                                                                                                                  (1 :
                                                                                                                                    Int)))
                                                                                                                              (IntKind.i64.wrap
                                                                                                                                (x7 +
                                                                                                                                  (1 :
                                                                                                                                    Int))) <
                                                                                                                            μ
                                                                                                                              n5
                                                                                                                              f5
                                                                                                                              s5
                                                                                                                              x6
                                                                                                                              x7
                                                                                          else
                                                                                            idxOK s5 x7 4 ∧
                                                                                              ∃ (n14 : Int),
                                                                                                (List.drop 1
                                                                                                        (s5.getD
                                                                                                          x7.toNat
                                                                                                          [])).head? =
                                                                                                    some
                                                                                                      (PV.int
                                                                                                        IntKind.i64
                                                                                                        n14) ∧
                                                                                                  idxOK s5 x7
                                                                                                      4 ∧
                                                                                                    ∃ (n15 : Int),
                                                                                                      (List.drop
                                                                                                              (nat_lit
                                                                                                                0)
                                                                                                              (s5.getD
                                                                                                                x7.toNat
                                                                                                                [])).head? =
                                                                                                          some
                                                                                                            (PV.int
                                                                                                              IntKind.i64
                                                                                                              n15) ∧
                                                                                                        SameSt
                                                                                                            ([(nat_lit
                                                                                                                    5,
                                                                                                                  LV.pv
                                                                                                                    (PV.sl
                                                                                                                      n5
                                                                                                                      f5
                                                                                                                      s5)),
                                                                                                                (nat_lit
                                                                                                                    6,
                                                                                                                  LV.pv
                                                                                                                    (PV.int
                                                                                                                      IntKind.i64
                                                                                                                      (IntKind.i64.wrap
                                                                                                                        (IntKind.i64.wrap
                                                                                                                            (IntKind.i64.wrap
                                                                                                                                (x6 +
                                                                                                                                  n14) -
                                                                                                                              n15) +
                                                                                                                          (1 :
                                                                                                                            Int))))),
                                                                                                                (nat_lit
                                                                                                                    7,
                                                                                                                  LV.pv
                                                                                                                    (PV.int
                                                                                                                      IntKind.i64
                                                                                                                      (IntKind.i64.wrap
                                                                                                                        (x7 +
                                                                                                                          (1 :
                                                                                                                            Int)))))],
                                                                                                              [])
                                                                                                            ([(nat_lit
                                                                                                                    5,
                                                                                                                  LV.pv
                                                                                                                    (PV.sl
                                                                                                                      n5
                                                                                                                      f5
                                                                                                                      s5)),
                                                                                                                (nat_lit
                                                                                                                    6,
                                                                                                                  LV.pv
                                                                                                                    (PV.int
                                                                                                                      IntKind.i64
                                                                                                                      (IntKind.i64.wrap
                                                                                                                        (IntKind.i64.wrap
                                                                                                                            (IntKind.i64.wrap
                                                                                                                                (x6 +
                                                                                                                                  n14) -
                                                                                                                              n15) +
                                                                                                                          (1 :
                                                                                                                            Int))))),
                                                                                                                (nat_lit
                                                                                                                    7,
                                                                                                                  LV.pv
                                                                                                                    (PV.int
                                                                                                                      IntKind.i64
                                                                                                                      (IntKind.i64.wrap
                                                                                                                        (x7 +
                                                                                                                          (1 :
                                                                                                                            Int)))))],
                                                                                                              []) ∧
                                                                                                          J n5 f5 s5
                                                                                                              (IntKind.i64.wrap
                                                                                                                (IntKind.i64.wrap
                                                                                                                    (IntKind.i64.wrap
                                                                                                                        (x6 +
                                                                                                                          n14) -
                                                                                                                      n15) +
                                                                                                                  (1 :
                                                                                                                    Int)))
                                                                                                              (IntKind.i64.wrap
                                                                                                                (x7 +
                                                                                                                  (1 :
                                                                                                                    Int))) ∧
                                                                                                            μ n5 f5 s5
                                                                                                                (IntKind.i64.wrap
                                                                                                                  (IntKind.i64.wrap
                                                                                                                      (IntKind.i64.wrap
                                                                                                                          (x6 +
                                                                                                                            n14) -
                                                                                                                        n15) +
                                                                                                                    (1 :
                                                                                                                      Int)))
                                                                                                                (IntKind.i64.wrap
                                                                                                                  (x7 +
                                                                                                                    (1 :
                                                                                                                      Int))) <
                                                                                                              μ n5 f5 s5
                                                                                                                x6 x7
                                                                            else
                                                                              idxOK s5 x7 4 ∧
                                                                                ∃ (n14 : Int),
                                                                                  (List.drop 1
                                                                                          (s5.getD x7.toNat [])).head? =
                                                                                      some (PV.int IntKind.i64 n14) ∧
                                                                                    idxOK s5 x7 4 ∧
                                                                                      ∃ (n15 : Int),
                                                                                        (List.drop 0
                                                                                                (s5.getD x7.toNat
                                                                                                  [])).head? =
                                                                                            some
                                                                                              (PV.int IntKind.i64 n15) ∧
                                                                                          SameSt
                                                                                              ([(5,
                                                                                                    LV.pv
                                                                                                      (PV.sl n5 f5 s5)),
                                                                                                  (6,
                                                                                                    LV.pv
                                                                                                      (PV.int
                                                                                                        IntKind.i64
                                                                                                        (IntKind.i64.wrap
                                                                                                          (IntKind.i64.wrap
                                                                                                              (IntKind.i64.wrap
                                                                                                                  (x6 +
                                                                                                                    n14) -
                                                                                                                n15) +
                                                                                                            (1 :
                                                                                                              Int))))),
                                                                                                  (7,
                                                                                                    LV.pv
                                                                                                      (PV.int
                                                                                                        IntKind.i64
                                                                                                        (IntKind.i64.wrap
                                                                                                          (x7 +
                                                                                                            (1 :
                                                                                                              Int)))))],
                                                                                                [])
                                                                                              ([(5,
                                                                                                    LV.pv
                                                                                                      (PV.sl n5 f5 s5)),
                                                                                                  (6,
                                                                                                    LV.pv
                                                                                                      (PV.int
                                                                                                        IntKind.i64
                                                                                                        (IntKind.i64.wrap
                                                                                                          (IntKind.i64.wrap
                                                                                                              (IntKind.i64.wrap
                                                                                                                  (x6 +
                                                                                                                    n14) -
                                                                                                                n15) +
                                                                                                            (1 :
                                                                                                              Int))))),
                                                                                                  (7,
                                                                                                    LV.pv
                                                                                                      (PV.int
                                                                                                        IntKind.i64
                                                                                                        (IntKind.i64.wrap
                                                                                                          (x7 +
                                                                                                            (1 :
                                                                                                              Int)))))],
                                                                                                []) ∧
                                                                                            J n5 f5 s5
                                                                                                (IntKind.i64.wrap
                                                                                                  (IntKind.i64.wrap
                                                                                                      (IntKind.i64.wrap
                                                                                                          (x6 + n14) -
                                                                                                        n15) +
                                                                                                    (1 : Int)))
                                                                                                (IntKind.i64.wrap
                                                                                                  (x7 + (1 : Int))) ∧
                                                                                              μ n5 f5 s5
                                                                                                  (IntKind.i64.wrap
                                                                                                    (IntKind.i64.wrap
                                                                                                        (IntKind.i64.wrap
                                                                                                            (x6 + n14) -
                                                                                                          n15) +
                                                                                                      (1 : Int)))
                                                                                                  (IntKind.i64.wrap
                                                                                                    (x7 + (1 : Int))) <
                                                                                                μ n5 f5 s5 x6 x7
                                                            else
                                                              if decide (x7 > (0 : Int)) = true then
                                                                idxOK s5 (IntKind.i64.wrap (x7 - (1 : Int)))
                                                                    4 ∧
                                                                  ∃ (n8 : Int),
                                                                    (List.drop 1
                                                                            (s5.getD
                                                                              (IntKind.i64.wrap (x7 - (1 : Int))).toNat
                                                                              [])).head? =
                                                                        some (PV.int IntKind.i64 n8) ∧
                                                                      idxOK s5 x7 4 ∧
                                                                        ∃ (n9 : Int),
                                                                          (List.drop 0
                                                                                  (s5.getD x7.toNat [])).head? =
                                                                              some (PV.int IntKind.i64 n9) ∧
                                                                            if
                                                                                (IntKind.i64.wrap (n8 + (1 : Int)) ==
                                                                                    n9) =
                                                                                  true then
                                                                              idxOK s5
                                                                                  (IntKind.i64.wrap (x7 - (1 : Int)))
                                                                                  4 ∧
                                                                                ∃ (n10 : Int),
                                                                                  (List.drop 2
                                                                                          (s5.getD
                                                                                            (IntKind.i64.wrap
                                                                                                (x7 - (1 : Int))).toNat
                                                                                            [])).head? =
                                                                                      some (PV.int IntKind.i64 n10) ∧
                                                                                    idxOK s5 x7 4 ∧
                                                                                      ∃ (n11 : Int),
                                                                                        (List.drop 2
                                                                                                (s5.getD x7.toNat
                                                                                                  [])).head? =
                                                                                            some
                                                                                              (PV.int IntKind.i64 n11) ∧
                                                                                          if (n10 == n11) = true then
                                                                                            idxOK s5
                                                                                                (IntKind.i64.wrap
                                                                                                  (x7 - (1 : Int)))
                                                                                                4 ∧
                                                                                              ∃ (n12 : Int),
                                                                                                (List.drop 3
                                                                                                        (s5.getD
                                                                                                          (IntKind.i64.wrap
                                                                                                              (x7 -
                                                                                                                (1 :
                                                                                                                  Int))).toNat
                                                                                                          [])).head? =
                                                                                                    some
                                                                                                      (PV.int
                                                                                                        IntKind.i64
                                                                                                        n12) ∧
                                                                                                  idxOK s5 x7
                                                                                                      4 ∧
                                                                                                    ∃ (n13 : Int),
                                                                                                      (List.drop
                                                                                                              (nat_lit
                                                                                                                3)
                                                                                                              (s5.getD
                                                                                                                x7.toNat
                                                                                                                [])).head? =
                                                                                                          some
                                                                                                            (PV.int
                                                                                                              IntKind.i64
                                                                                                              n13) ∧
                                                                                                        if
                                                                                                            (n12 ==
                                                                                                                n13) =
                                                                                                              true then
                                                                                                          R
                                                                                                            (PV.bool
                                                                                                              false)
                                                                                                        else
                                                                                                          idxOK s5 x7
                                                                                                              (nat_lit
                                                                                                                4) ∧
                                                                                                            ∃ (n14 :
                                                                                                              Int),
                                                                                                              (List.drop
                                                                                                                      (nat_lit
                                                                                                                        1)
                                                                                                                      (s5.getD
                                                                                                                        x7.toNat
                                                                                                                        [])).head? =
                                                                                                                  some
                                                                                                                    (PV.int
                                                                                                                      IntKind.i64
                                                                                                                      n14) ∧
                                                                                                                idxOK s5
                                                                                                                    x7
                                                                                                                    (nat_lit
                                                                                                                      4) ∧
                                                                                                                  ∃ (n15
                                                                                                                    :
                                                                                                                    Int),
                                                                                                                    (List.drop
                                                                                                                            (nat_lit
                                                                                                                              0)
                                                                                                                            (s5.getD
                                                                                                                              x7.toNat
                                                                                                                              [])).head? =
                                                                                                                        some
                                                                                                                          (PV.int
                                                                                                                            IntKind.i64
                                                                                                                            n15) ∧
                                                                                                                      SameSt
                                                                                                                          ([(nat_lit
                                                                                                                                  5,
                                                                                                                                LV.pv
                                                                                                                                  (PV.sl
                                                                                                                                    n5
                                                                                                                                    f5
                                                                                                                                    s5)),
                                                                                                                              (nat_lit
                                                                                                                                  6,
                                                                                                                                LV.pv
                                                                                                                                  (PV.int
                                                                                                                                    IntKind.i64
                                                                                                                                    (IntKind.i64.wrap
                                                                                                                                      (IntKind.i64.wrap
                                                                                                                                          (IntKind.i64.wrap
                                                                                                                                              (x6 +
                                                                                                                                                n14) -
                                                                                                                                            n15) +
                                                                                                                                        (1 :
                                                                                                                                          Int))))),
                                                                                                                              (nat_lit
                                                                                                                                  7,
                                                                                                                                LV.pv
                                                                                                                                  (PV.int
                                                                                                                                    IntKind.i64
                                                                                                                                    (IntKind.i64.wrap
                                                                                                                                      (x7 +
                                                                                                                                        (1 :
                                                                                                                                          Int)))))],
                                                                                                                            [])
                                                                                                                          ([(nat_lit
                                                                                                                                  5,
                                                                                                                                LV.pv
                                                                                                                                  (PV.sl
                                                                                                                                    n5
                                                                                                                                    f5
                                                                                                                                    s5)),
                                                                                                                              (nat_lit
                                                                                                                                  6,
                                                                                                                                LV.pv
                                                                                                                                  (PV.int
                                                                                                                                    IntKind.i64
                                                                                                                                    (IntKind.i64.wrap
                                                                                                                                      (IntKind.i64.wrap
                                                                                                                                          (IntKind.i64.wrap
                                                                                                                                              (x6 +
                                                                                                                                                n14) -
                                                                                                                                            n15) +
                                                                                                                                        (1 :
                                                                                                                                          Int))))),
                                                                                                                              (nat_lit
                                                                                                                                  7,
                                                                                                                                LV.pv
                                                                                                                                  (PV.int
                                                                                                                                    IntKind.i64
                                                                                                                                    (IntKind.i64.wrap
                                                                                                                                      (x7 +
                                                                                                                                        (1 :
                                                                                                                                          Int)))))],
                                                                                                                            []) ∧
                                                                                                                        J
                                                                                                                            n5
                                                                                                                            f5
                                                                                                                            s5
                                                                                                                            (IntKind.i64.wrap
                                                                                                                              (IntKind.i64.wrap
                                                                                                                                  (IntKind.i64.wrap
                                                                                                                                      (x6 +
                                                                                                                                        n14) -
                                                                                                                                    n15) +
                                                                                                                                (1 :
                                                                                                                                  Int)))
                                                                                                                            (IntKind.i64.wrap
                                                                                                                              (x7 +
                                                                                                                                (1 :
                                                                                                                                  Int))) ∧
                                                                                                                          μ
                                                                                                                              n5
                                                                                                                              f5
                                                                                                                              s5
                                                                                                                              (IntKind.i64.wrap
                                                                                                                                (IntKind.i64.wrap
                                                                                                                                    (IntKind.i64.wrap
                                                                                                                                        (x6 +
                                                                                                                                          n14) -
                                                                                                                                      n15) +
                                                                                                                                  (1 :
                                                                                                                                    Int)))
                                                                                                                              (IntKind.i64.wrap
                                                                                                                                (x7 +
                                                                                                                                  (1 :
                                                                                                                                    Int))) <
                                                                                                                            μ
                                                                                                                              n5
                                                                                                                              f5
                                                                                                                              s5
                                                                                                                              x6
                                                                                                                              x7
                                                                                          else
                                                                                            idxOK s5 x7 4 ∧
                                                                                              ∃ (n12 : Int),
                                                                                                (List.drop 1
                                                                                                        (s5.getD
                                                                                                          x7.toNat
                                                                                                          [])).head? =
                                                                                                    some
                                                                                                      (PV.int
                                                                                                        IntKind.i64
                                                                                                        n12) ∧
                                                                                                  idxOK s5 x7
                                                                                                      4 ∧
                                                                                                    ∃ (n13 : Int),
                                                                                                      (List.drop
                                                                                                              (nat_lit
                                                                                                                0)
                                                                                                              (s5.getD
                                                                                                                x7.toNat
                                                                                                                [])).head? =
                                                                                                          some
                                                                                                            (PV.int
                                                                                                              IntKind.i64
                                                                                                              n13) ∧
                                                                                                        SameSt
                                                                                                            ([(nat_lit
                                                                                                                    5,
                                                                                                                  LV.pv
                                                                                                                    (PV.sl
                                                                                                                      n5
                                                                                                                      f5
                                                                                                                      s5)),
                                                                                                                (nat_lit
                                                                                                                    6,
                                                                                                                  LV.pv
                                                                                                                    (PV.int
                                                                                                                      IntKind.i64
                                                                                                                      (IntKind.i64.wrap
                                                                                                                        (IntKind.i64.wrap
                                                                                                                            (IntKind.i64.wrap
                                                                                                                                (x6 +
                                                                                                                                  n12) -
                                                                                                                              n13) +
                                                                                                                          (1 :
                                                                                                                            Int))))),
                                                                                                                (nat_lit
                                                                                                                    7,
                                                                                                                  LV.pv
                                                                                                                    (PV.int
                                                                                                                      IntKind.i64
                                                                                                                      (IntKind.i64.wrap
                                                                                                                        (x7 +
                                                                                                                          (1 :
                                                                                                                            Int)))))],
                                                                                                              [])
                                                                                                            ([(nat_lit
                                                                                                                    5,
                                                                                                                  LV.pv
                                                                                                                    (PV.sl
                                                                                                                      n5
                                                                                                                      f5
                                                                                                                      s5)),
                                                                                                                (nat_lit
                                                                                                                    6,
                                                                                                                  LV.pv
                                                                                                                    (PV.int
                                                                                                                      IntKind.i64
                                                                                                                      (IntKind.i64.wrap
                                                                                                                        (IntKind.i64.wrap
                                                                                                                            (IntKind.i64.wrap
                                                                                                                                (x6 +
                                                                                                                                  n12) -
                                                                                                                              n13) +
                                                                                                                          (1 :
                                                                                                                            Int))))),
                                                                                                                (nat_lit
                                                                                                                    7,
                                                                                                                  LV.pv
                                                                                                                    (PV.int
                                                                                                                      IntKind.i64
                                                                                                                      (IntKind.i64.wrap
                                                                                                                        (x7 +
                                                                                                                          (1 :
                                                                                                                            Int)))))],
                                                                                                              []) ∧
                                                                                                          J n5 f5 s5
                                                                                                              (IntKind.i64.wrap
                                                                                                                (IntKind.i64.wrap
                                                                                                                    (IntKind.i64.wrap
                                                                                                                        (x6 +
                                                                                                                          n12) -
                                                                                                                      n13) +
                                                                                                                  (1 :
                                                                                                                    Int)))
                                                                                                              (IntKind.i64.wrap
                                                                                                                (x7 +
                                                                                                                  (1 :
                                                                                                                    Int))) ∧
                                                                                                            μ n5 f5 s5
                                                                                                                (IntKind.i64.wrap
                                                                                                                  (IntKind.i64.wrap
                                                                                                                      (IntKind.i64.wrap
                                                                                                                          (x6 +
                                                                                                                            n12) -
                                                                                                                        n13) +
                                                                                                                    (1 :
                                                                                                                      Int)))
                                                                                                                (IntKind.i64.wrap
                                                                                                                  (x7 +
                                                                                                                    (1 :
                                                                                                                      Int))) <
                                                                                                              μ n5 f5 s5
                                                                                                                x6 x7
                                                                            else
                                                                              idxOK s5 x7 4 ∧
                                                                                ∃ (n12 : Int),
                                                                                  (List.drop 1
                                                                                          (s5.getD x7.toNat [])).head? =
                                                                                      some (PV.int IntKind.i64 n12) ∧
                                                                                    idxOK s5 x7 4 ∧
                                                                                      ∃ (n13 : Int),
                                                                                        (List.drop 0
                                                                                                (s5.getD x7.toNat
                                                                                                  [])).head? =
                                                                                            some
                                                                                              (PV.int IntKind.i64 n13) ∧
                                                                                          SameSt
                                                                                              ([(5,
                                                                                                    LV.pv
                                                                                                      (PV.sl n5 f5 s5)),
                                                                                                  (6,
                                                                                                    LV.pv
                                                                                                      (PV.int
                                                                                                        IntKind.i64
                                                                                                        (IntKind.i64.wrap
                                                                                                          (IntKind.i64.wrap
                                                                                                              (IntKind.i64.wrap
                                                                                                                  (x6 +
                                                                                                                    n12) -
                                                                                                                n13) +
                                                                                                            (1 :
                                                                                                              Int))))),
                                                                                                  (7,
                                                                                                    LV.pv
                                                                                                      (PV.int
                                                                                                        IntKind.i64
                                                                                                        (IntKind.i64.wrap
                                                                                                          (x7 +
                                                                                                            (1 :
                                                                                                              Int)))))],
                                                                                                [])
                                                                                              ([(5,
                                                                                                    LV.pv
                                                                                                      (PV.sl n5 f5 s5)),
                                                                                                  (6,
                                                                                                    LV.pv
                                                                                                      (PV.int
                                                                                                        IntKind.i64
                                                                                                        (IntKind.i64.wrap
                                                                                                          (IntKind.i64.wrap
                                                                                                              (IntKind.i64.wrap
                                                                                                                  (x6 +
                                                                                                                    n12) -
                                                                                                                n13) +
                                                                                                            (1 :
                                                                                                              Int))))),
                                                                                                  (7,
                                                                                                    LV.pv
                                                                                                      (PV.int
                                                                                                        IntKind.i64
                                                                                                        (IntKind.i64.wrap
                                                                                                          (x7 +
                                                                                                            (1 :
                                                                                                              Int)))))],
                                                                                                []) ∧
                                                                                            J n5 f5 s5
                                                                                                (IntKind.i64.wrap
                                                                                                  (IntKind.i64.wrap
                                                                                                      (IntKind.i64.wrap
                                                                                                          (x6 + n12) -
                                                                                                        n13) +
                                                                                                    (1 : Int)))
                                                                                                (IntKind.i64.wrap
                                                                                                  (x7 + (1 : Int))) ∧
                                                                                              μ n5 f5 s5
                                                                                                  (IntKind.i64.wrap
                                                                                                    (IntKind.i64.wrap
                                                                                                        (IntKind.i64.wrap
                                                                                                            (x6 + n12) -
                                                                                                          n13) +
                                                                                                      (1 : Int)))
                                                                                                  (IntKind.i64.wrap
                                                                                                    (x7 + (1 : Int))) <
                                                                                                μ n5 f5 s5 x6 x7
                                                              else
                                                                idxOK s5 x7 4 ∧
                                                                  ∃ (n12 : Int),
                                                                    (List.drop 1
                                                                            (s5.getD x7.toNat [])).head? =
                                                                        some (PV.int IntKind.i64 n12) ∧
                                                                      idxOK s5 x7 4 ∧
                                                                        ∃ (n13 : Int),
                                                                          (List.drop 0
                                                                                  (s5.getD x7.toNat [])).head? =
                                                                              some (PV.int IntKind.i64 n13) ∧
                                                                            SameSt
                                                                                ([(5, LV.pv (PV.sl n5 f5 s5)),
                                                                                    (6,
                                                                                      LV.pv
                                                                                        (PV.int IntKind.i64
                                                                                          (IntKind.i64.wrap
                                                                                            (IntKind.i64.wrap
                                                                                                (IntKind.i64.wrap
                                                                                                    (x6 + n12) -
                                                                                                  n13) +
                                                                                              (1 : Int))))),
                                                                                    (7,
                                                                                      LV.pv
                                                                                        (PV.int IntKind.i64
                                                                                          (IntKind.i64.wrap
                                                                                            (x7 + (1 : Int)))))],
                                                                                  [])
                                                                                ([(5, LV.pv (PV.sl n5 f5 s5)),
                                                                                    (6,
                                                                                      LV.pv
                                                                                        (PV.int IntKind.i64
                                                                                          (IntKind.i64.wrap
                                                                                            (IntKind.i64.wrap
                                                                                                (IntKind.i64.wrap
                                                                                                    (x6 + n12) -
                                                                                                  n13) +
                                                                                              (1 : Int))))),
                                                                                    (7,
                                                                                      LV.pv
                                                                                        (PV.int IntKind.i64
                                                                                          (IntKind.i64.wrap
                                                                                            (x7 + (1 : Int)))))],
                                                                                  []) ∧
                                                                              J n5 f5 s5
                                                                                  (IntKind.i64.wrap
                                                                                    (IntKind.i64.wrap
                                                                                        (IntKind.i64.wrap (x6 + n12) -
                                                                                          n13) +
                                                                                      (1 : Int)))
                                                                                  (IntKind.i64.wrap (x7 + (1 : Int))) ∧
                                                                                μ n5 f5 s5
                                                                                    (IntKind.i64.wrap
                                                                                      (IntKind.i64.wrap
                                                                                          (IntKind.i64.wrap (x6 + n12) -
                                                                                            n13) +
                                                                                        (1 : Int)))
                                                                                    (IntKind.i64.wrap
                                                                                      (x7 + (1 : Int))) <
                                                                                  μ n5 f5 s5 x6 x7
                            else
                              PCall Try.prog 30 [PV.sl n5 f5 s5] fun (v2 : PV) ↦
                                ∃ (n3 : Int),
                                  v2 = PV.int IntKind.i64 n3 ∧
                                    if (n3 == x6) = true then
                                      PCall Try.prog 31 [] fun (v3 : PV) ↦
                                        ∃ (b : Bool), v3 = PV.bool b ∧ R (PV.bool b)
                                    else R (PV.bool false)
theorem e_typebarlaw02_RowsOrder (n f : Bool) (es : List (List PV)) (k : Int) (J : (Bool) → (Bool) → (List (List PV)) → (Int) → (Int) → Prop) (μ : (Bool) → (Bool) → (List (List PV)) → (Int) → (Int) → Nat) (R : PV → Prop) : aFn Try.prog (fun _ => none) Try.f6 [0, 1, 4, 5, 6, 7, 16, 63, 108] (fun zz_ => match zz_ with | 5 => some ⟨Bool × Bool × (List (List PV)) × Int × Int, fun s => (fun (n5 : Bool) (f5 : Bool) (s5 : List (List PV)) (x6 : Int) (x7 : Int) => ([(5, .pv (.sl n5 f5 s5)), (6, .pv (.int IntKind.i64 x6)), (7, .pv (.int IntKind.i64 x7))], [])) s.1 s.2.1 s.2.2.1 s.2.2.2.1 s.2.2.2.2, fun s => J s.1 s.2.1 s.2.2.1 s.2.2.2.1 s.2.2.2.2, fun s => μ s.1 s.2.1 s.2.2.1 s.2.2.2.1 s.2.2.2.2, fun e h => (gN e 5, gF e 5, gS e 5, gI e 6, gI e 7), [], [5, 6, 7], [], fun p => ∀ (n5 : Bool) (f5 : Bool) (s5 : List (List PV)) (x6 : Int) (x7 : Int), p (n5, f5, s5, x6, x7), fun p h s => h s.1 s.2.1 s.2.2.1 s.2.2.2.1 s.2.2.2.2⟩ | _ => none) (Try.f6.body.getD .skip) [.sl n f es, .int .i64 k] R = r_typebarlaw02_RowsOrder n f es k J μ R := by kernel_rfl
theorem a_typebarlaw02_RowsOrder (n f : Bool) (es : List (List PV)) (k : Int) (J : (Bool) → (Bool) → (List (List PV)) → (Int) → (Int) → Prop) (μ : (Bool) → (Bool) → (List (List PV)) → (Int) → (Int) → Nat) {R : PV → Prop} (h : r_typebarlaw02_RowsOrder n f es k J μ R) : PCall Try.prog 6 [.sl n f es, .int .i64 k] R :=
  PCall.of Try.func6 (by kernel_rfl) (by kernel_rfl) (Nat.le_of_ble_eq_true (by kernel_rfl)) (Eq.mpr (e_typebarlaw02_RowsOrder n f es k J μ R) h)

def r_typebarlaw02_awake  (R : PV → Prop) : Prop :=

  PCall Try.prog 29
    [PV.sl false true
        [[PV.int IntKind.i64 (1 : Int), PV.int IntKind.i64 (5 : Int), PV.int IntKind.i64 (9 : Int),
            PV.int IntKind.i64 (7 : Int), PV.int IntKind.i64 (0 : Int)],
          [PV.int IntKind.i64 (1 : Int), PV.int IntKind.i64 (8 : Int), PV.int IntKind.i64 (12 : Int),
            PV.int IntKind.i64 (8 : Int), PV.int IntKind.i64 (0 : Int)]],
      PV.int IntKind.i64 (1 : Int)]
    fun (v : PV) ↦
    ∃ (n : Bool),
      ∃ (f : Bool),
        ∃ (es : List (List PV)),
          v = PV.sl n f es ∧
            if ((↑es.length : Int) == (2 : Int)) = true then
              idxOK es (0 : Int) 4 ∧
                ∃ (n1 : Int),
                  (es.getD 0 []).head? = some (PV.int IntKind.i64 n1) ∧
                    ∃ (n2 : Int),
                      (es.getD 0 []).tail.head? = some (PV.int IntKind.i64 n2) ∧
                        ∃ (n3 : Int),
                          (es.getD 0 []).tail.tail.head? = some (PV.int IntKind.i64 n3) ∧
                            ∃ (n4 : Int),
                              (es.getD 0 []).tail.tail.tail.head? = some (PV.int IntKind.i64 n4) ∧
                                if
                                    (bif true then
                                        n1 == (5 : Int) &&
                                          (n2 == (9 : Int) && (n3 == (7 : Int) && (n4 == (0 : Int) && true)))
                                      else
                                        !(n1 == (5 : Int) &&
                                            (n2 == (9 : Int) && (n3 == (7 : Int) && (n4 == (0 : Int) && true))))) =
                                      true then
                                  idxOK es (1 : Int) 4 ∧
                                    ∃ (n5 : Int),
                                      (es.getD 1 []).head? = some (PV.int IntKind.i64 n5) ∧
                                        ∃ (n6 : Int),
                                          (es.getD 1 []).tail.head? = some (PV.int IntKind.i64 n6) ∧
                                            ∃ (n7 : Int),
                                              (es.getD 1 []).tail.tail.head? = some (PV.int IntKind.i64 n7) ∧
                                                ∃ (n8 : Int),
                                                  (es.getD 1 []).tail.tail.tail.head? =
                                                      some (PV.int IntKind.i64 n8) ∧
                                                    R
                                                      (PV.bool
                                                        (bif true then
                                                          n5 == (10 : Int) &&
                                                            (n6 == (12 : Int) &&
                                                              (n7 == (8 : Int) && (n8 == (0 : Int) && true)))
                                                        else
                                                          !(n5 == (10 : Int) &&
                                                              (n6 == (12 : Int) &&
                                                                (n7 == (8 : Int) && (n8 == (0 : Int) && true))))))
                                else R (PV.bool false)
            else R (PV.bool false)
theorem e_typebarlaw02_awake  (R : PV → Prop) : aFn Try.prog (fun _ => none) Try.f31 [0, 1] (fun _ => none) (Try.f31.body.getD .skip) [] R = r_typebarlaw02_awake  R := by kernel_rfl
theorem a_typebarlaw02_awake  {R : PV → Prop} (h : r_typebarlaw02_awake  R) : PCall Try.prog 31 [] R :=
  PCall.of Try.func31 (by kernel_rfl) (by kernel_rfl) (Nat.le_of_ble_eq_true (by kernel_rfl)) (Eq.mpr (e_typebarlaw02_awake  R) h)

end Go.Eng
namespace Go.Eng.Rows
/-- A row of the table, a span of a kind. -/
structure Row where
  kind : Int
  fr : Int
  to : Int
  a : Int
  b : Int
deriving DecidableEq
structure Sp where
  fr : Int
  to : Int
  a : Int
  b : Int
deriving DecidableEq, Inhabited
def Sp.has (x : Sp) (r : Int) : Prop := x.fr ≤ r ∧ r ≤ x.to
/-- What of a span no other one has. -/
def restL : List Sp → Sp → List Sp
  | [], s => if s.fr ≤ s.to then [s] else []
  | x :: xs, s => if x.to < s.fr then restL xs s else if s.to < x.fr then restL xs s else
    if s.fr < x.fr then { s with to := x.fr - 1 } :: restL xs { s with fr := x.to + 1 } else restL xs { s with fr := x.to + 1 }
/-- Spans in order. -/
def Rise (l : List Sp) : Prop := l.Pairwise fun x y => x.to < y.fr
def In (l : List Sp) : Prop := ∀ x ∈ l, 0 ≤ x.fr ∧ x.fr ≤ x.to ∧ x.to ≤ 1114111
def Good (l : List Sp) : Prop := Rise l ∧ In l
def Apart (x y : Sp) : Prop := x.to < y.fr ∨ y.to < x.fr
def Has (l : List Sp) (r a b : Int) : Prop := ∃ x ∈ l, x.has r ∧ x.a = a ∧ x.b = b
theorem Rise.apart {l : List Sp} (h : Rise l) : l.Pairwise Apart := h.imp fun h => .inl h
theorem restL_in {l : List Sp} {s : Sp} (hl : Good l) : ∀ y ∈ restL l s, s.fr ≤ y.fr ∧ y.fr ≤ y.to ∧ y.to ≤ s.to ∧ y.a = s.a ∧ y.b = s.b := by
  obtain ⟨h1, h2⟩ := hl
  induction l generalizing s with
  | nil =>
    intro y hy
    simp only [restL] at hy
    split at hy
    · simp only [List.mem_singleton] at hy; subst hy; refine ⟨by omega, by omega, by omega, rfl, rfl⟩
    · cases hy
  | cons x xs ih =>
    have hx := h2 x (List.mem_cons_self)
    have ih := fun s => ih (s := s) (List.Pairwise.of_cons h1) (fun y hy => h2 y (List.mem_cons_of_mem _ hy))
    intro y hy
    simp only [restL] at hy
    split at hy
    · exact ih s y hy
    · split at hy
      · exact ih s y hy
      · split at hy
        · rcases List.mem_cons.1 hy with e | hy
          · subst e; exact ⟨Int.le_refl _, by show s.fr ≤ x.fr - 1; omega, by show x.fr - 1 ≤ s.to; omega, rfl, rfl⟩
          · have := ih _ y hy
            refine ⟨by have := this.1; simp only at this; omega, this.2.1, this.2.2.1, this.2.2.2.1, this.2.2.2.2⟩
        · have := ih _ y hy
          refine ⟨by have := this.1; simp only at this; omega, this.2.1, this.2.2.1, this.2.2.2.1, this.2.2.2.2⟩
theorem restL_has {l : List Sp} {s : Sp} (hl : Good l) (r : Int) : (∃ y ∈ restL l s, y.has r) ↔ s.has r ∧ ∀ x ∈ l, ¬ x.has r := by
  obtain ⟨h1, h2⟩ := hl
  induction l generalizing s with
  | nil =>
    simp only [restL]
    split
    · simp
    · simp [Sp.has]; omega
  | cons x xs ih =>
    have hx := h2 x (List.mem_cons_self)
    have hrise : ∀ {y}, y ∈ xs → x.to < y.fr := fun hy => List.rel_of_pairwise_cons h1 hy
    have ih := fun s => ih (s := s) (List.Pairwise.of_cons h1) (fun y hy => h2 y (List.mem_cons_of_mem _ hy))
    simp only [restL, List.forall_mem_cons]
    split
    · rw [ih s]; simp only [Sp.has]
      exact ⟨fun ⟨a, b⟩ => ⟨a, by omega, b⟩, fun ⟨a, _, b⟩ => ⟨a, b⟩⟩
    · split
      · rw [ih s]; simp only [Sp.has]
        exact ⟨fun ⟨a, b⟩ => ⟨a, by omega, b⟩, fun ⟨a, _, b⟩ => ⟨a, b⟩⟩
      · split
        · rw [show (∃ y ∈ { s with to := x.fr - 1 } :: restL xs { s with fr := x.to + 1 }, y.has r) ↔ (Sp.has { s with to := x.fr - 1 } r ∨ ∃ y ∈ restL xs { s with fr := x.to + 1 }, y.has r) by simp, ih]
          simp only [Sp.has]
          constructor
          · rintro (⟨a, b⟩ | ⟨⟨a, b⟩, c⟩)
            · refine ⟨⟨a, by omega⟩, by omega, fun y hy => ?_⟩
              have := hrise hy; omega
            · exact ⟨⟨by omega, b⟩, by omega, c⟩
          · rintro ⟨⟨a, b⟩, c, d⟩
            by_cases h : r ≤ x.fr - 1
            · exact .inl ⟨a, h⟩
            · exact .inr ⟨⟨by omega, b⟩, d⟩
        · rw [ih]
          simp only [Sp.has]
          constructor
          · rintro ⟨⟨a, b⟩, c⟩
            exact ⟨⟨by omega, b⟩, by omega, c⟩
          · rintro ⟨⟨a, b⟩, c, d⟩
            exact ⟨⟨by omega, b⟩, d⟩
theorem restL_rise {l : List Sp} {s : Sp} (hl : Good l) : Rise (restL l s) := by
  obtain ⟨h1, h2⟩ := hl
  induction l generalizing s with
  | nil => simp only [restL, Rise]; split <;> simp
  | cons x xs ih =>
    have hx := h2 x (List.mem_cons_self)
    have hg : Good xs := ⟨List.Pairwise.of_cons h1, fun y hy => h2 y (List.mem_cons_of_mem _ hy)⟩
    have ih := fun s => ih (s := s) hg.1 hg.2
    simp only [restL]
    split
    · exact ih s
    · split
      · exact ih s
      · split
        · refine List.pairwise_cons.2 ⟨fun y hy => ?_, ih _⟩
          have := (restL_in hg y hy).1
          simp only at this ⊢; omega
        · exact ih _
theorem restL_len (l : List Sp) (s : Sp) : (restL l s).length ≤ l.length + 1 := by
  induction l generalizing s with
  | nil => simp only [restL]; split <;> simp
  | cons x xs ih =>
    simp only [restL]
    split
    · have := ih s; simp; omega
    · split
      · have := ih s; simp; omega
      · split
        · have := ih { s with fr := x.to + 1 }; simp; omega
        · have := ih { s with fr := x.to + 1 }; simp; omega
/-- Spans that rise are not many. -/
theorem Good.len_aux {l : List Sp} (h : Good l) : ∀ c : Int, 0 ≤ c → (∀ x ∈ l, c ≤ x.fr) → c ≤ 1114112 → (l.length : Int) ≤ 1114112 - c := by
  obtain ⟨h1, h2⟩ := h
  induction l with
  | nil => intro c h0 hc h; simp; omega
  | cons x xs ih =>
    intro c h0 hc hm
    have hx := h2 x (List.mem_cons_self)
    have hcx := hc x (List.mem_cons_self)
    have := ih (List.Pairwise.of_cons h1) (fun y hy => h2 y (List.mem_cons_of_mem _ hy)) (x.to + 1) (by omega) (fun y hy => by have := List.rel_of_pairwise_cons h1 hy; omega) (by omega)
    simp only [List.length_cons]
    omega
theorem Good.len {l : List Sp} (h : Good l) : l.length ≤ 1114112 := by
  have := h.len_aux 0 (Int.le_refl _) (fun x hx => (h.2 x hx).1) (by omega)
  omega
/-- The spans with one that came, in order. -/
theorem good_more {l t : List Sp} {s : Sp} (hl : Good l) (h0 : 0 ≤ s.fr) (h1 : s.to ≤ 1114111) (hp : t.Perm (l ++ restL l s)) (hs : t.Pairwise fun x y => ¬ y.fr < x.fr) : Good t := by
  have hin : In (l ++ restL l s) := fun x hx => by
    rcases List.mem_append.1 hx with hx | hx
    · exact hl.2 x hx
    · have := restL_in hl x hx; omega
  have hap : (l ++ restL l s).Pairwise Apart := by
    refine List.pairwise_append.2 ⟨hl.1.apart, (restL_rise hl).apart, fun x hx y hy => ?_⟩
    have hy2 := restL_in hl y hy
    have hx2 := hl.2 x hx
    by_cases h : x.to < y.fr
    · exact .inl h
    · by_cases h' : y.to < x.fr
      · exact .inr h'
      · exfalso
        have hh := ((restL_has hl (if x.fr ≤ y.fr then y.fr else x.fr)).1 ⟨y, hy, by unfold Sp.has; split <;> omega⟩).2 x hx
        apply hh
        unfold Sp.has
        split <;> omega
  have hap2 : t.Pairwise Apart := (hp.pairwise_iff (fun h => h.symm)).2 hap
  have hin2 : In t := fun x hx => hin x (hp.mem_iff.1 hx)
  refine ⟨?_, hin2⟩
  have := (List.Pairwise.and hap2 hs)
  refine List.Pairwise.imp_of_mem (fun {x y} hx hy h => ?_) this
  have hx := hin2 x hx
  have hy := hin2 y hy
  rcases h.1 with h' | h'
  · exact h'
  · have := h.2; omega
theorem has_more {l t : List Sp} {s : Sp} (hl : Good l) (hp : t.Perm (l ++ restL l s)) (r a b : Int) : Has t r a b ↔ Has l r a b ∨ (s.has r ∧ s.a = a ∧ s.b = b ∧ ∀ x ∈ l, ¬ x.has r) := by
  unfold Has
  simp only [hp.mem_iff, List.mem_append]
  constructor
  · rintro ⟨x, hx | hx, h1, h2, h3⟩
    · exact .inl ⟨x, hx, h1, h2, h3⟩
    · have h4 := restL_in hl x hx
      have h5 := (restL_has hl r).1 ⟨x, hx, h1⟩
      exact .inr ⟨h5.1, by omega, by omega, h5.2⟩
  · rintro (⟨x, hx, h⟩ | ⟨h1, h2, h3, h4⟩)
    · exact ⟨x, .inl hx, h⟩
    · obtain ⟨y, hy, h⟩ := (restL_has hl r).2 ⟨h1, h4⟩
      have h5 := restL_in hl y hy
      exact ⟨y, .inr hy, h, by omega, by omega⟩
/-- The order of spans is one. -/
theorem perm_sorted_eq : ∀ {t u : List Sp}, t.Perm u → Good t → Good u → t = u
  | [], u, hp, _, _ => by simp at hp; exact hp.symm
  | x :: t, [], hp, _, _ => by simp at hp
  | x :: t, y :: u, hp, ht, hu => by
    have hxy : x = y := by
      have hx : x ∈ y :: u := hp.mem_iff.1 List.mem_cons_self
      have hy : y ∈ x :: t := hp.mem_iff.2 List.mem_cons_self
      rcases List.mem_cons.1 hx with e | hx
      · exact e
      · rcases List.mem_cons.1 hy with e | hy
        · exact e.symm
        · have h1 := List.rel_of_pairwise_cons hu.1 hx
          have h2 := List.rel_of_pairwise_cons ht.1 hy
          have h3 := ht.2 x List.mem_cons_self
          have h4 := hu.2 y List.mem_cons_self
          omega
    subst hxy
    have hp' : t.Perm u := hp.cons_inv
    rw [perm_sorted_eq hp' ⟨List.Pairwise.of_cons ht.1, fun z hz => ht.2 z (List.mem_cons_of_mem _ hz)⟩ ⟨List.Pairwise.of_cons hu.1, fun z hz => hu.2 z (List.mem_cons_of_mem _ hz)⟩]
/-- Two lists of spans joined where they meet. -/
def joinS (acc : List Sp) (x : Sp) : List Sp :=
  match acc.getLast? with
  | some y => if y.to + 1 = x.fr ∧ y.a = x.a ∧ y.b = x.b then acc.dropLast ++ [{ y with to := x.to }] else acc ++ [x]
  | none => acc ++ [x]
def joinL (l : List Sp) : List Sp := l.foldl joinS []
/-- None that meet are the same. -/
def Split (l : List Sp) : Prop := ∀ (i : Nat) (h : i + 1 < l.length), ¬ (l[i].to + 1 = l[i+1].fr ∧ l[i].a = l[i+1].a ∧ l[i].b = l[i+1].b)
theorem Split.append {l : List Sp} {x : Sp} (h : Split l) (hl : ∀ y, l.getLast? = some y → ¬ (y.to + 1 = x.fr ∧ y.a = x.a ∧ y.b = x.b)) : Split (l ++ [x]) := by
  intro i hi
  simp only [List.length_append, List.length_cons, List.length_nil] at hi
  by_cases h1 : i + 1 < l.length
  · have := h i h1
    rw [List.getElem_append_left (by omega), List.getElem_append_left h1]
    exact this
  · have e : i + 1 = l.length := by omega
    have := hl l[i] (by rw [List.getLast?_eq_getElem?, List.getElem?_eq_getElem (by omega)]; congr 2; omega)
    rw [List.getElem_append_left (by omega), List.getElem_append_right (by omega)]
    simpa using this
theorem split_snoc {l : List Sp} {y z : Sp} (h : Split (l ++ [y])) (h1 : z.fr = y.fr) (h2 : z.a = y.a) (h3 : z.b = y.b) : Split (l ++ [z]) := by
  refine Split.append (fun i hi => ?_) fun u hu => ?_
  · have := h i (by simp; omega)
    rw [List.getElem_append_left (by omega), List.getElem_append_left hi] at this
    exact this
  · have hlen : 0 < l.length := by cases l with | nil => simp at hu | cons => simp
    have := h (l.length - 1) (by simp; omega)
    rw [List.getElem_append_left (by omega), List.getElem_append_right (by omega)] at this
    rw [List.getLast?_eq_getElem?, List.getElem?_eq_getElem (by omega)] at hu
    cases hu
    simpa [h1, h2, h3] using this
theorem snoc_of {l : List Sp} {y : Sp} (h : l.getLast? = some y) : ∃ k, l = k ++ [y] := by
  refine ⟨l.dropLast, ?_⟩
  have hne : l ≠ [] := by rintro rfl; simp at h
  rw [List.getLast?_eq_some_getLast hne] at h
  cases h
  exact (List.dropLast_concat_getLast hne).symm
theorem joinS_len (acc : List Sp) (x : Sp) : (joinS acc x).length ≤ acc.length + 1 := by
  unfold joinS
  split
  · split <;> simp <;> omega
  · simp
/-- One more. -/
theorem joinS_ok {acc : List Sp} {x : Sp} (hg : Good (acc ++ [x])) (hs : Split acc) : Good (joinS acc x) ∧ Split (joinS acc x) ∧ (∀ r a b, Has (joinS acc x) r a b ↔ Has (acc ++ [x]) r a b) ∧ (∀ y, (joinS acc x).getLast? = some y → y.to = x.to) := by
  unfold joinS
  split
  next y hy =>
    obtain ⟨k, rfl⟩ := snoc_of hy
    split
    next h =>
      obtain ⟨h1, h2, h3⟩ := h
      rw [List.dropLast_concat]
      obtain ⟨g1, g2⟩ := hg
      have hy2 := g2 y (by simp)
      have hx2 := g2 x (by simp)
      refine ⟨⟨?_, fun z hz => ?_⟩, split_snoc hs rfl rfl rfl, fun r a b => ?_, fun z hz => by simp at hz; subst hz; rfl⟩
      · have g3 := (List.pairwise_append.1 g1).1
        have g4 := List.pairwise_append.1 g3
        refine List.pairwise_append.2 ⟨g4.1, by simp, fun u hu v hv => ?_⟩
        simp only [List.mem_singleton] at hv
        subst hv
        exact g4.2.2 u hu y (by simp)
      · rcases List.mem_append.1 hz with hz | hz
        · exact g2 z (by simp [hz])
        · simp only [List.mem_singleton] at hz; subst hz; exact ⟨hy2.1, by show y.fr ≤ x.to; omega, hx2.2.2⟩
      · simp only [Has, List.mem_append, List.mem_singleton, Sp.has]
        constructor
        · rintro ⟨z, hz | rfl, h⟩
          · exact ⟨z, .inl (.inl hz), h⟩
          · obtain ⟨⟨e1, e2⟩, e3, e4⟩ := h
            simp only at e1 e2 e3 e4
            by_cases hr : r ≤ y.to
            · exact ⟨y, .inl (.inr rfl), ⟨e1, hr⟩, e3, e4⟩
            · exact ⟨x, .inr rfl, ⟨by omega, e2⟩, by omega, by omega⟩
        · rintro ⟨z, (hz | rfl) | rfl, ⟨e1, e2⟩, e3, e4⟩
          · exact ⟨z, .inl hz, ⟨e1, e2⟩, e3, e4⟩
          · exact ⟨_, .inr rfl, ⟨e1, by show r ≤ x.to; omega⟩, e3, e4⟩
          · exact ⟨_, .inr rfl, ⟨by show y.fr ≤ r; omega, e2⟩, by show y.a = a; omega, by show y.b = b; omega⟩
    next h =>
      refine ⟨hg, hs.append fun z hz => ?_, fun r a b => Iff.rfl, fun z hz => by simp at hz; subst hz; rfl⟩
      rw [hy] at hz; cases hz; exact h
  next hy =>
    refine ⟨hg, hs.append fun z hz => ?_, fun r a b => Iff.rfl, fun z hz => by simp at hz; subst hz; rfl⟩
    rw [hy] at hz; cases hz
theorem joinL_aux {l : List Sp} : ∀ {acc : List Sp}, Good acc → Split acc → Good l → (∀ y, acc.getLast? = some y → ∀ x ∈ l, y.to < x.fr) → Good (l.foldl joinS acc) ∧ Split (l.foldl joinS acc) ∧ ∀ r a b, Has (l.foldl joinS acc) r a b ↔ Has acc r a b ∨ Has l r a b := by
  induction l with
  | nil => intro acc h1 h2 h3 h4; exact ⟨h1, h2, fun r a b => by simp [Has]⟩
  | cons x xs ih =>
    intro acc h1 h2 h3 h4
    have hxs : Good xs := ⟨List.Pairwise.of_cons h3.1, fun z hz => h3.2 z (List.mem_cons_of_mem _ hz)⟩
    have hg : Good (acc ++ [x]) := by
      refine ⟨List.pairwise_append.2 ⟨h1.1, by simp, fun u hu v hv => ?_⟩, fun z hz => ?_⟩
      · simp only [List.mem_singleton] at hv
        subst hv
        have hne : acc ≠ [] := by rintro rfl; simp at hu
        obtain ⟨y, hy⟩ : ∃ y, acc.getLast? = some y := ⟨_, List.getLast?_eq_some_getLast hne⟩
        have h5 := h4 y hy v List.mem_cons_self
        obtain ⟨k, rfl⟩ := snoc_of hy
        rcases List.mem_append.1 hu with hu | hu
        · have := (List.pairwise_append.1 h1.1).2.2 u hu y (by simp)
          have := h1.2 y (by simp)
          omega
        · simp only [List.mem_singleton] at hu; subst hu; exact h5
      · rcases List.mem_append.1 hz with hz | hz
        · exact h1.2 z hz
        · simp only [List.mem_singleton] at hz; subst hz; exact h3.2 z List.mem_cons_self
    obtain ⟨j1, j2, j3, j4⟩ := joinS_ok hg h2
    obtain ⟨k1, k2, k3⟩ := ih j1 j2 hxs (fun y hy z hz => by rw [j4 y hy]; exact List.rel_of_pairwise_cons h3.1 hz)
    refine ⟨k1, k2, fun r a b => ?_⟩
    rw [List.foldl_cons, k3, j3]
    unfold Has
    simp only [List.mem_append, List.mem_cons, List.not_mem_nil, or_false]
    constructor
    · rintro (⟨z, hz | rfl, h⟩ | ⟨z, hz, h⟩)
      · exact .inl ⟨z, hz, h⟩
      · exact .inr ⟨_, .inl rfl, h⟩
      · exact .inr ⟨z, .inr hz, h⟩
    · rintro (⟨z, hz, h⟩ | ⟨z, rfl | hz, h⟩)
      · exact .inl ⟨z, .inl hz, h⟩
      · exact .inl ⟨_, .inr rfl, h⟩
      · exact .inr ⟨z, hz, h⟩
theorem joinL_ok {l : List Sp} (h : Good l) : Good (joinL l) ∧ Split (joinL l) ∧ ∀ r a b, Has (joinL l) r a b ↔ Has l r a b := by
  have := joinL_aux (l := l) (acc := []) ⟨List.Pairwise.nil, fun _ h => by cases h⟩ (fun i hi => by simp at hi) h (by simp)
  refine ⟨this.1, this.2.1, fun r a b => ?_⟩
  rw [joinL, this.2.2]
  simp [Has]
theorem joinS_ne {acc : List Sp} {x : Sp} : joinS acc x ≠ [] := by unfold joinS; split <;> (try split) <;> simp
end Go.Eng.Rows
namespace Go.Eng.Rows
def ins (x : Sp) : List Sp → List Sp
  | [] => [x]
  | y :: l => if y.fr < x.fr then y :: ins x l else x :: y :: l
def isort : List Sp → List Sp
  | [] => []
  | x :: l => ins x (isort l)
theorem ins_perm (x : Sp) (l : List Sp) : (ins x l).Perm (x :: l) := by
  induction l with
  | nil => exact List.Perm.refl _
  | cons y l ih =>
    simp only [ins]
    split
    · exact ((List.Perm.cons y ih).trans (List.Perm.swap x y l))
    · exact List.Perm.refl _
theorem isort_perm (l : List Sp) : (isort l).Perm l := by
  induction l with
  | nil => exact List.Perm.refl _
  | cons x l ih => exact (ins_perm x _).trans (List.Perm.cons x ih)
theorem ins_sorted {x : Sp} {l : List Sp} (h : l.Pairwise fun x y => ¬ y.fr < x.fr) : (ins x l).Pairwise fun x y => ¬ y.fr < x.fr := by
  induction l with
  | nil => simp [ins]
  | cons y l ih =>
    simp only [ins]
    have h1 : ∀ z ∈ l, ¬ z.fr < y.fr := fun z hz => List.rel_of_pairwise_cons h hz
    split
    · refine List.pairwise_cons.2 ⟨fun z hz => ?_, ih (List.Pairwise.of_cons h)⟩
      rcases List.mem_cons.1 ((ins_perm x l).mem_iff.1 hz) with e | hz
      · subst e; omega
      · exact h1 z hz
    · refine List.pairwise_cons.2 ⟨fun z hz => ?_, h⟩
      rcases List.mem_cons.1 hz with e | hz
      · subst e; omega
      · have := h1 z hz; omega
theorem isort_sorted (l : List Sp) : (isort l).Pairwise fun x y => ¬ y.fr < x.fr := by
  induction l with
  | nil => exact List.Pairwise.nil
  | cons x l ih => exact ins_sorted ih
def Row.sp (x : Row) : Sp := ⟨if x.fr < 0 then 0 else x.fr, if 1114111 < x.to then 1114111 else x.to, x.a, x.b⟩
theorem Row.sp_lo (x : Row) : 0 ≤ x.sp.fr := by simp only [Row.sp]; split <;> omega
theorem Row.sp_hi (x : Row) : x.sp.to ≤ 1114111 := by simp only [Row.sp]; split <;> omega
def stepL (k : Int) (l : List Sp) (x : Row) : List Sp := if x.kind = k then isort (l ++ restL l x.sp) else l
def allL (k : Int) (rows : List Row) : List Sp := rows.foldl (stepL k) []
def ofL (k : Int) (rows : List Row) : List Sp := joinL (allL k rows)
def Row.has (x : Row) (k r : Int) : Bool := decide (x.kind = k) && (decide (x.fr ≤ r) && decide (r ≤ x.to))
def first (rows : List Row) (k r : Int) : Option (Int × Int) := (rows.find? fun x => x.has k r).map fun x => (x.a, x.b)
theorem step_good {k : Int} {l : List Sp} (h : Good l) (x : Row) : Good (stepL k l x) := by
  unfold stepL
  split
  · exact good_more h x.sp_lo x.sp_hi (isort_perm _) (isort_sorted _)
  · exact h
theorem step_eq {k : Int} {l t : List Sp} (h : Good l) {x : Row} (hx : x.kind = k) (hp : t.Perm (l ++ restL l x.sp)) (hs : t.Pairwise fun x y => ¬ y.fr < x.fr) : t = stepL k l x := by
  unfold stepL
  rw [if_pos hx]
  exact perm_sorted_eq (hp.trans (isort_perm _).symm) (good_more h x.sp_lo x.sp_hi hp hs) (good_more h x.sp_lo x.sp_hi (isort_perm _) (isort_sorted _))
theorem all_good {k : Int} (rows : List Row) : ∀ {l : List Sp}, Good l → Good (rows.foldl (stepL k) l) := by
  induction rows with
  | nil => intro l h; exact h
  | cons x xs ih => intro l h; exact ih (step_good h x)
theorem allL_good (k : Int) (rows : List Row) : Good (allL k rows) := all_good rows ⟨List.Pairwise.nil, fun _ h => by cases h⟩
theorem allL_snoc (k : Int) (rows : List Row) (x : Row) : allL k (rows ++ [x]) = stepL k (allL k rows) x := by simp [allL]
theorem first_snoc (rows : List Row) (x : Row) (k r : Int) : first (rows ++ [x]) k r = (first rows k r).or (if x.has k r then some (x.a, x.b) else none) := by
  unfold first
  rw [List.find?_append]
  cases h : rows.find? fun x => x.has k r with
  | some y => simp
  | none => simp only [Option.none_or, Option.map_none, List.find?_singleton]; split <;> rfl
theorem allL_has (k : Int) (rows : List Row) (r a b : Int) : Has (allL k rows) r a b ↔ (0 ≤ r ∧ r ≤ 1114111) ∧ first rows k r = some (a, b) := by
  suffices H : ∀ n, ∀ (rows : List Row), rows.length = n → ∀ r a b, Has (allL k rows) r a b ↔ (0 ≤ r ∧ r ≤ 1114111) ∧ first rows k r = some (a, b) from H _ rows rfl r a b
  intro n
  induction n with
  | zero =>
    intro rows h r a b
    have := List.length_eq_zero_iff.1 h
    subst this
    simp [allL, Has, first]
  | succ n ih =>
    intro rows h r a b
    obtain ⟨ys, x, rfl⟩ : ∃ ys x, rows = ys ++ [x] := by
      have hne : rows ≠ [] := by rintro rfl; simp at h
      exact ⟨rows.dropLast, rows.getLast hne, (List.dropLast_concat_getLast hne).symm⟩
    have ih := ih ys (by simpa using h)
    rw [allL_snoc, first_snoc]
    unfold stepL
    split
    next hk =>
      rw [has_more (allL_good k ys) (isort_perm _), ih]
      have hno : (∀ y ∈ allL k ys, ¬ y.has r) ↔ ∀ a b, ¬ Has (allL k ys) r a b := by
        constructor
        · rintro h a b ⟨y, hy, h1, _⟩; exact h y hy h1
        · intro h y hy h1; exact h y.a y.b ⟨y, hy, h1, rfl, rfl⟩
      rw [hno]
      simp only [ih]
      have hsp : x.sp.has r ↔ (0 ≤ r ∧ r ≤ 1114111) ∧ x.has k r = true := by
        simp only [Sp.has, Row.sp, Row.has, Bool.and_eq_true, decide_eq_true_eq, hk, true_and]
        split <;> split <;> omega
      rw [hsp]
      cases hf : first ys k r with
      | some p =>
        simp only [Option.some_or]
        constructor
        · rintro (h | ⟨⟨h1, h2⟩, _, _, h3⟩)
          · exact h
          · exact absurd ⟨h1, rfl⟩ (h3 p.1 p.2)
        · exact fun h => .inl h
      | none =>
        simp only [Option.none_or, reduceCtorEq, and_false, false_or, not_false_eq_true, implies_true, and_true]
        constructor
        · rintro ⟨⟨h1, h2⟩, h3, h4⟩; rw [if_pos h2, ← h3, ← h4]; exact ⟨h1, rfl⟩
        · rintro ⟨h1, h2⟩
          split at h2
          · cases h2; exact ⟨⟨h1, by assumption⟩, rfl, rfl⟩
          · cases h2
    next hk =>
      rw [ih]
      have : x.has k r = false := by simp [Row.has, hk]
      rw [this]
      simp
theorem ofL_good (k : Int) (rows : List Row) : Good (ofL k rows) := (joinL_ok (allL_good k rows)).1
theorem ofL_split (k : Int) (rows : List Row) : Split (ofL k rows) := (joinL_ok (allL_good k rows)).2.1
theorem ofL_has (k : Int) (rows : List Row) (r a b : Int) : Has (ofL k rows) r a b ↔ (0 ≤ r ∧ r ≤ 1114111) ∧ first rows k r = some (a, b) := by
  rw [ofL, (joinL_ok (allL_good k rows)).2.2, allL_has]
example : ofL 1 [⟨1, 5, 9, 7, 0⟩, ⟨1, 8, 12, 8, 0⟩] = [⟨5, 9, 7, 0⟩, ⟨10, 12, 8, 0⟩] := by decide
end Go.Eng.Rows
set_option linter.unusedVariables false
set_option linter.unusedSimpArgs false
namespace Go.Eng
open Go Go.Proofs Go.Shelf Go.Sort
/-- Numbers as cells. -/
def ints64 (l : List Int) : List PV := l.map fun n => .int .i64 n
def vals64 (l : List Int) : List Value := l.map fun n => .int .i64 n
theorem vals_rep {w : World} {I : Nat → Prop} (l : List Int) : Rep w I (.agg (ints64 l)) (.agg (vals64 l).toArray) := by
  refine .agg _ _ (by simp [ints64, vals64]) (fun k v hv => ?_) (fun k v hv => ?_) <;>
  · simp only [ints64, List.getElem?_map] at hv
    cases hq : l[k]? with
    | none => rw [hq] at hv; cases hv
    | some n =>
      rw [hq] at hv; cases hv
      have : (vals64 l).toArray.getD k undef = .int .i64 n := by
        have hk := (List.getElem?_eq_some_iff.1 hq)
        obtain ⟨hk, he⟩ := hk
        simp [vals64, hk, he]
      rw [this]
      first | exact .int _ _ | rfl
theorem rep_ints {w : World} {I : Nat → Prop} {n : Int} {v : Value} (h : Rep w I (.int .i64 n) v) : v = .int .i64 n := by cases h; rfl
/-- A call of numbers alone: the world behind it. -/
theorem PCall.grows {P : Program} {g : Nat} {ps : List PV} {n : Int} (hc : PCall P g ps fun v => v = .int .i64 n) {args : Array Value} (hsz : args.size = ps.length) (hr : ∀ (w : World) (I : Nat → Prop) (i : Nat) p, ps[i]? = some p → Rep w I p (args.getD i undef)) (W : World) :
    Calls P g args W fun e w' => e = .returned (.int .i64 n) ∧ ∃ q os', w' = Sort.grow (W.drewN q) os' := by
  refine (hc.2 W (fun b => b < W.heap.size) (fun _ => ⟨0, 0, 0, 0⟩) args (HRel.nil _ fun b hb => hb) (by simpa using hsz) (fun i v hi => ?_)).mono fun e w' ⟨cv, r, h', I', G', e1, ⟨v, e2, hq⟩, e3, e4, e5⟩ => ?_
  · rw [List.getElem?_map] at hi
    cases hp : ps[i]? with
    | none => rw [hp] at hi; cases hi
    | some p => rw [hp] at hi; cases hi; exact .pv _ _ (hr _ _ i p hp)
  · subst e2; subst hq
    have := e4.int_eq
    subst this
    have e5 := e5.t
    refine ⟨e1, w'.drawn - W.drawn, w'.heap.extract W.heap.size w'.heap.size, ?_⟩
    have hno : ∀ b, ¬ Owns [] (fun _ => (⟨0, 0, 0, 0⟩ : Pl)) b := fun b ⟨o, ob, ho, _⟩ => by simp at ho
    have hh : w'.heap = W.heap ++ w'.heap.extract W.heap.size w'.heap.size := by
      apply Array.ext
      · simp; have := e5.size; omega
      · intro i h1 h2
        by_cases hi : i < W.heap.size
        · have := e5.keep i hi (hno i)
          rw [Array.getElem?_eq_getElem h1, Array.getElem?_eq_getElem hi] at this
          rw [Array.getElem_append_left hi]
          exact Option.some.inj this
        · rw [Array.getElem_append_right (by omega)]
          simp only [Array.getElem_extract]
          congr 1; omega
    have hd : ∀ q, (W.drewN q).heap = W.heap ∧ (W.drewN q).tape = W.tape ∧ (W.drewN q).drawn = W.drawn + q ∧ (W.drewN q).os = W.os ∧ (W.drewN q).output = W.output := fun q => by
      induction q with
      | zero => exact ⟨rfl, rfl, rfl, rfl, rfl⟩
      | succ q ih =>
        obtain ⟨i1, i2, i3, i4, i5⟩ := ih
        exact ⟨i1, i2, by show (W.drewN q).drawn + 1 = _; rw [i3]; omega, i4, i5⟩
    obtain ⟨d1, d2, d3, d4, d5⟩ := hd (w'.drawn - W.drawn)
    have hdr := e5.drawn
    obtain ⟨h1, h2, h3, h4, h5⟩ := w'
    simp only [Sort.grow, World.mk.injEq]
    refine ⟨by rw [d1]; exact hh, by rw [d2]; exact e5.tape, by rw [d3]; simp only at hdr ⊢; omega, by rw [d4]; exact e5.os, by rw [d5]; exact e5.output⟩

theorem vals64_get (l : List Int) (q : Nat) (hq : q < l.length) : (vals64 l)[q]! = .int .i64 (l.getD q 0) := by
  simp [vals64, hq, List.getD]
theorem ints64_get (l : List Int) (q : Nat) (hq : q < l.length) : (ints64 l)[q]? = some (.int .i64 (l.getD q 0)) := by
  simp [ints64, hq, List.getD]
/-- slices.SortFunc, of rows of numbers. -/
theorem sort_ok {P : Program} {ρ : Go.Shelf.Ren} (L : SlLaysF0.n6 P ρ) (hcal : callable P (ρ.f 6)) (k : Nat) (hk0 : k ≠ 0) (aE : ∀ w, (isAgg (ρ.t 24)).run P w = .ok true w) (zE : ∀ w, (Go.sizeOf (ρ.t 24)).run P w = .ok k w) {α : Type} [Inhabited α] (fs : α → List Int) (hk : ∀ x, (fs x).length = k)
    (cf : α → α → Int) (hO : Sort.SWO (ltOf cf)) (g : Nat) (hc : ∀ x y, PCall P g [.agg (ints64 (fs x)), .agg (ints64 (fs y))] fun v => v = .int .i64 (cf x y)) (ty : Nat × Nat) (hty : ty.2 = k) (nl : Bool) (l : List α) (hnl : nl = true → l = []) (hl : l.length < 4611686018427387904) :
    ACall P (ρ.f 6) [.own 0, .pv (.fn g [])] [.sl ty false nl (l.map fun x => ints64 (fs x))] fun r h' => ∃ t : List α, r = .tup [] ∧ h' = [.sl ty false nl (t.map fun x => ints64 (fs x))] ∧ t.Perm l ∧ t.Pairwise (fun a b => ¬ cf b a < 0) := by
  refine ⟨hcal, fun w I G cargs hh hsz hrel => ?_⟩
  simp only [List.length_cons, List.length_nil] at hsz
  have h0 := hrel 0 (.own 0) rfl
  have h1 := hrel 1 (.pv (.fn g [])) rfl
  obtain ⟨v0, v1, rfl⟩ : ∃ v0 v1, cargs = #[v0, v1] := by
    obtain ⟨c⟩ := cargs
    match c, hsz with
    | [a, b], _ => exact ⟨a, b, rfl⟩
  have e0 : (#[v0, v1] : Array Value).getD 0 undef = v0 := rfl
  have e1 : (#[v0, v1] : Array Value).getD 1 undef = v1 := rfl
  rw [e0] at h0
  rw [e1] at h1
  have hv1 : v1 = .func (.func g) #[] #[] := by
    cases h1 with
    | pv _ _ h => cases h with
      | fn f cs vs q1 q2 => have : vs = #[] := Array.eq_empty_of_size_eq_zero (by simpa using q1); rw [this]
  subst hv1
  by_cases hl0 : l = []
  · subst hl0
    obtain ⟨p, cap, rfl⟩ : ∃ p cap, v0 = .slice p 0 cap := by
      cases h0 with
      | ownNil => exact ⟨_, _, rfl⟩
      | own o ty m es ad q0 q1 => simp at q1; obtain ⟨_, _, _, rfl⟩ := q1; exact ⟨_, _, rfl⟩
    refine (AnyF.slices_SortFunc_none L p cap _ w).mono fun e w' ⟨he, hw⟩ => ?_
    subst hw
    exact ⟨_, _, _, I, G, he, ⟨[], rfl, rfl, List.Perm.refl _, List.Pairwise.nil⟩, hh, .tup [] #[] rfl (fun k v hk => by simp at hk), .refl _ _ _ _⟩
  · have hnl' : nl = false := by cases nl with | false => rfl | true => exact absurd (hnl rfl) hl0
    subst hnl'
    have hor := hh.obs 0 _ rfl
    obtain ⟨o1, o2, o3, o4, o5, o6⟩ := hor
    have hlen : 0 < l.length := List.length_pos_iff.2 hl0
    simp only [List.length_map] at o1
    have hcap : (G 0).cap ≠ 0 := by omega
    have hoff := o3 hcap
    obtain ⟨vs, f1, f2, f3⟩ := o6 hcap
    have hs4 : (G 0).sz = k := o4.trans hty
    cases h0 with
    | ownNil o ty m es q1 => simp at q1
    | own o ty' m es ad q0 q1 =>
      simp only [List.getElem?_cons_zero, Option.some.injEq, Ob.sl.injEq] at q1
      obtain ⟨rfl, rfl, _, rfl⟩ := q1
      have had := q0 hcap
      subst had
      rw [hoff]
      have hown : Owns [Ob.sl ty false false (l.map fun x => ints64 (fs x))] G (G 0).blk := ⟨0, _, rfl, ⟨rfl, hcap⟩, rfl⟩
      have hblk := hh.blk_lt hown
      have kpos := Nat.pos_of_ne_zero hk0
      have hdm : ∀ {i q : Nat}, q < k → (i * k + q) / k = i ∧ (i * k + q) % k = q := fun {i q} hq => by
        constructor
        · rw [Nat.mul_comm, Nat.mul_add_div kpos, Nat.div_eq_of_lt hq]; omega
        · rw [Nat.mul_comm, Nat.mul_add_mod, Nat.mod_eq_of_lt hq]
      have hrow : ∀ (d : Array α) (i q : Nat), i < d.size → q < k → (flatK (fun x => vals64 (fs x)) k d)[i * k + q]! = .int .i64 ((fs d[i]!).getD q 0) := fun d i q hi hq => by
        have hlt : i * k + q < d.size * k := by
          have : (i + 1) * k ≤ d.size * k := Nat.mul_le_mul_right _ hi
          rw [Nat.add_mul] at this; omega
        rw [get_flatK _ _ _ _ hlt, (hdm hq).1, (hdm hq).2]
        exact vals64_get _ _ (by rw [hk]; exact hq)
      have hH : HoldsK (fun x => vals64 (fs x)) k w (G 0).blk 0 l.toArray := fun j hj => by
        simp only [size_flatK, List.size_toArray] at hj
        have hi : j / k < l.length := by rw [Nat.div_lt_iff_lt_mul kpos]; exact hj
        have hq : j % k < k := Nat.mod_lt _ kpos
        have hjj : j = j / k * k + j % k := by have := Nat.div_add_mod j k; rw [Nat.mul_comm] at this; omega
        have hlt : j < vs.size := by
          rw [f2, hs4]
          exact Nat.lt_of_lt_of_le hj (Nat.mul_le_mul_right _ o1)
        have hr := f3 (j / k) _ (by simp [hi]) (j % k) _ (ints64_get (fs l[j / k]) (j % k) (by rw [hk]; exact hq))
        rw [hs4, ← hjj] at hr
        have hval := rep_ints hr.1
        refine ⟨?_, ?_⟩
        · have h2 := hrow l.toArray (j / k) (j % k) (by simpa using hi) hq
          rw [← hjj] at h2
          rw [h2, Nat.zero_add, cells_of_row f1 hlt, hval]
          simp [hi]
        · simp [World.frozen?, f1]
      have eg : ∀ args w, (callFunc g args).run P w = .ok (.enter g args) w := fun args w => run_callFunc (hc default default).1
      have hcmp : CmpLays P g #[] (fun x => vals64 (fs x)) k cf (G 0).blk 0 l.toArray.size w := fun m os dk hdk x y => by
        refine PCall.grows (hc x y) rfl (fun w I i p hi => ?_) _
        match i, hi with
        | 0, hi => cases hi; exact vals_rep _
        | 1, hi => cases hi; exact vals_rep _
      have main := AnyQ.slices_SortFunc L k aE zE (fun x => vals64 (fs x)) (fun x => by simp [vals64, hk]) (fun x v hv => by simp only [vals64, List.mem_map] at hv; obtain ⟨n, _, rfl⟩ := hv; rfl) cf hO g #[] (G 0).blk 0 (G 0).cap l.toArray w eg hcmp hH hblk (by simpa using hl)
      have e3 : l.toArray.size = (l.map fun x => ints64 (fs x)).length := by simp
      rw [e3] at main
      refine main.mono fun e w' ⟨he, d', n, os, hp, hs, hw⟩ => ?_
      subst hw
      have hds : d'.size = l.length := by rw [hp.1]; simp
      have hperm : d'.toList.Perm l := by
        have := hp.2.2
        simp only [List.length_map] at this
        rw [show d'.extract 0 l.length = d' by rw [← hds]; simp] at this
        simpa using this
      have hbl : (sortWorldK (fun x => vals64 (fs x)) k w (G 0).blk 0 n d' os).heap[(G 0).blk]? = some (.cells (putCells id 0 (flatK (fun x => vals64 (fs x)) k d') vs) ty.1 (0, 0)) := by
        unfold sortWorldK putRowK putRow
        rw [Sort.heap_grow_old _ _ (by simpa [Sort.mapBlock, Sort.ahead] using hblk)]
        simp only [Sort.mapBlock, Sort.ahead, Array.getElem?_modify, if_true, f1]
        rfl
      have hother : ∀ b, b < w.heap.size → b ≠ (G 0).blk → (sortWorldK (fun x => vals64 (fs x)) k w (G 0).blk 0 n d' os).heap[b]? = w.heap[b]? := fun b hb hne => by
        unfold sortWorldK putRowK putRow
        rw [Sort.heap_grow_old _ _ (by simpa [Sort.mapBlock, Sort.ahead] using hb)]
        simp only [Sort.mapBlock, Sort.ahead, Array.getElem?_modify]
        rw [if_neg (fun e => hne e.symm)]
      have hsize : w.heap.size ≤ (sortWorldK (fun x => vals64 (fs x)) k w (G 0).blk 0 n d' os).heap.size := by
        unfold sortWorldK putRowK putRow
        rw [Sort.size_grow]
        simp [Sort.mapBlock, Sort.ahead]
      have hkeep : Keeps w I (sortWorldK (fun x => vals64 (fs x)) k w (G 0).blk 0 n d' os) I := ⟨fun b hb hbs => hother b hbs (fun e => hh.nI 0 _ rfl ⟨rfl, hcap⟩ (e ▸ hb)), fun _ x _ => x⟩
      refine ⟨_, _, _, I, G, he, ⟨d'.toList, rfl, rfl, hperm, ?_⟩, ⟨fun o ob ho => ?_, fun o o' ob ob' ho _ ho' _ _ => ?_, fun o ob ho ha => ?_, fun b hb => Nat.lt_of_lt_of_le (hh.cl b hb) hsize⟩, .tup [] #[] rfl (fun k v hk => by simp at hk), ⟨⟨rfl, rfl, rfl, hsize, fun b hb hn => hother b hb (fun e => hn (e ▸ hown)), fun _ x => x, fun _ x => .inl x, fun b ⟨o, ob, ho, ha, hb⟩ => .inl ?_, fun a ha => ?_, Nat.le_add_right _ _⟩, Nat.le_refl _, fun o ob' ho hx hf => ?_⟩⟩
      · rw [List.pairwise_iff_getElem]
        intro i j hi hj hij
        have := hs i j (Nat.zero_le _) hij (by simp at hj ⊢; omega)
        simp only [ltOf, decide_eq_false_iff_not] at this
        simp only [Array.length_toList] at hi hj
        simpa [hi, hj] using this
      · cases o with
        | succ o => simp at ho
        | zero =>
          simp only [List.getElem?_cons_zero, Option.some.injEq] at ho
          subst ho
          refine ⟨by simp; omega, o2, fun _ => hoff, o4, fun i e he => ?_, fun _ => ⟨_, hbl, by simp [putCells, f2], fun i e he q v hv => ?_⟩⟩
          · rw [List.getElem?_map] at he
            cases hq : d'.toList[i]? with
            | none => rw [hq] at he; cases he
            | some x => rw [hq] at he; cases he; simp [ints64, hk, hs4]
          · rw [List.getElem?_map] at he
            cases hq : d'.toList[i]? with
            | none => rw [hq] at he; cases he
            | some x =>
              rw [hq] at he
              simp only [Option.map_some, Option.some.injEq] at he
              subst he
              have hi := (List.getElem?_eq_some_iff.1 hq)
              obtain ⟨hi, hix⟩ := hi
              simp only [Array.length_toList] at hi
              have hqk : q < k := by have := (List.getElem?_eq_some_iff.1 hv).1; simpa [ints64, hk] using this
              rw [ints64_get _ _ (by rw [hk]; exact hqk)] at hv
              cases hv
              have hlt : i * k + q < vs.size := by
                rw [f2, hs4]
                have h1 : (i + 1) * k ≤ (G 0).cap * k := Nat.mul_le_mul_right _ (by omega)
                rw [Nat.add_mul] at h1; omega
              have hlt2 : i * k + q < d'.size * k := by
                have h1 : (i + 1) * k ≤ d'.size * k := Nat.mul_le_mul_right _ hi
                rw [Nat.add_mul] at h1; omega
              have : (putCells id 0 (flatK (fun x => vals64 (fs x)) k d') vs).getD (i * (G 0).sz + q) undef = .int .i64 ((fs x).getD q 0) := by
                rw [hs4]
                have h2 := hrow d' i q hi hqk
                have h3 : d'[i]! = x := by rw [← hix]; simp [hi]
                rw [h3] at h2
                simp only [putCells, Array.getD_eq_getD_getElem?, Array.getElem?_mapIdx, Array.getElem?_eq_getElem hlt, Option.map_some, Option.getD_some, Nat.sub_zero, size_flatK, Nat.zero_add]
                rw [if_pos ⟨Nat.zero_le _, hlt2⟩]
                exact h2
              rw [this]
              exact ⟨.int _ _, rfl⟩
      · cases o with
        | succ o => simp at ho
        | zero => cases o' with
          | succ o' => simp at ho'
          | zero => rfl
      · cases o with
        | succ o => simp at ho
        | zero => exact hh.nI 0 _ rfl ⟨rfl, hcap⟩
      · cases o with
        | succ o => simp at ho
        | zero => exact hb ▸ hown
      · unfold sortWorldK putRowK
        rw [Sort.frozen?_grow _ _ _ (by simpa [putRow, Sort.mapBlock, Sort.ahead] using ha), Sort.frozen?_putRow]
        rfl
      · cases o with
        | succ o => simp at ho
        | zero => exact ⟨rfl, _, rfl, rfl⟩
end Go.Eng
/-
  DERIVED: THE SHELF's CONTRACTS AT THIS DUMP, IN PLAIN WORDS (tools/lay-plain.mjs out of 'Sspan.lean', which tools/lay-shelf.mjs wrote): THE SAME DECLARATIONS UNDER THE SAME NAMES: 'import', 'namespace', 'open', 'def', 'theorem' AND NOTHING ELSE: no command of the shelf's: FOR A HAND-IN. Each laying: the table of numbers ('.._ren') and one theorem, a field a fact of the dump's own or the kernel's comparison; each contract: ONE APPLICATION.
-/
namespace Go.Proofs
open Go.Shelf
def Try.sortSpan_ren : Go.Shelf.Ren := ⟨fun | 6 => 63 | 15 => 98 | 14 => 97 | 28 => 126 | 29 => 127 | 20 => 118 | 21 => 119 | 22 => 120 | 23 => 121 | 24 => 122 | 25 => 123 | 26 => 124 | 27 => 125 | 46 => 147 | 47 => 148 | 48 => 149 | 49 => 150 | 50 => 151 | 57 => 165 | n => n, fun | 22 => 59 | 24 => 62 | 25 => 116 | 3 => 3 | 39 => 157 | 0 => 0 | 53 => 207 | 55 => 209 | 4 => 4 | 46 => 201 | 45 => 200 | 50 => 121 | 5 => 5 | 9 => 9 | 66 => 244 | 70 => 248 | 76 => 259 | 77 => 226 | n => n, fun | n => n⟩
theorem Try.sortSpan : Go.Proofs.SlLaysF0.n6 Try.prog Try.sortSpan_ren := {
  mixed := by kernel_rfl
  f6 := ⟨Try.f63.name, by decide, Try.func63.trans (congrArg some (by kernel_rfl))⟩
  f14 := ⟨Try.f97.name, by decide, Try.func97.trans (congrArg some (by kernel_rfl))⟩
  f15 := Try.func98.trans (congrArg some (by kernel_rfl))
  f20 := ⟨Try.f118.name, by decide, Try.func118.trans (congrArg some (by kernel_rfl))⟩
  f21 := ⟨Try.f119.name, by decide, Try.func119.trans (congrArg some (by kernel_rfl))⟩
  f22 := ⟨Try.f120.name, by decide, Try.func120.trans (congrArg some (by kernel_rfl))⟩
  f23 := ⟨Try.f121.name, by decide, Try.func121.trans (congrArg some (by kernel_rfl))⟩
  f24 := ⟨Try.f122.name, by decide, Try.func122.trans (congrArg some (by kernel_rfl))⟩
  f25 := ⟨Try.f123.name, by decide, Try.func123.trans (congrArg some (by kernel_rfl))⟩
  f26 := ⟨Try.f124.name, by decide, Try.func124.trans (congrArg some (by kernel_rfl))⟩
  f27 := ⟨Try.f125.name, by decide, Try.func125.trans (congrArg some (by kernel_rfl))⟩
  f28 := Try.func126.trans (congrArg some (by kernel_rfl))
  f29 := Try.func127.trans (congrArg some (by kernel_rfl))
  f46 := ⟨Try.f147.name, by decide, Try.func147.trans (congrArg some (by kernel_rfl))⟩
  f47 := Try.func148.trans (congrArg some (by kernel_rfl))
  f48 := Try.func149.trans (congrArg some (by kernel_rfl))
  f49 := ⟨Try.f150.name, by decide, Try.func150.trans (congrArg some (by kernel_rfl))⟩
  f50 := ⟨Try.f151.name, by decide, Try.func151.trans (congrArg some (by kernel_rfl))⟩
  f57 := ⟨Try.f165.name, by decide, Try.func165.trans (congrArg some (by kernel_rfl))⟩
  t0 := Try.underlying0
  a0 := Try.isAgg0
  z0 := Try.sizeOf0
  v0 := Try.zeroValue0
  t3 := Try.underlying3
  a3 := Try.isAgg3
  z3 := Try.sizeOf3
  v3 := Try.zeroValue3
  t4 := Try.underlying4
  a4 := Try.isAgg4
  z4 := Try.sizeOf4
  v4 := Try.zeroValue4
  t5 := Try.underlying5
  a5 := Try.isAgg5
  z5 := Try.sizeOf5
  v5 := Try.zeroValue5
  t9 := Try.underlying9
  a9 := Try.isAgg9
  z9 := Try.sizeOf9
  v9 := Try.zeroValue9
  t22 := Try.underlying59
  a22 := Try.isAgg59
  z22 := Try.sizeOf59
  v22 := Try.zeroValue59
  t25 := Try.underlying116
  a25 := Try.isAgg116
  z25 := Try.sizeOf116
  v25 := Try.zeroValue116
  t39 := Try.underlying157
  a39 := Try.isAgg157
  z39 := Try.sizeOf157
  v39 := Try.zeroValue157
  t45 := Try.underlying200
  a45 := Try.isAgg200
  z45 := Try.sizeOf200
  v45 := Try.zeroValue200
  t46 := Try.underlying201
  a46 := Try.isAgg201
  z46 := Try.sizeOf201
  v46 := Try.zeroValue201
  t50 := Try.underlying121
  a50 := Try.isAgg121
  z50 := Try.sizeOf121
  v50 := Try.zeroValue121
  t53 := Try.underlying207
  a53 := Try.isAgg207
  z53 := Try.sizeOf207
  v53 := Try.zeroValue207
  t55 := Try.underlying209
  a55 := Try.isAgg209
  z55 := Try.sizeOf209
  v55 := Try.zeroValue209
  t66 := Try.underlying244
  a66 := Try.isAgg244
  z66 := Try.sizeOf244
  v66 := Try.zeroValue244
  t70 := Try.underlying248
  a70 := Try.isAgg248
  z70 := Try.sizeOf248
  v70 := Try.zeroValue248
  t76 := Try.underlying259
  a76 := Try.isAgg259
  z76 := Try.sizeOf259
  v76 := Try.zeroValue259
  t77 := Try.underlying226
  a77 := Try.isAgg226
  z77 := Try.sizeOf226
  v77 := Try.zeroValue226 }
end Go.Proofs
set_option linter.unusedVariables false
set_option linter.unusedSimpArgs false
namespace Go.Eng
open Go Go.Proofs Go.Eng.Rows
def encS (s : Sp) : List PV := [.int .i64 s.fr, .int .i64 s.to, .int .i64 s.a, .int .i64 s.b]
def encR (x : Row) : List PV := [.int .i64 x.kind, .int .i64 x.fr, .int .i64 x.to, .int .i64 x.a, .int .i64 x.b]
def sps (l : List Sp) : List (List PV) := l.map encS
def rws (l : List Row) : List (List PV) := l.map encR
theorem encS_len (x : Sp) : (encS x).length = 4 := rfl
theorem encR_len (x : Row) : (encR x).length = 5 := rfl
theorem p96 (x : Int) : PCall Try.prog 96 [.int .i64 x] fun v => v = .bool false := by
  refine a_cmp_isNaN_int x ?_; unfold r_cmp_isNaN_int; simp
def cmpS (x y : Int) : Int := if x < y then -1 else if x > y then 1 else 0
theorem p61 (x y : Int) : PCall Try.prog 61 [.int .i64 x, .int .i64 y] fun v => v = .int .i64 (cmpS x y) := by
  refine a_cmp_Compare_int x y ?_; unfold r_cmp_Compare_int
  refine (p96 x).mono ?_; rintro _ rfl
  refine ⟨_, rfl, ?_⟩
  refine (p96 y).mono ?_; rintro _ rfl
  refine ⟨_, rfl, ?_⟩
  simp only [Bool.false_eq_true, if_false, cmpS, decide_eq_true_eq]
  by_cases h : x < y
  · rw [if_pos h, if_pos h]
  · rw [if_neg h, if_neg h]
    by_cases h : x > y
    · rw [if_pos h, if_pos h]
    · rw [if_neg h, if_neg h]
theorem cmpS_lt (x y : Int) : cmpS x y < 0 ↔ x < y := by
  unfold cmpS
  by_cases h : x < y
  · simp [h]
  · rw [if_neg h]; split <;> omega
theorem p60 (x y : Sp) : PCall Try.prog 60 [.agg (encS x), .agg (encS y)] fun v => v = .int .i64 (cmpS x.fr y.fr) := by
  refine a_rows_Of_1 _ _ _ _ _ _ _ _ ?_; unfold r_rows_Of_1
  refine (p61 x.fr y.fr).mono ?_; rintro _ rfl
  exact ⟨_, rfl, rfl⟩
/-- What is left of a span. -/
theorem p62 (s : Sp) (n : Bool) (l : List Sp) (hl : Rows.Good l) (h0 : 0 ≤ s.fr) (h1 : s.to ≤ 1114111) : ACall Try.prog 62 [.pv (.agg (encS s)), .own 0] [.sl (62, 4) false n (sps l)] fun r h' => ∃ m, r = .own 1 ∧ h' = [.sl (62, 4) false n (sps l), .sl (62, 4) true m (sps (restL l s))] := by
  refine a_rows_rest _ _ _ _ _ _ (fun i fr to a b _ acc => 0 ≤ i ∧ i ≤ l.length ∧ a = s.a ∧ b = s.b ∧ ∃ t, acc = sps t ∧ t ++ restL (l.drop i.toNat) ⟨fr, to, a, b⟩ = restL l s ∧ 0 ≤ fr ∧ to ≤ 1114111) (fun i _ _ _ _ _ _ => l.length - i.toNat) ?_
  unfold r_rows_rest
  refine ⟨⟨rfl, Int.le_refl _, by omega, rfl, rfl, [], rfl, rfl, h0, h1⟩, ?_⟩
  rintro i fr to a b m acc ⟨i0, i1, rfl, rfl, t, rfl, ht, b0, b1⟩
  have hlen : (sps l).length = l.length := by simp [sps]
  have hll := hl.len
  have htl : t.length ≤ 1114113 := by
    have := restL_len l s
    rw [← ht] at this
    simp at this; omega
  have hszt : (sps t).length = t.length := by simp [sps]
  split
  next hc =>
    simp only [decide_eq_true_eq, hlen] at hc
    have hi : i.toNat < l.length := by omega
    have hx := hl.2 l[i.toNat] (List.getElem_mem hi)
    have hw : IntKind.i64.wrap (i + 1) = i + 1 := wrap_i64 (by omega) (by omega)
    have hn : (i + 1).toNat = i.toNat + 1 := by omega
    have hg : (sps l).getD i.toNat [] = encS l[i.toNat] := getD_map hi
    rw [drop_cons hi] at ht
    refine ⟨idxOK_map encS_len i0 hc, l[i.toNat].fr, by rw [hg]; rfl, l[i.toNat].to, by rw [hg]; rfl, l[i.toNat].a, by rw [hg]; rfl, l[i.toNat].b, by rw [hg]; rfl, ?_⟩
    simp only [restL] at ht
    rw [hw]
    split
    next c1 =>
      simp only [decide_eq_true_eq, gt_iff_lt] at c1
      rw [if_pos c1] at ht
      exact ⟨rfl, ⟨by omega, by omega, rfl, rfl, t, rfl, by rw [hn]; exact ht, b0, b1⟩, by dsimp only; omega⟩
    next c1 =>
      simp only [decide_eq_true_eq, gt_iff_lt] at c1
      rw [if_neg c1] at ht
      split
      next c2 =>
        simp only [decide_eq_true_eq, gt_iff_lt] at c2
        rw [if_pos c2] at ht
        exact ⟨rfl, ⟨by omega, by omega, rfl, rfl, t, rfl, by rw [hn]; exact ht, b0, b1⟩, by dsimp only; omega⟩
      next c2 =>
        simp only [decide_eq_true_eq, gt_iff_lt] at c2
        rw [if_neg c2] at ht
        have hw2 : IntKind.i64.wrap (l[i.toNat].to + 1) = l[i.toNat].to + 1 := wrap_i64 (by omega) (by omega)
        have hw3 : IntKind.i64.wrap (l[i.toNat].fr - 1) = l[i.toNat].fr - 1 := wrap_i64 (by omega) (by omega)
        rw [hw2, hw3]
        split
        next c3 =>
          simp only [decide_eq_true_eq, gt_iff_lt] at c3
          rw [if_pos c3] at ht
          refine ⟨⟨fun e he => by simp at he; subst he; rfl, by rw [hszt]; omega⟩, rfl, ⟨by omega, by omega, rfl, rfl, t ++ [⟨fr, l[i.toNat].fr - 1, s.a, s.b⟩], by simp [sps, encS], by rw [hn, List.append_assoc]; exact ht, by omega, b1⟩, by dsimp only; omega⟩
        next c3 =>
          simp only [decide_eq_true_eq, gt_iff_lt] at c3
          rw [if_neg c3] at ht
          exact ⟨rfl, ⟨by omega, by omega, rfl, rfl, t, rfl, by rw [hn]; exact ht, by omega, b1⟩, by dsimp only; omega⟩
  next hc =>
    simp only [decide_eq_true_eq, hlen] at hc
    have hi : l.length ≤ i.toNat := by omega
    rw [List.drop_eq_nil_of_le hi] at ht
    simp only [restL] at ht
    split
    next c =>
      simp only [decide_eq_true_eq, gt_iff_lt] at c
      rw [if_pos c] at ht
      refine ⟨⟨fun e he => by simp at he; subst he; rfl, by rw [hszt]; omega⟩, m && false, rfl, ?_⟩
      rw [← ht]; simp [sps, encS]
    next c =>
      simp only [decide_eq_true_eq, gt_iff_lt] at c
      rw [if_neg c] at ht
      refine ⟨m, rfl, ?_⟩
      rw [← ht]; simp [sps]
/-- The spans sorted. -/
theorem p63 (n : Bool) (l : List Sp) (hn : n = true → l = []) (hl : l.length < 4611686018427387904) : ACall Try.prog 63 [.own 0, .pv (.fn 60 [])] [.sl (62, 4) false n (sps l)] fun r h' => ∃ t : List Sp, r = .tup [] ∧ h' = [.sl (62, 4) false n (sps t)] ∧ t.Perm l ∧ t.Pairwise (fun x y => ¬ y.fr < x.fr) := by
  have := sort_ok Try.sortSpan ⟨_, Try.func63, by kernel_rfl, by kernel_rfl⟩ 4 (by decide) (fun w => Try.isAgg62 w) (fun w => Try.sizeOf62 w) (fun s : Sp => [s.fr, s.to, s.a, s.b]) (fun _ => rfl) (fun x y => cmpS x.fr y.fr) ⟨fun x => ?_, fun x y z h1 h2 => ?_, fun x y z h1 h2 => ?_⟩ 60 (fun x y => p60 x y) (62, 4) rfl n l hn hl
  · refine this.mono ?_
    rintro r h' ⟨t, h1, h2, h3, h4⟩
    refine ⟨t, h1, h2, h3, h4.imp fun {a b} h => ?_⟩
    exact fun hlt => h ((cmpS_lt _ _).2 hlt)
  · simp [ltOf, cmpS_lt]
  · simp only [ltOf, cmpS_lt, decide_eq_true_eq] at *; omega
  · simp only [ltOf, cmpS_lt, decide_eq_false_iff_not] at *; omega
end Go.Eng
set_option linter.unusedVariables false
set_option linter.unusedSimpArgs false
namespace Go.Eng
open Go Go.Proofs Go.Eng.Rows
theorem foldJ_len (l : List Sp) : ∀ acc, (l.foldl joinS acc).length ≤ acc.length + l.length := by
  induction l with
  | nil => intro acc; simp
  | cons x xs ih => intro acc; have := ih (joinS acc x); have := joinS_len acc x; simp only [List.foldl_cons, List.length_cons]; omega
theorem good_take {l : List Sp} (h : Rows.Good l) (i : Nat) : Rows.Good (l.take i) := ⟨h.1.sublist (List.take_sublist i l), fun x hx => h.2 x (List.mem_of_mem_take hx)⟩
theorem take_snoc {α : Type} {l : List α} {i : Nat} (h : i < l.length) : l.take (i + 1) = l.take i ++ [l[i]] := by
  rw [List.take_add_one, List.getElem?_eq_getElem h]; rfl
theorem sps_len (l : List Sp) : (sps l).length = l.length := by simp [sps]
theorem rws_len (l : List Row) : (rws l).length = l.length := by simp [rws]
theorem p64 (n f : Bool) (l : List Sp) (hl : Rows.Good l) : PCall Try.prog 64 [.sl n f (sps l)] fun v => ∃ n f, v = .sl n f (sps (joinL l)) := by
  refine a_rows_joined _ _ _ (fun i _ acc => 0 ≤ i ∧ i ≤ l.length ∧ acc = sps (joinL (l.take i.toNat))) (fun i _ _ => l.length - i.toNat) ?_
  unfold r_rows_joined
  refine ⟨⟨rfl, Int.le_refl _, by omega, by simp [joinL, sps]⟩, ?_⟩
  rintro i m acc ⟨i0, i1, rfl⟩
  have hlen : (sps l).length = l.length := by simp [sps]
  have hll := hl.len
  split
  next hc =>
    simp only [decide_eq_true_eq, hlen] at hc
    have hi : i.toNat < l.length := by omega
    have hx := hl.2 l[i.toNat] (List.getElem_mem hi)
    have hw : IntKind.i64.wrap (i + 1) = i + 1 := wrap_i64 (by omega) (by omega)
    have hn : (i + 1).toNat = i.toNat + 1 := by omega
    have hg : (sps l).getD i.toNat [] = encS l[i.toNat] := getD_map hi
    have hst : joinL (l.take (i + 1).toNat) = joinS (joinL (l.take i.toNat)) l[i.toNat] := by rw [hn, take_snoc hi]; simp only [joinL, List.foldl_append, List.foldl_cons, List.foldl_nil]
    have hga := (joinL_ok (good_take hl i.toNat)).1
    have hgl := foldJ_len (l.take i.toNat) []
    rw [← joinL] at hgl
    simp only [List.length_nil, List.length_take] at hgl
    have hmu : l.length - (i + 1).toNat < l.length - i.toNat := by omega
    refine ⟨idxOK_map encS_len i0 hc, l[i.toNat].fr, by rw [hg]; rfl, l[i.toNat].to, by rw [hg]; rfl, l[i.toNat].a, by rw [hg]; rfl, l[i.toNat].b, by rw [hg]; rfl, ?_⟩
    rw [hw]
    simp only [hst]
    generalize joinL (l.take i.toNat) = acc at *
    generalize l[i.toNat] = x at *
    have hal : (sps acc).length = acc.length := by simp [sps]
    have hw2 : IntKind.i64.wrap (((sps acc).length : Int) - 1) = (acc.length : Int) - 1 := by rw [hal]; exact wrap_i64 (by omega) (by omega)
    have hsz : szOK [[.int .i64 x.fr, .int .i64 x.to, .int .i64 x.a, .int .i64 x.b]] 4 ∧ ((sps acc).length + 1) * 32 ≤ 2^47 := ⟨fun e he => by simp at he; subst he; rfl, by rw [hal]; omega⟩
    have hno : acc ++ [x] = joinS acc x → sps acc ++ [[.int .i64 x.fr, .int .i64 x.to, .int .i64 x.a, .int .i64 x.b]] = sps (joinS acc x) := fun h => by rw [← h]; simp [sps, encS]
    rw [hw2]
    rcases List.eq_nil_or_concat acc with rfl | ⟨k, y, rfl⟩
    · rw [if_neg (by simp)]
      exact ⟨hsz, rfl, ⟨by omega, by omega, hno rfl⟩, hmu⟩
    · simp only [List.concat_eq_append] at *
      have hy := hga.2 y (by simp)
      have hkl : ((k ++ [y]).length : Int) - 1 = k.length := by simp
      rw [hkl]
      have hgk : (sps (k ++ [y])).getD ((k.length : Int)).toNat [] = encS y := by
        have : k.length < (k ++ [y]).length := by simp
        rw [show ((k.length : Int)).toNat = k.length by omega, sps, getD_map this]; simp
      have hix : idxOK (sps (k ++ [y])) (k.length : Int) 4 := idxOK_map encS_len (by omega) (by simp; omega)
      have hJ : joinS (k ++ [y]) x = if y.to + 1 = x.fr ∧ y.a = x.a ∧ y.b = x.b then k ++ [{ y with to := x.to }] else k ++ [y] ++ [x] := by
        unfold joinS; rw [List.getLast?_concat]; simp only [List.dropLast_concat]
      have hw3 : IntKind.i64.wrap (y.to + 1) = y.to + 1 := wrap_i64 (by omega) (by omega)
      have hfin : ¬ (y.to + 1 = x.fr ∧ y.a = x.a ∧ y.b = x.b) → sps (k ++ [y]) ++ [[.int .i64 x.fr, .int .i64 x.to, .int .i64 x.a, .int .i64 x.b]] = sps (joinS (k ++ [y]) x) := fun h => hno (by rw [hJ, if_neg h])
      rw [if_pos (by simp)]
      refine ⟨hix, y.to, by rw [hgk]; rfl, ?_⟩
      rw [hw3]
      by_cases c1 : y.to + 1 = x.fr
      · rw [if_pos (by simpa using c1)]
        refine ⟨hix, y.a, by rw [hgk]; rfl, ?_⟩
        by_cases c2 : y.a = x.a
        · rw [if_pos (by simpa using c2)]
          refine ⟨hix, y.b, by rw [hgk]; rfl, ?_⟩
          by_cases c3 : y.b = x.b
          · rw [if_pos (by simpa using c3), hgk]
            refine ⟨hix, ⟨trivial, by show 2 ≤ 4; omega⟩, rfl, ⟨by omega, by omega, ?_⟩, hmu⟩
            rw [hJ, if_pos ⟨c1, c2, c3⟩, show ((k.length : Int)).toNat = k.length by omega]
            simp [sps, encS, spl]
          · rw [if_neg (by simpa using c3)]
            exact ⟨hsz, rfl, ⟨by omega, by omega, hfin fun h => c3 h.2.2⟩, hmu⟩
        · rw [if_neg (by simpa using c2)]
          exact ⟨hsz, rfl, ⟨by omega, by omega, hfin fun h => c2 h.2.1⟩, hmu⟩
      · rw [if_neg (by simpa using c1)]
        exact ⟨hsz, rfl, ⟨by omega, by omega, hfin fun h => c1 h.1⟩, hmu⟩
  next hc =>
    simp only [decide_eq_true_eq, hlen] at hc
    rw [List.take_of_length_le (by omega)]
    exact ⟨_, _, rfl⟩
/-- The spans of rows. -/
theorem p29 (n f : Bool) (rows : List Row) (k : Int) (hlr : rows.length < 4611686018427387904) : PCall Try.prog 29 [.sl n f (rws rows), .int .i64 k] fun v => ∃ n f, v = .sl n f (sps (ofL k rows)) := by
  refine a_rows_Of _ _ _ _ (fun i n acc => 0 ≤ i ∧ i ≤ rows.length ∧ acc = sps (allL k (rows.take i.toNat)) ∧ (n = true → acc = [])) (fun i _ _ => rows.length - i.toNat) ?_
  unfold r_rows_Of
  refine ⟨⟨rfl, Int.le_refl _, by omega, by simp [allL, sps], fun _ => rfl⟩, ?_⟩
  rintro i m acc ⟨i0, i1, rfl, hnil⟩
  have hlen : (rws rows).length = rows.length := by simp [rws]
  have hga := allL_good k (rows.take i.toNat)
  have hll := hga.len
  split
  next hc =>
    simp only [decide_eq_true_eq, hlen] at hc
    have hi : i.toNat < rows.length := by omega
    have hw : IntKind.i64.wrap (i + 1) = i + 1 := wrap_i64 (by omega) (by omega)
    have hn : (i + 1).toNat = i.toNat + 1 := by omega
    have hg : (rws rows).getD i.toNat [] = encR rows[i.toNat] := getD_map hi
    have hst : allL k (rows.take (i + 1).toNat) = stepL k (allL k (rows.take i.toNat)) rows[i.toNat] := by rw [hn, take_snoc hi, allL_snoc]
    have hmu : rows.length - (i + 1).toNat < rows.length - i.toNat := by omega
    refine ⟨idxOK_map encR_len i0 hc, rows[i.toNat].kind, by rw [hg]; rfl, rows[i.toNat].fr, by rw [hg]; rfl, rows[i.toNat].to, by rw [hg]; rfl, rows[i.toNat].a, by rw [hg]; rfl, rows[i.toNat].b, by rw [hg]; rfl, ?_⟩
    rw [hw]
    simp only [hst]
    generalize allL k (rows.take i.toNat) = acc at *
    generalize rows[i.toNat] = x at *
    have hal : (sps acc).length = acc.length := by simp [sps]
    by_cases hk : x.kind = k
    · rw [if_neg (by simpa using hk)]
      have h62 := p62 x.sp m acc hga x.sp_lo x.sp_hi
      simp only [encS, Row.sp] at h62
      refine h62.mono ?_
      rintro _ _ ⟨m1, rfl, rfl⟩
      have hrl := restL_len acc x.sp
      refine ⟨(m1, sps (restL acc x.sp)), ⟨rfl, rfl⟩, ⟨by simp, trivial⟩, ⟨szOK_map encS_len _, by simp only [sps, List.length_map]; omega⟩, ?_⟩
      have happ : sps acc ++ sps (restL acc x.sp) = sps (acc ++ restL acc x.sp) := by simp [sps]
      simp only [happ]
      refine (p63 _ (acc ++ restL acc x.sp) (fun h => ?_) (by simp only [List.length_append]; omega)).mono ?_
      · simp only [Bool.and_eq_true, List.isEmpty_iff] at h
        have h1 := hnil h.1
        have h2 := h.2
        simp only [sps, List.map_eq_nil_iff] at h1 h2
        simp [h1, h2]
        simpa [h1] using h2
      · rintro _ _ ⟨t, rfl, rfl, hp, hs⟩
        have ht := step_eq hga hk hp hs
        refine ⟨sps t, ⟨rfl, rfl⟩, ⟨⟨trivial, trivial, by simp only [sps, List.length_map]; exact hp.length_eq.symm⟩, trivial⟩, rfl, ⟨by omega, by omega, by rw [ht], fun h => ?_⟩, hmu⟩
        simp only [Bool.and_eq_true, List.isEmpty_iff] at h
        have h1 := hnil h.1
        have h2 := h.2
        simp only [sps, List.map_eq_nil_iff] at h1 h2 ⊢
        rw [h2, h1] at hp
        simpa using hp
    · rw [if_pos (by simpa using hk)]
      refine ⟨rfl, ⟨by omega, by omega, by rw [stepL, if_neg hk], hnil⟩, hmu⟩
  next hc =>
    simp only [decide_eq_true_eq, hlen] at hc
    rw [List.take_of_length_le (by omega)] at hga ⊢
    refine (p64 _ _ _ hga).mono ?_
    rintro _ ⟨n, f, rfl⟩
    exact ⟨_, _, _, rfl, _, _, rfl⟩
end Go.Eng
set_option linter.unusedVariables false
set_option linter.unusedSimpArgs false
namespace Go.Eng
open Go Go.Proofs Go.Eng.Rows
theorem p28 (n f : Bool) (rows : List Row) : PCall Try.prog 28 [.sl n f (rws rows)] fun v => ∃ n f, v = .sl n f (rws (rows.take 40)) := by
  refine a_typebarlaw02_few _ _ _ ?_; unfold r_typebarlaw02_few
  split
  next hc =>
    simp only [decide_eq_true_eq, rws_len] at hc
    refine ⟨⟨by unfold slOK; simp [rws]; omega, szOK_map encR_len _⟩, n, _, by simp only [rws, List.map_take]; rfl⟩
  next hc =>
    simp only [decide_eq_true_eq, rws_len] at hc
    exact ⟨n, f, by rw [List.take_of_length_le (by omega)]⟩
def sizeS (l : List Sp) : Int := (l.map fun s => s.to - s.fr + 1).sum
theorem sizeS_snoc (l : List Sp) (x : Sp) : sizeS (l ++ [x]) = sizeS l + (x.to - x.fr + 1) := by simp [sizeS]
theorem sizeS_bound {l : List Sp} (h : Rows.In l) : 0 ≤ sizeS l ∧ sizeS l ≤ 1114112 * l.length := by
  induction l with
  | nil => simp [sizeS]
  | cons x l ih =>
    have h1 := h x List.mem_cons_self
    have := ih fun y hy => h y (List.mem_cons_of_mem _ hy)
    simp only [sizeS, List.map_cons, List.sum_cons, List.length_cons] at *
    omega
theorem p30 (n f : Bool) (l : List Sp) (hl : Rows.Good l) : PCall Try.prog 30 [.sl n f (sps l)] fun v => v = .int .i64 (sizeS l) := by
  refine a_rows_Size _ _ _ (fun a i => 0 ≤ i ∧ i ≤ l.length ∧ a = sizeS (l.take i.toNat)) (fun _ i => l.length - i.toNat) ?_
  unfold r_rows_Size
  refine ⟨⟨rfl, Int.le_refl _, by omega, rfl⟩, ?_⟩
  rintro _ i ⟨i0, i1, rfl⟩
  have hll := hl.len
  split
  next hc =>
    simp only [decide_eq_true_eq, sps_len] at hc
    have hi : i.toNat < l.length := by omega
    have hx := hl.2 l[i.toNat] (List.getElem_mem hi)
    have hw : IntKind.i64.wrap (i + 1) = i + 1 := wrap_i64 (by omega) (by omega)
    have hn : (i + 1).toNat = i.toNat + 1 := by omega
    have hg : (sps l).getD i.toNat [] = encS l[i.toNat] := getD_map hi
    have hst : sizeS (l.take (i + 1).toNat) = sizeS (l.take i.toNat) + (l[i.toNat].to - l[i.toNat].fr + 1) := by rw [hn, take_snoc hi, sizeS_snoc]
    have hb := sizeS_bound (good_take hl i.toNat).2
    simp only [List.length_take] at hb
    refine ⟨idxOK_map encS_len i0 hc, l[i.toNat].fr, by rw [hg]; rfl, l[i.toNat].to, by rw [hg]; rfl, l[i.toNat].a, by rw [hg]; rfl, l[i.toNat].b, by rw [hg]; rfl, ?_⟩
    have w1 : IntKind.i64.wrap (l[i.toNat].to - l[i.toNat].fr) = l[i.toNat].to - l[i.toNat].fr := wrap_i64 (by omega) (by omega)
    have w2 : IntKind.i64.wrap (l[i.toNat].to - l[i.toNat].fr + 1) = l[i.toNat].to - l[i.toNat].fr + 1 := wrap_i64 (by omega) (by omega)
    have w3 : IntKind.i64.wrap (sizeS (l.take i.toNat) + (l[i.toNat].to - l[i.toNat].fr + 1)) = sizeS (l.take i.toNat) + (l[i.toNat].to - l[i.toNat].fr + 1) := wrap_i64 (by omega) (by omega)
    rw [hw, w1, w2, w3]
    exact ⟨rfl, ⟨by omega, by omega, hst.symm⟩, by dsimp only; omega⟩
  next hc =>
    simp only [decide_eq_true_eq, sps_len] at hc
    rw [List.take_of_length_le (by omega)]
theorem p31 : PCall Try.prog 31 [] fun v => v = .bool true := by
  refine a_typebarlaw02_awake ?_; unfold r_typebarlaw02_awake
  have h := p29 false true [⟨1, 5, 9, 7, 0⟩, ⟨1, 8, 12, 8, 0⟩] 1 (by decide)
  refine PCall.mono h ?_
  rintro _ ⟨n, f, rfl⟩
  have e : ofL 1 [⟨1, 5, 9, 7, 0⟩, ⟨1, 8, 12, 8, 0⟩] = [⟨5, 9, 7, 0⟩, ⟨10, 12, 8, 0⟩] := by decide
  rw [e]
  refine ⟨n, f, _, rfl, ?_⟩
  rw [if_pos (by rfl)]
  refine ⟨idxOK_map encS_len (by decide) (by decide), 5, rfl, 9, rfl, 7, rfl, 0, rfl, ?_⟩
  rw [if_pos (by rfl)]
  exact ⟨idxOK_map encS_len (by decide) (by decide), 10, rfl, 12, rfl, 8, rfl, 0, rfl, rfl⟩
theorem p6 (n f : Bool) (rows : List Row) (k : Int) : PCall Try.prog 6 [.sl n f (rws rows), .int .i64 k] fun v => v = .bool true := by
  refine a_typebarlaw02_RowsOrder _ _ _ _ (fun n f es a i => ∃ l, es = sps l ∧ Rows.Good l ∧ Rows.Split l ∧ 0 ≤ i ∧ i ≤ l.length ∧ a = sizeS (l.take i.toNat)) (fun _ _ es _ i => es.length - i.toNat) ?_
  unfold r_typebarlaw02_RowsOrder
  refine (p28 _ _ rows).mono ?_
  rintro _ ⟨n1, f1, rfl⟩
  refine ⟨_, _, _, rfl, ?_⟩
  refine (p29 _ _ _ k (by simp only [List.length_take]; omega)).mono ?_
  rintro _ ⟨n2, f2, rfl⟩
  refine ⟨_, _, _, rfl, ⟨rfl, _, rfl, ofL_good _ _, ofL_split _ _, Int.le_refl _, by omega, rfl⟩, ?_⟩
  rintro n5 f5 _ _ i ⟨l, rfl, hl, hs, i0, i1, rfl⟩
  have hll := hl.len
  refine iteD (fun hc => ?_) (fun hc => ?_)
  · simp only [decide_eq_true_eq, sps_len] at hc
    have hi : i.toNat < l.length := by omega
    have hx := hl.2 l[i.toNat] (List.getElem_mem hi)
    have hw : IntKind.i64.wrap (i + 1) = i + 1 := wrap_i64 (by omega) (by omega)
    have hw1 : IntKind.i64.wrap (i - 1) = i - 1 := wrap_i64 (by omega) (by omega)
    have hn : (i + 1).toNat = i.toNat + 1 := by omega
    have hg : (sps l).getD i.toNat [] = encS l[i.toNat] := getD_map hi
    have hst : sizeS (l.take (i + 1).toNat) = sizeS (l.take i.toNat) + (l[i.toNat].to - l[i.toNat].fr + 1) := by rw [hn, take_snoc hi, sizeS_snoc]
    have hb := sizeS_bound (good_take hl i.toNat).2
    simp only [List.length_take] at hb
    have w1 : IntKind.i64.wrap (sizeS (l.take i.toNat) + l[i.toNat].to) = sizeS (l.take i.toNat) + l[i.toNat].to := wrap_i64 (by omega) (by omega)
    have w2 : IntKind.i64.wrap (sizeS (l.take i.toNat) + l[i.toNat].to - l[i.toNat].fr) = sizeS (l.take i.toNat) + l[i.toNat].to - l[i.toNat].fr := wrap_i64 (by omega) (by omega)
    have w3 : IntKind.i64.wrap (sizeS (l.take i.toNat) + l[i.toNat].to - l[i.toNat].fr + 1) = sizeS (l.take i.toNat) + l[i.toNat].to - l[i.toNat].fr + 1 := wrap_i64 (by omega) (by omega)
    have hix : idxOK (sps l) i 4 := idxOK_map encS_len i0 hc
    have hfin : (∃ l', sps l = sps l' ∧ Rows.Good l' ∧ Rows.Split l' ∧ 0 ≤ i + 1 ∧ i + 1 ≤ l'.length ∧ sizeS (l.take i.toNat) + l[i.toNat].to - l[i.toNat].fr + 1 = sizeS (l'.take (i + 1).toNat)) ∧ (sps l).length - (i + 1).toNat < (sps l).length - i.toNat := by
      refine ⟨⟨l, rfl, hl, hs, by omega, by omega, by rw [hst]; omega⟩, ?_⟩
      rw [sps_len]; omega
    by_cases h0 : 0 < i
    · have hj : i.toNat - 1 < l.length := by omega
      have hgj : (sps l).getD (i - 1).toNat [] = encS l[i.toNat - 1] := by rw [show (i - 1).toNat = i.toNat - 1 by omega]; exact getD_map hj
      have hy := hl.2 l[i.toNat - 1] (List.getElem_mem hj)
      have hxy : l[i.toNat - 1].to < l[i.toNat].fr := (List.pairwise_iff_getElem.1 hl.1) _ _ hj hi (by omega)
      have hsp : ¬ (l[i.toNat - 1].to + 1 = l[i.toNat].fr ∧ l[i.toNat - 1].a = l[i.toNat].a ∧ l[i.toNat - 1].b = l[i.toNat].b) := by
        have := hs (i.toNat - 1) (by omega)
        simpa [show i.toNat - 1 + 1 = i.toNat by omega] using this
      have hixj : idxOK (sps l) (i - 1) 4 := idxOK_map encS_len (by omega) (by omega)
      generalize l[i.toNat] = x at *
      generalize l[i.toNat - 1] = y at *
      have w4 : IntKind.i64.wrap (y.to + 1) = y.to + 1 := wrap_i64 (by omega) (by omega)
      have c1 : ¬ x.fr < 0 := by omega
      have c2 : ¬ x.to > 1114111 := by omega
      have c3 : ¬ x.fr > x.to := by omega
      have c4 : ¬ y.to ≥ x.fr := by omega
      have c5 : i > 0 := h0
      simp only [hw1, hix, hixj, hg, hgj, encS, List.head?_cons, List.tail_cons, List.drop, Option.some.injEq, PV.int.injEq, true_and, exists_eq_left', decide_eq_true_eq, c1, c2, c3, c4, c5, if_true, if_false, hw, w1, w2, w3, w4]
      refine iteD (fun e1 => iteD (fun e2 => iteD (fun e3 => ?_) (fun _ => ⟨rfl, hfin⟩)) (fun _ => ⟨rfl, hfin⟩)) (fun _ => ⟨rfl, hfin⟩)
      exact absurd ⟨by simpa using e1, by simpa using e2, by simpa using e3⟩ hsp
    · generalize l[i.toNat] = x at *
      have c1 : ¬ x.fr < 0 := by omega
      have c2 : ¬ x.to > 1114111 := by omega
      have c3 : ¬ x.fr > x.to := by omega
      have c5 : ¬ i > 0 := h0
      simp only [hix, hg, encS, List.head?_cons, List.tail_cons, List.drop, Option.some.injEq, PV.int.injEq, true_and, exists_eq_left', decide_eq_true_eq, c1, c2, c3, c5, if_true, if_false, hw, w1, w2, w3]
      exact ⟨rfl, hfin⟩
  · simp only [decide_eq_true_eq, sps_len] at hc
    rw [List.take_of_length_le (by omega)]
    refine (p30 _ _ _ hl).mono ?_
    rintro _ rfl
    refine ⟨_, rfl, ?_⟩
    refine iteT (by simp) ?_
    refine p31.mono ?_
    rintro _ rfl
    exact ⟨true, rfl, rfl⟩
end Go.Eng
set_option linter.unusedVariables false
set_option linter.unusedSimpArgs false
set_option maxRecDepth 100000
set_option linter.constructorNameAsVariable false
namespace Go.Eng
open Go Go.Proofs Go.Eng.Rows
theorem u57 : Try.prog.underlying 57 = some (.slice 71) := by kernel_rfl
theorem u3 : Try.prog.underlying 3 = some (.int .i64) := by kernel_rfl
theorem typed_row {ps : List PV} {n : Nat} (h : Typed Try.prog (n + 2) 71 ps) : ∃ x : Row, ps = encR x ∧ ((-9223372036854775808 ≤ x.kind ∧ x.kind ≤ 9223372036854775807) ∧ (-9223372036854775808 ≤ x.fr ∧ x.fr ≤ 9223372036854775807) ∧ (-9223372036854775808 ≤ x.to ∧ x.to ≤ 9223372036854775807)) := by
  obtain ⟨hl, h3⟩ := typed_struct (l := [(3, 0, 1), (3, 1, 1), (3, 2, 1), (3, 3, 1), (3, 4, 1)]) (by kernel_rfl) h
  have hl : ps.length = 5 := hl.trans (by kernel_rfl)
  match ps, hl with
  | [a, b, c, d, e], _ =>
    obtain ⟨m0, e0, h0⟩ := typed_int u3 (h3 (3, 0, 1) (by simp))
    obtain ⟨m1, e1, h1⟩ := typed_int u3 (h3 (3, 1, 1) (by simp))
    obtain ⟨m2, e2, h2⟩ := typed_int u3 (h3 (3, 2, 1) (by simp))
    obtain ⟨m3, e3, _⟩ := typed_int u3 (h3 (3, 3, 1) (by simp))
    obtain ⟨m4, e4, _⟩ := typed_int u3 (h3 (3, 4, 1) (by simp))
    simp at e0 e1 e2 e3 e4
    subst e0; subst e1; subst e2; subst e3; subst e4
    exact ⟨⟨m0, m1, m2, m3, m4⟩, rfl, wf_i64 h0, wf_i64 h1, wf_i64 h2⟩
def Row.ok (x : Row) : Prop := (-9223372036854775808 ≤ x.kind ∧ x.kind ≤ 9223372036854775807) ∧ (-9223372036854775808 ≤ x.fr ∧ x.fr ≤ 9223372036854775807) ∧ (-9223372036854775808 ≤ x.to ∧ x.to ≤ 9223372036854775807)
theorem typed_rows {v : PV} (h : TypedV Try.prog 8 57 v) : ∃ nl l, v = .sl nl false (rws l) ∧ l.length ≤ maxLen ∧ ∀ x ∈ l, Row.ok x := by
  obtain ⟨nl, es, e, h1, h2, h3⟩ := typed_slice u57 (typedV_plain (by kernel_rfl) h)
  cases e
  obtain ⟨m, rfl, hm⟩ := map_of_all (f := encR) (Q := Row.ok) (l := es) fun x hx => typed_row (h3 x hx)
  exact ⟨nl, m, rfl, by simpa using h1, hm⟩
theorem law6 {pvs : List PV} (h : TypedAll Try.prog 8 Try.f6.params.toList pvs) : PCall Try.prog 6 pvs fun v => v = .bool true := by
  obtain ⟨v0, r0, rfl, h0, v1, r1, rfl, h1, rfl⟩ : TypedAll Try.prog 8 [57, 3] pvs := h
  obtain ⟨nl, l, rfl, hl, _⟩ := typed_rows h0
  obtain ⟨m, e, _⟩ := typed_int u3 (typedV_plain (by kernel_rfl) h1)
  cases e
  exact p6 _ _ _ _
end Go.Eng
