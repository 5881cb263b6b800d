/- Abstract states run over the code; what each function gives, printed by program and checked by the kernel; and what follows of it. -/
import Derived.Test.YtcppblalhdhlcaaRowskindsTa
set_option linter.unusedVariables false
set_option maxRecDepth 100000
set_option linter.constructorNameAsVariable false
namespace Go.Eng
open Go Go.Proofs
def r_typebarref02_add (n f : Bool) (es : List (List PV)) (k : Int) (J : (Bool) → (Int) → (Bool) → (List (List PV)) → Prop) (μ : (Bool) → (Int) → (Bool) → (List (List PV)) → Nat) (R : PV → Prop) : Prop :=

  if (decide (k < (0 : Int)) || decide (k > (1114111 : Int))) = true then R (PV.sl n f es)
  else
    (SameSt
          ([(0, LV.pv (PV.sl n f es)), (1, LV.pv (PV.int IntKind.i64 k)),
              (5, LV.own 0), (6, LV.pv (PV.bool false)),
              (7, LV.pv (PV.int IntKind.i64 (0 : Int)))],
            [Ob.sl (3, 1) true true []])
          ([(0, LV.pv (PV.sl n f es)), (1, LV.pv (PV.int IntKind.i64 k)),
              (5, LV.own 0), (6, LV.pv (PV.bool false)),
              (7, LV.pv (PV.int IntKind.i64 (0 : Int)))],
            [Ob.sl (3, 1) true true []]) ∧
        J false (0 : Int) true []) ∧
      ∀ (x6 : Bool) (x7 : Int) (n_0 : Bool) (s_0 : List (List PV)),
        J x6 x7 n_0 s_0 →
          if decide (x7 < (↑es.length : Int)) = true then
            idxOK es x7 1 ∧
              ∃ (n1 : Int),
                (es.getD x7.toNat []).head? = some (PV.int IntKind.i64 n1) ∧
                  if (n1 == k) = true then R (PV.sl n f es)
                  else
                    idxOK es x7 1 ∧
                      ∃ (n2 : Int),
                        (es.getD x7.toNat []).head? = some (PV.int IntKind.i64 n2) ∧
                          if (decide (n2 > k) && !x6) = true then
                            (szOK [[PV.int IntKind.i64 k]] 1 ∧
                                (s_0.length + 1) * 8 ≤ 140737488355328) ∧
                              idxOK es x7 1 ∧
                                ∃ (n3 : Int),
                                  (es.getD x7.toNat []).head? = some (PV.int IntKind.i64 n3) ∧
                                    (szOK [[PV.int IntKind.i64 n3]] 1 ∧
                                        ((s_0 ++ [[PV.int IntKind.i64 k]]).length + 1) * 8 ≤
                                          140737488355328) ∧
                                      SameSt
                                          ([(0, LV.pv (PV.sl n f es)),
                                              (1, LV.pv (PV.int IntKind.i64 k)),
                                              (5, LV.own 0), (6, LV.pv (PV.bool true)),
                                              (7,
                                                LV.pv (PV.int IntKind.i64 (IntKind.i64.wrap (x7 + (1 : Int)))))],
                                            [Ob.sl (3, 1) true (n_0 && false && false)
                                                (s_0 ++ [[PV.int IntKind.i64 k]] ++ [[PV.int IntKind.i64 n3]])])
                                          ([(0, LV.pv (PV.sl n f es)),
                                              (1, LV.pv (PV.int IntKind.i64 k)),
                                              (5, LV.own 0), (6, LV.pv (PV.bool true)),
                                              (7,
                                                LV.pv (PV.int IntKind.i64 (IntKind.i64.wrap (x7 + (1 : Int)))))],
                                            [Ob.sl (3, 1) true (n_0 && false && false)
                                                (s_0 ++ [[PV.int IntKind.i64 k]] ++ [[PV.int IntKind.i64 n3]])]) ∧
                                        J true (IntKind.i64.wrap (x7 + (1 : Int))) (n_0 && false && false)
                                            (s_0 ++ [[PV.int IntKind.i64 k]] ++ [[PV.int IntKind.i64 n3]]) ∧
                                          μ true (IntKind.i64.wrap (x7 + (1 : Int))) (n_0 && false && false)
                                              (s_0 ++ [[PV.int IntKind.i64 k]] ++ [[PV.int IntKind.i64 n3]]) <
                                            μ x6 x7 n_0 s_0
                          else
                            idxOK es x7 1 ∧
                              ∃ (n3 : Int),
                                (es.getD x7.toNat []).head? = some (PV.int IntKind.i64 n3) ∧
                                  (szOK [[PV.int IntKind.i64 n3]] 1 ∧
                                      (s_0.length + 1) * 8 ≤ 140737488355328) ∧
                                    SameSt
                                        ([(0, LV.pv (PV.sl n f es)), (1, LV.pv (PV.int IntKind.i64 k)),
                                            (5, LV.own 0), (6, LV.pv (PV.bool x6)),
                                            (7,
                                              LV.pv (PV.int IntKind.i64 (IntKind.i64.wrap (x7 + (1 : Int)))))],
                                          [Ob.sl (3, 1) true (n_0 && false)
                                              (s_0 ++ [[PV.int IntKind.i64 n3]])])
                                        ([(0, LV.pv (PV.sl n f es)), (1, LV.pv (PV.int IntKind.i64 k)),
                                            (5, LV.own 0), (6, LV.pv (PV.bool x6)),
                                            (7,
                                              LV.pv (PV.int IntKind.i64 (IntKind.i64.wrap (x7 + (1 : Int)))))],
                                          [Ob.sl (3, 1) true (n_0 && false)
                                              (s_0 ++ [[PV.int IntKind.i64 n3]])]) ∧
                                      J x6 (IntKind.i64.wrap (x7 + (1 : Int))) (n_0 && false)
                                          (s_0 ++ [[PV.int IntKind.i64 n3]]) ∧
                                        μ x6 (IntKind.i64.wrap (x7 + (1 : Int))) (n_0 && false)
                                            (s_0 ++ [[PV.int IntKind.i64 n3]]) <
                                          μ x6 x7 n_0 s_0
          else R (PV.sl n_0 false s_0)
theorem e_typebarref02_add (n f : Bool) (es : List (List PV)) (k : Int) (J : (Bool) → (Int) → (Bool) → (List (List PV)) → Prop) (μ : (Bool) → (Int) → (Bool) → (List (List PV)) → Nat) (R : PV → Prop) : aFn Try.prog (fun _ => none) Try.f65 [0, 1, 4, 5, 6, 7, 13, 18, 26, 37] (fun zz_ => match zz_ with | 6 => some ⟨Bool × Int × Bool × (List (List PV)), fun s => (fun (x6 : Bool) (x7 : Int) (n_0 : Bool) (s_0 : List (List PV)) => ([(0, LV.pv (PV.sl n f es)), (1, LV.pv (PV.int IntKind.i64 k)), (5, LV.own 0), (6, .pv (.bool x6)), (7, .pv (.int IntKind.i64 x7))], [.sl (3, 1) true n_0 s_0])) s.1 s.2.1 s.2.2.1 s.2.2.2, fun _ s => J s.1 s.2.1 s.2.2.1 s.2.2.2, fun s => μ s.1 s.2.1 s.2.2.1 s.2.2.2, fun e h => (gB e 6, gI e 7, oN h 0, oS h 0), [(5, 3, 1)], [0, 1, 5, 6, 7], [], fun p => ∀ (x6 : Bool) (x7 : Int) (n_0 : Bool) (s_0 : List (List PV)), p (x6, x7, n_0, s_0), fun p h s => h s.1 s.2.1 s.2.2.1 s.2.2.2⟩ | _ => none) (Try.f65.body.getD .skip) [.sl n f es, .int .i64 k] R = r_typebarref02_add n f es k J μ R := by kernel_rfl
theorem a_typebarref02_add (n f : Bool) (es : List (List PV)) (k : Int) (J : (Bool) → (Int) → (Bool) → (List (List PV)) → Prop) (μ : (Bool) → (Int) → (Bool) → (List (List PV)) → Nat) {R : PV → Prop} (h : r_typebarref02_add n f es k J μ R) : PCall Try.prog 65 [.sl n f es, .int .i64 k] R :=
  PCall.of Try.func65 (by kernel_rfl) (by kernel_rfl) (Nat.le_of_ble_eq_true (by kernel_rfl)) (Eq.mpr (e_typebarref02_add n f es k J μ R) h)

def r_typebarref02_Edges (n f : Bool) (es : List (List PV)) (k : Int) (J : (Bool) → (Bool) → (List (List PV)) → (Int) → Prop) (μ : (Bool) → (Bool) → (List (List PV)) → (Int) → Nat) (R : PV → Prop) : Prop :=

  (SameSt
        ([(0, LV.pv (PV.sl n f es)), (1, LV.pv (PV.int IntKind.i64 k)),
            (5,
              LV.pv (PV.sl false true [[PV.int IntKind.i64 (0 : Int)], [PV.int IntKind.i64 (1114112 : Int)]])),
            (6, LV.pv (PV.int IntKind.i64 (0 : Int)))],
          [])
        ([(0, LV.pv (PV.sl n f es)), (1, LV.pv (PV.int IntKind.i64 k)),
            (5,
              LV.pv (PV.sl false true [[PV.int IntKind.i64 (0 : Int)], [PV.int IntKind.i64 (1114112 : Int)]])),
            (6, LV.pv (PV.int IntKind.i64 (0 : Int)))],
          []) ∧
      J false true [[PV.int IntKind.i64 (0 : Int)], [PV.int IntKind.i64 (1114112 : Int)]] (0 : Int)) ∧
    ∀ (n5 f5 : Bool) (s5 : List (List PV)) (x6 : Int),
      J n5 f5 s5 x6 →
        if decide (x6 < (↑es.length : Int)) = true then
          idxOK es x6 5 ∧
            ∃ (n1 : Int),
              (List.drop 0 (es.getD x6.toNat [])).head? = some (PV.int IntKind.i64 n1) ∧
                if (n1 != k) = true then
                  SameSt
                      ([(0, LV.pv (PV.sl n f es)), (1, LV.pv (PV.int IntKind.i64 k)),
                          (5, LV.pv (PV.sl n5 f5 s5)),
                          (6, LV.pv (PV.int IntKind.i64 (IntKind.i64.wrap (x6 + (1 : Int)))))],
                        [])
                      ([(0, LV.pv (PV.sl n f es)), (1, LV.pv (PV.int IntKind.i64 k)),
                          (5, LV.pv (PV.sl n5 f5 s5)),
                          (6, LV.pv (PV.int IntKind.i64 (IntKind.i64.wrap (x6 + (1 : Int)))))],
                        []) ∧
                    J n5 f5 s5 (IntKind.i64.wrap (x6 + (1 : Int))) ∧
                      μ n5 f5 s5 (IntKind.i64.wrap (x6 + (1 : Int))) < μ n5 f5 s5 x6
                else
                  idxOK es x6 5 ∧
                    ∃ (n2 : Int),
                      (List.drop 1 (es.getD x6.toNat [])).head? = some (PV.int IntKind.i64 n2) ∧
                        PCall Try.prog 65 [PV.sl n5 f5 s5, PV.int IntKind.i64 n2] fun (v : PV) ↦
                          ∃ (n3 : Bool),
                            ∃ (f1 : Bool),
                              ∃ (es1 : List (List PV)),
                                v = PV.sl n3 f1 es1 ∧
                                  idxOK es x6 5 ∧
                                    ∃ (n4 : Int),
                                      (List.drop 2 (es.getD x6.toNat [])).head? =
                                          some (PV.int IntKind.i64 n4) ∧
                                        if decide (n4 < (1114111 : Int)) = true then
                                          idxOK es x6 5 ∧
                                            ∃ (n6 : Int),
                                              (List.drop 2 (es.getD x6.toNat [])).head? =
                                                  some (PV.int IntKind.i64 n6) ∧
                                                PCall Try.prog 65
                                                  [PV.sl n3 f1 es1,
                                                    PV.int IntKind.i64 (IntKind.i64.wrap (n6 + (1 : Int)))]
                                                  fun (v1 : PV) ↦
                                                  ∃ (n7 : Bool),
                                                    ∃ (f2 : Bool),
                                                      ∃ (es2 : List (List PV)),
                                                        v1 = PV.sl n7 f2 es2 ∧
                                                          SameSt
                                                              ([(0, LV.pv (PV.sl n f es)),
                                                                  (1, LV.pv (PV.int IntKind.i64 k)),
                                                                  (5, LV.pv (PV.sl n7 f2 es2)),
                                                                  (6,
                                                                    LV.pv
                                                                      (PV.int IntKind.i64
                                                                        (IntKind.i64.wrap (x6 + (1 : Int)))))],
                                                                [])
                                                              ([(0, LV.pv (PV.sl n f es)),
                                                                  (1, LV.pv (PV.int IntKind.i64 k)),
                                                                  (5, LV.pv (PV.sl n7 f2 es2)),
                                                                  (6,
                                                                    LV.pv
                                                                      (PV.int IntKind.i64
                                                                        (IntKind.i64.wrap (x6 + (1 : Int)))))],
                                                                []) ∧
                                                            J n7 f2 es2 (IntKind.i64.wrap (x6 + (1 : Int))) ∧
                                                              μ n7 f2 es2 (IntKind.i64.wrap (x6 + (1 : Int))) <
                                                                μ n5 f5 s5 x6
                                        else
                                          SameSt
                                              ([(0, LV.pv (PV.sl n f es)),
                                                  (1, LV.pv (PV.int IntKind.i64 k)),
                                                  (5, LV.pv (PV.sl n3 f1 es1)),
                                                  (6,
                                                    LV.pv (PV.int IntKind.i64 (IntKind.i64.wrap (x6 + (1 : Int)))))],
                                                [])
                                              ([(0, LV.pv (PV.sl n f es)),
                                                  (1, LV.pv (PV.int IntKind.i64 k)),
                                                  (5, LV.pv (PV.sl n3 f1 es1)),
                                                  (6,
                                                    LV.pv (PV.int IntKind.i64 (IntKind.i64.wrap (x6 + (1 : Int)))))],
                                                []) ∧
                                            J n3 f1 es1 (IntKind.i64.wrap (x6 + (1 : Int))) ∧
                                              μ n3 f1 es1 (IntKind.i64.wrap (x6 + (1 : Int))) < μ n5 f5 s5 x6
        else R (PV.sl n5 f5 s5)
theorem e_typebarref02_Edges (n f : Bool) (es : List (List PV)) (k : Int) (J : (Bool) → (Bool) → (List (List PV)) → (Int) → Prop) (μ : (Bool) → (Bool) → (List (List PV)) → (Int) → Nat) (R : PV → Prop) : aFn Try.prog (fun _ => none) Try.f32 [0, 1, 4, 5, 6, 11, 20, 33] (fun zz_ => match zz_ with | 3 => some ⟨Bool × Bool × (List (List PV)) × Int, fun s => (fun (n5 : Bool) (f5 : Bool) (s5 : List (List PV)) (x6 : Int) => ([(0, LV.pv (PV.sl n f es)), (1, LV.pv (PV.int IntKind.i64 k)), (5, .pv (.sl n5 f5 s5)), (6, .pv (.int IntKind.i64 x6))], [])) s.1 s.2.1 s.2.2.1 s.2.2.2, fun _ s => J s.1 s.2.1 s.2.2.1 s.2.2.2, fun s => μ s.1 s.2.1 s.2.2.1 s.2.2.2, fun e h => (gN e 5, gF e 5, gS e 5, gI e 6), [], [0, 1, 5, 6], [], fun p => ∀ (n5 : Bool) (f5 : Bool) (s5 : List (List PV)) (x6 : Int), p (n5, f5, s5, x6), fun p h s => h s.1 s.2.1 s.2.2.1 s.2.2.2⟩ | _ => none) (Try.f32.body.getD .skip) [.sl n f es, .int .i64 k] R = r_typebarref02_Edges n f es k J μ R := by kernel_rfl
theorem a_typebarref02_Edges (n f : Bool) (es : List (List PV)) (k : Int) (J : (Bool) → (Bool) → (List (List PV)) → (Int) → Prop) (μ : (Bool) → (Bool) → (List (List PV)) → (Int) → Nat) {R : PV → Prop} (h : r_typebarref02_Edges n f es k J μ R) : PCall Try.prog 32 [.sl n f es, .int .i64 k] R :=
  PCall.of Try.func32 (by kernel_rfl) (by kernel_rfl) (Nat.le_of_ble_eq_true (by kernel_rfl)) (Eq.mpr (e_typebarref02_Edges n f es k J μ R) h)

def r_typebarref02_Find (n f : Bool) (es : List (List PV)) (k r : Int) (J : (Int) → Prop) (μ : (Int) → Nat) (R : PV → Prop) : Prop :=

  if (decide (r < (0 : Int)) || decide (r > (1114111 : Int))) = true then R (PV.int IntKind.i64 (-1 : Int))
  else
    (SameSt
          ([(0, LV.pv (PV.sl n f es)), (1, LV.pv (PV.int IntKind.i64 k)),
              (2, LV.pv (PV.int IntKind.i64 r)), (7, LV.pv (PV.int IntKind.i64 (0 : Int)))],
            [])
          ([(0, LV.pv (PV.sl n f es)), (1, LV.pv (PV.int IntKind.i64 k)),
              (2, LV.pv (PV.int IntKind.i64 r)), (7, LV.pv (PV.int IntKind.i64 (0 : Int)))],
            []) ∧
        J (0 : Int)) ∧
      ∀ (x7 : Int),
        J x7 →
          if decide (x7 < (↑es.length : Int)) = true then
            idxOK es x7 5 ∧
              ∃ (n1 : Int),
                (List.drop 0 (es.getD x7.toNat [])).head? = some (PV.int IntKind.i64 n1) ∧
                  if (n1 == k) = true then
                    idxOK es x7 5 ∧
                      ∃ (n2 : Int),
                        (List.drop 1 (es.getD x7.toNat [])).head? = some (PV.int IntKind.i64 n2) ∧
                          if decide (n2 ≤ r) = true then
                            idxOK es x7 5 ∧
                              ∃ (n3 : Int),
                                (List.drop 2 (es.getD x7.toNat [])).head? = some (PV.int IntKind.i64 n3) ∧
                                  if decide (r ≤ n3) = true then R (PV.int IntKind.i64 x7)
                                  else
                                    SameSt
                                        ([(0, LV.pv (PV.sl n f es)), (1, LV.pv (PV.int IntKind.i64 k)),
                                            (2, LV.pv (PV.int IntKind.i64 r)),
                                            (7,
                                              LV.pv (PV.int IntKind.i64 (IntKind.i64.wrap (x7 + (1 : Int)))))],
                                          [])
                                        ([(0, LV.pv (PV.sl n f es)), (1, LV.pv (PV.int IntKind.i64 k)),
                                            (2, LV.pv (PV.int IntKind.i64 r)),
                                            (7,
                                              LV.pv (PV.int IntKind.i64 (IntKind.i64.wrap (x7 + (1 : Int)))))],
                                          []) ∧
                                      J (IntKind.i64.wrap (x7 + (1 : Int))) ∧
                                        μ (IntKind.i64.wrap (x7 + (1 : Int))) < μ x7
                          else
                            SameSt
                                ([(0, LV.pv (PV.sl n f es)), (1, LV.pv (PV.int IntKind.i64 k)),
                                    (2, LV.pv (PV.int IntKind.i64 r)),
                                    (7, LV.pv (PV.int IntKind.i64 (IntKind.i64.wrap (x7 + (1 : Int)))))],
                                  [])
                                ([(0, LV.pv (PV.sl n f es)), (1, LV.pv (PV.int IntKind.i64 k)),
                                    (2, LV.pv (PV.int IntKind.i64 r)),
                                    (7, LV.pv (PV.int IntKind.i64 (IntKind.i64.wrap (x7 + (1 : Int)))))],
                                  []) ∧
                              J (IntKind.i64.wrap (x7 + (1 : Int))) ∧ μ (IntKind.i64.wrap (x7 + (1 : Int))) < μ x7
                  else
                    SameSt
                        ([(0, LV.pv (PV.sl n f es)), (1, LV.pv (PV.int IntKind.i64 k)),
                            (2, LV.pv (PV.int IntKind.i64 r)),
                            (7, LV.pv (PV.int IntKind.i64 (IntKind.i64.wrap (x7 + (1 : Int)))))],
                          [])
                        ([(0, LV.pv (PV.sl n f es)), (1, LV.pv (PV.int IntKind.i64 k)),
                            (2, LV.pv (PV.int IntKind.i64 r)),
                            (7, LV.pv (PV.int IntKind.i64 (IntKind.i64.wrap (x7 + (1 : Int)))))],
                          []) ∧
                      J (IntKind.i64.wrap (x7 + (1 : Int))) ∧ μ (IntKind.i64.wrap (x7 + (1 : Int))) < μ x7
          else R (PV.int IntKind.i64 (-1 : Int))
theorem e_typebarref02_Find (n f : Bool) (es : List (List PV)) (k r : Int) (J : (Int) → Prop) (μ : (Int) → Nat) (R : PV → Prop) : aFn Try.prog (fun _ => none) Try.f33 [0, 1, 2, 6, 7, 13, 17, 44] (fun zz_ => match zz_ with | 4 => some ⟨Int × Unit, fun s => (fun (x7 : Int) => ([(0, LV.pv (PV.sl n f es)), (1, LV.pv (PV.int IntKind.i64 k)), (2, LV.pv (PV.int IntKind.i64 r)), (7, .pv (.int IntKind.i64 x7))], [])) s.1, fun _ s => J s.1, fun s => μ s.1, fun e h => (((gI e 7), ())), [], [0, 1, 2, 7], [], fun p => ∀ (x7 : Int), p (x7, ()), fun p h s => h s.1⟩ | _ => none) (Try.f33.body.getD .skip) [.sl n f es, .int .i64 k, .int .i64 r] R = r_typebarref02_Find n f es k r J μ R := by kernel_rfl
theorem a_typebarref02_Find (n f : Bool) (es : List (List PV)) (k r : Int) (J : (Int) → Prop) (μ : (Int) → Nat) {R : PV → Prop} (h : r_typebarref02_Find n f es k r J μ R) : PCall Try.prog 33 [.sl n f es, .int .i64 k, .int .i64 r] R :=
  PCall.of Try.func33 (by kernel_rfl) (by kernel_rfl) (Nat.le_of_ble_eq_true (by kernel_rfl)) (Eq.mpr (e_typebarref02_Find n f es k r J μ R) h)

def r_rows_At_1 (a b c d t : Int) (R : PV → Prop) : Prop :=

  if decide (b < t) = true then R (PV.int IntKind.i64 (-1 : Int))
  else if decide (a > t) = true then R (PV.int IntKind.i64 (1 : Int)) else R (PV.int IntKind.i64 (0 : Int))
theorem e_rows_At_1 (a b c d t : Int) (R : PV → Prop) : aFn Try.prog (fun _ => none) Try.f67 [0, 1, 2, 4, 5, 10] (fun _ => none) (Try.f67.body.getD .skip) [.agg [.int .i64 a, .int .i64 b, .int .i64 c, .int .i64 d], .int .i64 t] R = r_rows_At_1 a b c d t R := by kernel_rfl
theorem a_rows_At_1 (a b c d t : Int) {R : PV → Prop} (h : r_rows_At_1 a b c d t R) : PCall Try.prog 67 [.agg [.int .i64 a, .int .i64 b, .int .i64 c, .int .i64 d], .int .i64 t] R :=
  PCall.of Try.func67 (by kernel_rfl) (by kernel_rfl) (Nat.le_of_ble_eq_true (by kernel_rfl)) (Eq.mpr (e_rows_At_1 a b c d t R) h)

def r_slices_BinarySearchFunc_rows_Span_rows_Span_int (n f : Bool) (es : List (List PV)) (t : Int) (J : (Int) → (Int) → Prop) (μ : (Int) → (Int) → Nat) (R : PV → Prop) : Prop :=

  (SameSt
        ([(0, LV.pv (PV.sl n f es)), (1, LV.pv (PV.int IntKind.i64 t)),
            (2, LV.pv (PV.fn 67 [])), (8, LV.pv (PV.int IntKind.i64 (↑es.length : Int))),
            (9, LV.pv (PV.int IntKind.i64 (0 : Int))),
            (10, LV.pv (PV.int IntKind.i64 (↑es.length : Int)))],
          [])
        ([(0, LV.pv (PV.sl n f es)), (1, LV.pv (PV.int IntKind.i64 t)),
            (2, LV.pv (PV.fn 67 [])), (8, LV.pv (PV.int IntKind.i64 (↑es.length : Int))),
            (9, LV.pv (PV.int IntKind.i64 (0 : Int))),
            (10, LV.pv (PV.int IntKind.i64 (↑es.length : Int)))],
          []) ∧
      J (0 : Int) (↑es.length : Int)) ∧
    ∀ (x9 x10 : Int),
      J x9 x10 →
        if decide (x9 < x10) = true then
          idxOK es (IntKind.i64.wrap ((IntKind.u64.wrap (IntKind.i64.wrap (x9 + x10))).fdiv ((2 : Int) ^ 1)))
              4 ∧
            ∃ (n1 : Int),
              (es.getD
                      (IntKind.i64.wrap
                          ((IntKind.u64.wrap (IntKind.i64.wrap (x9 + x10))).fdiv ((2 : Int) ^ 1))).toNat
                      []).head? =
                  some (PV.int IntKind.i64 n1) ∧
                ∃ (n2 : Int),
                  (es.getD
                            (IntKind.i64.wrap
                                ((IntKind.u64.wrap (IntKind.i64.wrap (x9 + x10))).fdiv ((2 : Int) ^ 1))).toNat
                            []).tail.head? =
                      some (PV.int IntKind.i64 n2) ∧
                    ∃ (n3 : Int),
                      (es.getD
                                  (IntKind.i64.wrap
                                      ((IntKind.u64.wrap (IntKind.i64.wrap (x9 + x10))).fdiv
                                        ((2 : Int) ^ 1))).toNat
                                  []).tail.tail.head? =
                          some (PV.int IntKind.i64 n3) ∧
                        ∃ (n4 : Int),
                          (es.getD
                                        (IntKind.i64.wrap
                                            ((IntKind.u64.wrap (IntKind.i64.wrap (x9 + x10))).fdiv
                                              ((2 : Int) ^ 1))).toNat
                                        []).tail.tail.tail.head? =
                              some (PV.int IntKind.i64 n4) ∧
                            PCall Try.prog 67
                              [PV.agg
                                  [PV.int IntKind.i64 n1, PV.int IntKind.i64 n2, PV.int IntKind.i64 n3,
                                    PV.int IntKind.i64 n4],
                                PV.int IntKind.i64 t]
                              fun (v : PV) ↦
                              ∃ (n5 : Int),
                                v = PV.int IntKind.i64 n5 ∧
                                  if decide (n5 < (0 : Int)) = true then
                                    SameSt
                                        ([(0, LV.pv (PV.sl n f es)), (1, LV.pv (PV.int IntKind.i64 t)),
                                            (2, LV.pv (PV.fn 67 [])),
                                            (8, LV.pv (PV.int IntKind.i64 (↑es.length : Int))),
                                            (9,
                                              LV.pv
                                                (PV.int IntKind.i64
                                                  (IntKind.i64.wrap
                                                    (IntKind.i64.wrap
                                                        ((IntKind.u64.wrap (IntKind.i64.wrap (x9 + x10))).fdiv
                                                          ((2 : Int) ^ 1)) +
                                                      (1 : Int))))),
                                            (10, LV.pv (PV.int IntKind.i64 x10))],
                                          [])
                                        ([(0, LV.pv (PV.sl n f es)), (1, LV.pv (PV.int IntKind.i64 t)),
                                            (2, LV.pv (PV.fn 67 [])),
                                            (8, LV.pv (PV.int IntKind.i64 (↑es.length : Int))),
                                            (9,
                                              LV.pv
                                                (PV.int IntKind.i64
                                                  (IntKind.i64.wrap
                                                    (IntKind.i64.wrap
                                                        ((IntKind.u64.wrap (IntKind.i64.wrap (x9 + x10))).fdiv
                                                          ((2 : Int) ^ 1)) +
                                                      (1 : Int))))),
                                            (10, LV.pv (PV.int IntKind.i64 x10))],
                                          []) ∧
                                      J
                                          (IntKind.i64.wrap
                                            (IntKind.i64.wrap
                                                ((IntKind.u64.wrap (IntKind.i64.wrap (x9 + x10))).fdiv
                                                  ((2 : Int) ^ 1)) +
                                              (1 : Int)))
                                          x10 ∧
                                        μ
                                            (IntKind.i64.wrap
                                              (IntKind.i64.wrap
                                                  ((IntKind.u64.wrap (IntKind.i64.wrap (x9 + x10))).fdiv
                                                    ((2 : Int) ^ 1)) +
                                                (1 : Int)))
                                            x10 <
                                          μ x9 x10
                                  else
                                    SameSt
                                        ([(0, LV.pv (PV.sl n f es)), (1, LV.pv (PV.int IntKind.i64 t)),
                                            (2, LV.pv (PV.fn 67 [])),
                                            (8, LV.pv (PV.int IntKind.i64 (↑es.length : Int))),
                                            (9, LV.pv (PV.int IntKind.i64 x9)),
                                            (10,
                                              LV.pv
                                                (PV.int IntKind.i64
                                                  (IntKind.i64.wrap
                                                    ((IntKind.u64.wrap (IntKind.i64.wrap (x9 + x10))).fdiv
                                                      ((2 : Int) ^ 1)))))],
                                          [])
                                        ([(0, LV.pv (PV.sl n f es)), (1, LV.pv (PV.int IntKind.i64 t)),
                                            (2, LV.pv (PV.fn 67 [])),
                                            (8, LV.pv (PV.int IntKind.i64 (↑es.length : Int))),
                                            (9, LV.pv (PV.int IntKind.i64 x9)),
                                            (10,
                                              LV.pv
                                                (PV.int IntKind.i64
                                                  (IntKind.i64.wrap
                                                    ((IntKind.u64.wrap (IntKind.i64.wrap (x9 + x10))).fdiv
                                                      ((2 : Int) ^ 1)))))],
                                          []) ∧
                                      J x9
                                          (IntKind.i64.wrap
                                            ((IntKind.u64.wrap (IntKind.i64.wrap (x9 + x10))).fdiv
                                              ((2 : Int) ^ 1))) ∧
                                        μ x9
                                            (IntKind.i64.wrap
                                              ((IntKind.u64.wrap (IntKind.i64.wrap (x9 + x10))).fdiv
                                                ((2 : Int) ^ 1))) <
                                          μ x9 x10
        else
          if decide (x9 < (↑es.length : Int)) = true then
            idxOK es x9 4 ∧
              ∃ (n1 : Int),
                (es.getD x9.toNat []).head? = some (PV.int IntKind.i64 n1) ∧
                  ∃ (n2 : Int),
                    (es.getD x9.toNat []).tail.head? = some (PV.int IntKind.i64 n2) ∧
                      ∃ (n3 : Int),
                        (es.getD x9.toNat []).tail.tail.head? = some (PV.int IntKind.i64 n3) ∧
                          ∃ (n4 : Int),
                            (es.getD x9.toNat []).tail.tail.tail.head? = some (PV.int IntKind.i64 n4) ∧
                              PCall Try.prog 67
                                [PV.agg
                                    [PV.int IntKind.i64 n1, PV.int IntKind.i64 n2, PV.int IntKind.i64 n3,
                                      PV.int IntKind.i64 n4],
                                  PV.int IntKind.i64 t]
                                fun (v : PV) ↦
                                ∃ (n5 : Int),
                                  v = PV.int IntKind.i64 n5 ∧
                                    R (PV.tup [PV.int IntKind.i64 x9, PV.bool (n5 == (0 : Int))])
          else R (PV.tup [PV.int IntKind.i64 x9, PV.bool false])
theorem e_slices_BinarySearchFunc_rows_Span_rows_Span_int (n f : Bool) (es : List (List PV)) (t : Int) (J : (Int) → (Int) → Prop) (μ : (Int) → (Int) → Nat) (R : PV → Prop) : aFn Try.prog (fun _ => none) Try.f66 [0, 1, 2, 6, 7, 8, 9, 10, 11, 17, 31] (fun zz_ => match zz_ with | 3 => some ⟨Int × Int, fun s => (fun (x9 : Int) (x10 : Int) => ([(0, LV.pv (PV.sl n f es)), (1, LV.pv (PV.int IntKind.i64 t)), (2, LV.pv (PV.fn 67 [])), (8, LV.pv (PV.int IntKind.i64 ↑es.length)), (9, .pv (.int IntKind.i64 x9)), (10, .pv (.int IntKind.i64 x10))], [])) s.1 s.2, fun _ s => J s.1 s.2, fun s => μ s.1 s.2, fun e h => (gI e 9, gI e 10), [], [0, 1, 2, 8, 9, 10], [], fun p => ∀ (x9 : Int) (x10 : Int), p (x9, x10), fun p h s => h s.1 s.2⟩ | _ => none) (Try.f66.body.getD .skip) [.sl n f es, .int .i64 t, .fn 67 []] R = r_slices_BinarySearchFunc_rows_Span_rows_Span_int n f es t J μ R := by kernel_rfl
theorem a_slices_BinarySearchFunc_rows_Span_rows_Span_int (n f : Bool) (es : List (List PV)) (t : Int) (J : (Int) → (Int) → Prop) (μ : (Int) → (Int) → Nat) {R : PV → Prop} (h : r_slices_BinarySearchFunc_rows_Span_rows_Span_int n f es t J μ R) : PCall Try.prog 66 [.sl n f es, .int .i64 t, .fn 67 []] R :=
  PCall.of Try.func66 (by kernel_rfl) (by kernel_rfl) (Nat.le_of_ble_eq_true (by kernel_rfl)) (Eq.mpr (e_slices_BinarySearchFunc_rows_Span_rows_Span_int n f es t J μ R) h)

def r_rows_At (n f : Bool) (es : List (List PV)) (r : Int) (R : PV → Prop) : Prop :=

  PCall Try.prog 66 [PV.sl n f es, PV.int IntKind.i64 (IntKind.i64.wrap r), PV.fn 67 []]
    fun (v : PV) ↦
    ∃ (vs : List PV),
      v = PV.tup vs ∧
        vs.length = 2 ∧
          ∃ (x : PV),
            vs.head? = some x ∧
              ∃ (n1 : Int),
                x = PV.int IntKind.i64 n1 ∧
                  ∃ (x1 : PV),
                    vs.tail.head? = some x1 ∧
                      ∃ (b : Bool),
                        x1 = PV.bool b ∧
                          if (!b) = true then
                            R
                              (PV.tup
                                [PV.agg
                                    [PV.int IntKind.i64 (0 : Int), PV.int IntKind.i64 (0 : Int),
                                      PV.int IntKind.i64 (0 : Int), PV.int IntKind.i64 (0 : Int)],
                                  PV.bool false])
                          else
                            idxOK es n1 4 ∧
                              ∃ (n2 : Int),
                                (es.getD n1.toNat []).head? = some (PV.int IntKind.i64 n2) ∧
                                  ∃ (n3 : Int),
                                    (es.getD n1.toNat []).tail.head? = some (PV.int IntKind.i64 n3) ∧
                                      ∃ (n4 : Int),
                                        (es.getD n1.toNat []).tail.tail.head? = some (PV.int IntKind.i64 n4) ∧
                                          ∃ (n5 : Int),
                                            (es.getD n1.toNat []).tail.tail.tail.head? = some (PV.int IntKind.i64 n5) ∧
                                              R
                                                (PV.tup
                                                  [PV.agg
                                                      [PV.int IntKind.i64 n2, PV.int IntKind.i64 n3,
                                                        PV.int IntKind.i64 n4, PV.int IntKind.i64 n5],
                                                    PV.bool true])
theorem e_rows_At (n f : Bool) (es : List (List PV)) (r : Int) (R : PV → Prop) : aFn Try.prog (fun _ => none) Try.f34 [0, 1, 4, 5, 6, 7, 16] (fun _ => none) (Try.f34.body.getD .skip) [.sl n f es, .int .i32 r] R = r_rows_At n f es r R := by kernel_rfl
theorem a_rows_At (n f : Bool) (es : List (List PV)) (r : Int) {R : PV → Prop} (h : r_rows_At n f es r R) : PCall Try.prog 34 [.sl n f es, .int .i32 r] R :=
  PCall.of Try.func34 (by kernel_rfl) (by kernel_rfl) (Nat.le_of_ble_eq_true (by kernel_rfl)) (Eq.mpr (e_rows_At n f es r R) h)

def r_typebarlaw02_RowsSpans (n f : Bool) (es : List (List PV)) (k : Int) (J : (Bool) → (Bool) → (List (List PV)) → (Bool) → (Bool) → (List (List PV)) → (Bool) → (Bool) → (List (List PV)) → (Int) → Prop) (μ : (Bool) → (Bool) → (List (List PV)) → (Bool) → (Bool) → (List (List PV)) → (Bool) → (Bool) → (List (List PV)) → (Int) → Nat) (R : PV → Prop) : Prop :=

  PCall Try.prog 28 [PV.sl n f es] fun (v : PV) ↦
    ∃ (n1 : Bool),
      ∃ (f1 : Bool),
        ∃ (es1 : List (List PV)),
          v = PV.sl n1 f1 es1 ∧
            PCall Try.prog 29 [PV.sl n1 f1 es1, PV.int IntKind.i64 k] fun (v1 : PV) ↦
              ∃ (n2 : Bool),
                ∃ (f2 : Bool),
                  ∃ (es2 : List (List PV)),
                    v1 = PV.sl n2 f2 es2 ∧
                      PCall Try.prog 32 [PV.sl n1 f1 es1, PV.int IntKind.i64 k] fun (v2 : PV) ↦
                        ∃ (n3 : Bool),
                          ∃ (f3 : Bool),
                            ∃ (es3 : List (List PV)),
                              v2 = PV.sl n3 f3 es3 ∧
                                (SameSt
                                      ([(0, LV.pv (PV.sl n1 f1 es1)), (1, LV.pv (PV.int IntKind.i64 k)),
                                          (5, LV.pv (PV.sl n2 f2 es2)), (6, LV.pv (PV.sl n3 f3 es3)),
                                          (7, LV.pv (PV.int IntKind.i64 (0 : Int)))],
                                        [])
                                      ([(0, LV.pv (PV.sl n1 f1 es1)), (1, LV.pv (PV.int IntKind.i64 k)),
                                          (5, LV.pv (PV.sl n2 f2 es2)), (6, LV.pv (PV.sl n3 f3 es3)),
                                          (7, LV.pv (PV.int IntKind.i64 (0 : Int)))],
                                        []) ∧
                                    J n1 f1 es1 n2 f2 es2 n3 f3 es3 (0 : Int)) ∧
                                  ∀ (n0 f0 : Bool) (s0 : List (List PV)) (n5 f5 : Bool) (s5 : List (List PV))
                                    (n6 f6 : Bool) (s6 : List (List PV)) (x7 : Int),
                                    J n0 f0 s0 n5 f5 s5 n6 f6 s6 x7 →
                                      if decide (IntKind.i64.wrap (x7 + (1 : Int)) < (↑s6.length : Int)) = true then
                                        idxOK s6 x7 1 ∧
                                          ∃ (n4 : Int),
                                            (s6.getD x7.toNat []).head? = some (PV.int IntKind.i64 n4) ∧
                                              PCall Try.prog 33
                                                [PV.sl n0 f0 s0, PV.int IntKind.i64 k, PV.int IntKind.i64 n4]
                                                fun (v3 : PV) ↦
                                                ∃ (n7 : Int),
                                                  v3 = PV.int IntKind.i64 n7 ∧
                                                    idxOK s6 x7 1 ∧
                                                      ∃ (n8 : Int),
                                                        (s6.getD x7.toNat []).head? = some (PV.int IntKind.i64 n8) ∧
                                                          PCall Try.prog 34
                                                            [PV.sl n5 f5 s5, PV.int IntKind.i32 (IntKind.i32.wrap n8)]
                                                            fun (v4 : PV) ↦
                                                            ∃ (vs : List PV),
                                                              v4 = PV.tup vs ∧
                                                                vs.length = 2 ∧
                                                                  ∃ (x : PV),
                                                                    vs.head? = some x ∧
                                                                      ∃ (cs : List PV),
                                                                        x = PV.agg cs ∧
                                                                          cs.length = 4 ∧
                                                                            ∃ (n9 : Int),
                                                                              cs.head? = some (PV.int IntKind.i64 n9) ∧
                                                                                ∃ (n10 : Int),
                                                                                  cs.tail.head? =
                                                                                      some (PV.int IntKind.i64 n10) ∧
                                                                                    ∃ (n11 : Int),
                                                                                      cs.tail.tail.head? =
                                                                                          some
                                                                                            (PV.int IntKind.i64 n11) ∧
                                                                                        ∃ (n12 : Int),
                                                                                          cs.tail.tail.tail.head? =
                                                                                              some
                                                                                                (PV.int IntKind.i64
                                                                                                  n12) ∧
                                                                                            ∃ (x1 : PV),
                                                                                              vs.tail.head? = some x1 ∧
                                                                                                ∃ (b : Bool),
                                                                                                  x1 = PV.bool b ∧
                                                                                                    idxOK s6
                                                                                                        (IntKind.i64.wrap
                                                                                                          (x7 +
                                                                                                            (1 : Int)))
                                                                                                        1 ∧
                                                                                                      ∃ (n13 : Int),
                                                                                                        (s6.getD
                                                                                                                (IntKind.i64.wrap
                                                                                                                    (x7 +
                                                                                                                      (1 :
                                                                                                                        Int))).toNat
                                                                                                                []).head? =
                                                                                                            some
                                                                                                              (PV.int
                                                                                                                IntKind.i64
                                                                                                                n13) ∧
                                                                                                          PCall Try.prog
                                                                                                            34
                                                                                                            [PV.sl n5 f5
                                                                                                                s5,
                                                                                                              PV.int
                                                                                                                IntKind.i32
                                                                                                                (IntKind.i32.wrap
                                                                                                                  (IntKind.i64.wrap
                                                                                                                    (n13 -
                                                                                                                      (1 :
                                                                                                                        Int))))]
                                                                                                            fun
                                                                                                              (v5 :
                                                                                                                PV) ↦
                                                                                                            ∃ (vs1 :
                                                                                                              List PV),
                                                                                                              v5 =
                                                                                                                  PV.tup
                                                                                                                    vs1 ∧
                                                                                                                vs1.length =
                                                                                                                    nat_lit
                                                                                                                      2 ∧
                                                                                                                  ∃ (x2
                                                                                                                    :
                                                                                                                    PV),
                                                                                                                    vs1.head? =
                                                                                                                        some
                                                                                                                          x2 ∧
                                                                                                                      ∃
                                                                                                                        (cs1
                                                                                                                        :
                                                                                                                        List
                                                                                                                          PV),
                                                                                                                        x2 =
                                                                                                                            PV.agg
                                                                                                                              cs1 ∧
                                                                                                                          cs1.length =
                                                                                                                              nat_lit
                                                                                                                                4 ∧
                                                                                                                            ∃
                                                                                                                              (n14
                                                                                                                              :
                                                                                                                              Int),
                                                                                                                              cs1.head? =
                                                                                                                                  some
                                                                                                                                    (PV.int
                                                                                                                                      IntKind.i64
                                                                                                                                      n14) ∧
                                                                                                                                ∃
                                                                                                                                  (n15
                                                                                                                                  :
                                                                                                                                  Int),
                                                                                                                                  cs1.tail.head? =
                                                                                                                                      some
                                                                                                                                        (PV.int
                                                                                                                                          IntKind.i64
                                                                                                                                          n15) ∧
                                                                                                                                    ∃
                                                                                                                                      (n16
                                                                                                                                      :
                                                                                                                                      Int),
                                                                                                                                      cs1.tail.tail.head? =
                                                                                                                                          some
                                                                                                                                            (PV.int
                                                                                                                                              IntKind.i64
                                                                                                                                              n16) ∧
                                                                                                                                        ∃
                                                                                                                                          (n17
                                                                                                                                          :
                                                                                                                                          Int),
                                                                                                                                          cs1.tail.tail.tail.head? =
                                                                                                                                              some
                                                                                                                                                (PV.int
                                                                                                                                                  IntKind.i64
                                                                                                                                                  n17) ∧
                                                                                                                                            ∃
                                                                                                                                              (x3
                                                                                                                                              :
                                                                                                                                              PV),
                                                                                                                                              vs1.tail.head? =
                                                                                                                                                  some
                                                                                                                                                    x3 ∧
                                                                                                                                                ∃
                                                                                                                                                  (b1
                                                                                                                                                  :
                                                                                                                                                  Bool),
                                                                                                                                                  x3 =
                                                                                                                                                      PV.bool
                                                                                                                                                        b1 ∧
                                                                                                                                                    if
                                                                                                                                                        (b !=
                                                                                                                                                              decide
                                                                                                                                                                (n7 ≥
                                                                                                                                                                  (0 :
                                                                                                                                                                    Int)) ||
                                                                                                                                                            b1 !=
                                                                                                                                                              b) =
                                                                                                                                                          true then
                                                                                                                                                      R
                                                                                                                                                        (PV.bool
                                                                                                                                                          false)
                                                                                                                                                    else
                                                                                                                                                      if
                                                                                                                                                          ((bif
                                                                                                                                                                  false then
                                                                                                                                                                n9 ==
                                                                                                                                                                    n14 &&
                                                                                                                                                                  (n10 ==
                                                                                                                                                                      n15 &&
                                                                                                                                                                    (n11 ==
                                                                                                                                                                        n16 &&
                                                                                                                                                                      (n12 ==
                                                                                                                                                                          n17 &&
                                                                                                                                                                        true)))
                                                                                                                                                              else
                                                                                                                                                                !(n9 ==
                                                                                                                                                                      n14 &&
                                                                                                                                                                    (n10 ==
                                                                                                                                                                        n15 &&
                                                                                                                                                                      (n11 ==
                                                                                                                                                                          n16 &&
                                                                                                                                                                        (n12 ==
                                                                                                                                                                            n17 &&
                                                                                                                                                                          true))))) &&
                                                                                                                                                              b) =
                                                                                                                                                            true then
                                                                                                                                                        if
                                                                                                                                                            (n11 !=
                                                                                                                                                                n16) =
                                                                                                                                                              true then
                                                                                                                                                          R
                                                                                                                                                            (PV.bool
                                                                                                                                                              false)
                                                                                                                                                        else
                                                                                                                                                          if
                                                                                                                                                              (n12 !=
                                                                                                                                                                  n17) =
                                                                                                                                                                true then
                                                                                                                                                            R
                                                                                                                                                              (PV.bool
                                                                                                                                                                false)
                                                                                                                                                          else
                                                                                                                                                            if
                                                                                                                                                                b =
                                                                                                                                                                  true then
                                                                                                                                                              idxOK
                                                                                                                                                                  s6
                                                                                                                                                                  x7
                                                                                                                                                                  (nat_lit
                                                                                                                                                                    1) ∧
                                                                                                                                                                ∃
                                                                                                                                                                  (n18
                                                                                                                                                                  :
                                                                                                                                                                  Int),
                                                                                                                                                                  (s6.getD
                                                                                                                                                                          x7.toNat
                                                                                                                                                                          []).head? =
                                                                                                                                                                      some
                                                                                                                                                                        (PV.int
                                                                                                                                                                          IntKind.i64
                                                                                                                                                                          n18) ∧
                                                                                                                                                                    if
                                                                                                                                                                        decide
                                                                                                                                                                            (n9 >
                                                                                                                                                                              n18) =
                                                                                                                                                                          true then
                                                                                                                                                                      R
                                                                                                                                                                        (PV.bool
                                                                                                                                                                          false)
                                                                                                                                                                    else
                                                                                                                                                                      idxOK
                                                                                                                                                                          s6
                                                                                                                                                                          (IntKind.i64.wrap
                                                                                                                                                                            (x7 +
                                                                                                                                                                              (1 :
                                                                                                                                                                                Int)))
                                                                                                                                                                          (nat_lit
                                                                                                                                                                            1) ∧
                                                                                                                                                                        ∃
                                                                                                                                                                          (n19
                                                                                                                                                                          :
                                                                                                                                                                          Int),
                                                                                                                                                                          (s6.getD
                                                                                                                                                                                  (IntKind.i64.wrap
                                                                                                                                                                                      (x7 +
                                                                                                                                                                                        (1 :
                                                                                                                                                                                          Int))).toNat
                                                                                                                                                                                  []).head? =
                                                                                                                                                                              some
                                                                                                                                                                                (PV.int
                                                                                                                                                                                  IntKind.i64
                                                                                                                                                                                  n19) ∧
                                                                                                                                                                            if
                                                                                                                                                                                decide
                                                                                                                                                                                    (n15 <
                                                                                                                                                                                      IntKind.i64.wrap
                                                                                                                                                                                        (n19 -
                                                                                                                                                                                          (1 :
                                                                                                                                                                                            Int))) =
                                                                                                                                                                                  true then
                                                                                                                                                                              R
                                                                                                                                                                                (PV.bool
                                                                                                                                                                                  false)
                                                                                                                                                                            else
                                                                                                                                                                              idxOK
                                                                                                                                                                                  s0
                                                                                                                                                                                  n7
                                                                                                                                                                                  (nat_lit
                                                                                                                                                                                    5) ∧
                                                                                                                                                                                ∃
                                                                                                                                                                                  (n20
                                                                                                                                                                                  :
                                                                                                                                                                                  Int),
                                                                                                                                                                                  (List.drop
                                                                                                                                                                                          (nat_lit
                                                                                                                                                                                            3)
                                                                                                                                                                                          (s0.getD
                                                                                                                                                                                            n7.toNat
                                                                                                                                                                                            [])).head? =
                                                                                                                                                                                      some
                                                                                                                                                                                        (PV.int
                                                                                                                                                                                          IntKind.i64
                                                                                                                                                                                          n20) ∧
                                                                                                                                                                                    if
                                                                                                                                                                                        (n11 !=
                                                                                                                                                                                            n20) =
                                                                                                                                                                                          true then
                                                                                                                                                                                      R
                                                                                                                                                                                        (PV.bool
                                                                                                                                                                                          false)
                                                                                                                                                                                    else
                                                                                                                                                                                      idxOK
                                                                                                                                                                                          s0
                                                                                                                                                                                          n7
                                                                                                                                                                                          (nat_lit
                                                                                                                                                                                            5) ∧
                                                                                                                                                                                        ∃
                                                                                                                                                                                          (n21
                                                                                                                                                                                          :
                                                                                                                                                                                          Int),
                                                                                                                                                                                          (List.drop
                                                                                                                                                                                                  (nat_lit
                                                                                                                                                                                                    4)
                                                                                                                                                                                                  (s0.getD
                                                                                                                                                                                                    n7.toNat
                                                                                                                                                                                                    [])).head? =
                                                                                                                                                                                              some
                                                                                                                                                                                                (PV.int
                                                                                                                                                                                                  IntKind.i64
                                                                                                                                                                                                  n21) ∧
                                                                                                                                                                                            if
                                                                                                                                                                                                (n12 !=
                                                                                                                                                                                                    n21) =
                                                                                                                                                                                                  true then
                                                                                                                                                                                              R
                                                                                                                                                                                                (PV.bool
                                                                                                                                                                                                  false)
                                                                                                                                                                                            else
                                                                                                                                                                                              SameSt
                                                                                                                                                                                                  ([(nat_lit
                                                                                                                                                                                                          0,
                                                                                                                                                                                                        LV.pv
                                                                                                                                                                                                          (PV.sl
                                                                                                                                                                                                            n0
                                                                                                                                                                                                            f0
                                                                                                                                                                                                            s0)),
                                                                                                                                                                                                      (nat_lit
                                                                                                                                                                                                          1,
                                                                                                                                                                                                        LV.pv
                                                                                                                                                                                                          (PV.int
                                                                                                                                                                                                            IntKind.i64
                                                                                                                                                                                                            k)),
                                                                                                                                                                                                      (nat_lit
                                                                                                                                                                                                          5,
                                                                                                                                                                                                        LV.pv
                                                                                                                                                                                                          (PV.sl
                                                                                                                                                                                                            n5
                                                                                                                                                                                                            f5
                                                                                                                                                                                                            s5)),
                                                                                                                                                                                                      (nat_lit
                                                                                                                                                                                                          6,
                                                                                                                                                                                                        LV.pv
                                                                                                                                                                                                          (PV.sl
                                                                                                                                                                                                            n6
                                                                                                                                                                                                            f6
                                                                                                                                                                                                            s6)),
                                                                                                                                                                                                      (nat_lit
                                                                                                                                                                                                          7,
                                                                                                                                                                                                        LV.pv
                                                                                                                                                                                                          (PV.int
                                                                                                                                                                                                            IntKind.i64
                                                                                                                                                                                                            (IntKind.i64.wrap
                                                                                                                                                                                                              (x7 +
                                                                                                                                                                                                                (1 :
                                                                                                                                                                                                                  Int)))))],
                                                                                                                                                                                                    [])
                                                                                                                                                                                                  ([(nat_lit
                                                                                                                                                                                                          0,
                                                                                                                                                                                                        LV.pv
                                                                                                                                                                                                          (PV.sl
                                                                                                                                                                                                            n0
                                                                                                                                                                                                            f0
                                                                                                                                                                                                            s0)),
                                                                                                                                                                                                      (nat_lit
                                                                                                                                                                                                          1,
                                                                                                                                                                                                        LV.pv
                                                                                                                                                                                                          (PV.int
                                                                                                                                                                                                            IntKind.i64
                                                                                                                                                                                                            k)),
                                                                                                                                                                                                      (nat_lit
                                                                                                                                                                                                          5,
                                                                                                                                                                                                        LV.pv
                                                                                                                                                                                                          (PV.sl
                                                                                                                                                                                                            n5
                                                                                                                                                                                                            f5
                                                                                                                                                                                                            s5)),
                                                                                                                                                                                                      (nat_lit
                                                                                                                                                                                                          6,
                                                                                                                                                                                                        LV.pv
                                                                                                                                                                                                          (PV.sl
                                                                                                                                                                                                            n6
                                                                                                                                                                                                            f6
                                                                                                                                                                                                            s6)),
                                                                                                                                                                                                      (nat_lit
                                                                                                                                                                                                          7,
                                                                                                                                                                                                        LV.pv
                                                                                                                                                                                                          (PV.int
                                                                                                                                                                                                            IntKind.i64
                                                                                                                                                                                                            (IntKind.i64.wrap
                                                                                                                                                                                                              (x7 +
                                                                                                                                                                                                                (1 :
                                                                                                                                                                                                                  Int)))))],
                                                                                                                                                                                                    []) ∧
                                                                                                                                                                                                J
                                                                                                                                                                                                    n0
                                                                                                                                                                                                    f0
                                                                                                                                                                                                    s0
                                                                                                                                                                                                    n5
                                                                                                                                                                                                    f5
                                                                                                                                                                                                    s5
                                                                                                                                                                                                    n6
                                                                                                                                                                                                    f6
                                                                                                                                                                                                    s6
                                                                                                                                                                                                    (IntKind.i64.wrap
                                                                                                                                                                                                      (x7 +
                                                                                                                                                                                                        (1 :
                                                                                                                                                                                                          Int))) ∧
                                                                                                                                                                                                  μ
                                                                                                                                                                                                      n0
                                                                                                                                                                                                      f0
                                                                                                                                                                                                      s0
                                                                                                                                                                                                      n5
                                                                                                                                                                                                      f5
                                                                                                                                                                                                      s5
                                                                                                                                                                                                      n6
                                                                                                                                                                                                      f6
                                                                                                                                                                                                      s6
                                                                                                                                                                                                      (IntKind.i64.wrap
                                                                                                                                                                                                        (x7 +
                                                                                                                                                                                                          (1 :
                                                                                                                                                                                                            Int))) <
                                                                                                                                                                                                    μ
                                                                                                                                                                                                      n0
                                                                                                                                                                                                      f0
                                                                                                                                                                                                      s0
                                                                                                                                                                                                      n5
                                                                                                                                                                                                      f5
                                                                                                                                                                                                      s5
                                                                                                                                                                                                      n6
                                                                                                                                                                                                      f6
                                                                                                                                                                                                      s6
                                                                                                                                                                                                      x7
                                                                                                                                                            else
                                                                                                                                                              SameSt
                                                                                                                                                                  ([(nat_lit
                                                                                                                                                                          0,
                                                                                                                                                                        LV.pv
                                                                                                                                                                          (PV.sl
                                                                                                                                                                            n0
                                                                                                                                                                            f0
                                                                                                                                                                            s0)),
                                                                                                                                                                      (nat_lit
                                                                                                                                                                          1,
                                                                                                                                                                        LV.pv
                                                                                                                                                                          (PV.int
                                                                                                                                                                            IntKind.i64
                                                                                                                                                                            k)),
                                                                                                                                                                      (nat_lit
                                                                                                                                                                          5,
                                                                                                                                                                        LV.pv
                                                                                                                                                                          (PV.sl
                                                                                                                                                                            n5
                                                                                                                                                                            f5
                                                                                                                                                                            s5)),
                                                                                                                                                                      (nat_lit
                                                                                                                                                                          6,
                                                                                                                                                                        LV.pv
                                                                                                                                                                          (PV.sl
                                                                                                                                                                            n6
                                                                                                                                                                            f6
                                                                                                                                                                            s6)),
                                                                                                                                                                      (nat_lit
                                                                                                                                                                          7,
                                                                                                                                                                        LV.pv
                                                                                                                                                                          (PV.int
                                                                                                                                                                            IntKind.i64
                                                                                                                                                                            (IntKind.i64.wrap
                                                                                                                                                                              (x7 +
                                                                                                                                                                                (1 :
                                                                                                                                                                                  Int)))))],
                                                                                                                                                                    [])
                                                                                                                                                                  ([(nat_lit
                                                                                                                                                                          0,
                                                                                                                                                                        LV.pv
                                                                                                                                                                          (PV.sl
                                                                                                                                                                            n0
                                                                                                                                                                            f0
                                                                                                                                                                            s0)),
                                                                                                                                                                      (nat_lit
                                                                                                                                                                          1,
                                                                                                                                                                        LV.pv
                                                                                                                                                                          (PV.int
                                                                                                                                                                            IntKind.i64
                                                                                                                                                                            k)),
                                                                                                                                                                      (nat_lit
                                                                                                                                                                          5,
                                                                                                                                                                        LV.pv
                                                                                                                                                                          (PV.sl
                                                                                                                                                                            n5
                                                                                                                                                                            f5
                                                                                                                                                                            s5)),
                                                                                                                                                                      (nat_lit
                                                                                                                                                                          6,
                                                                                                                                                                        LV.pv
                                                                                                                                                                          (PV.sl
                                                                                                                                                                            n6
                                                                                                                                                                            f6
                                                                                                                                                                            s6)),
                                                                                                                                                                      (nat_lit
                                                                                                                                                                          7,
                                                                                                                                                                        LV.pv
                                                                                                                                                                          (PV.int
                                                                                                                                                                            IntKind.i64
                                                                                                                                                                            (IntKind.i64.wrap
                                                                                                                                                                              (x7 +
                                                                                                                                                                                (1 :
                                                                                                                                                                                  Int)))))],
                                                                                                                                                                    []) ∧
                                                                                                                                                                J
                                                                                                                                                                    n0
                                                                                                                                                                    f0
                                                                                                                                                                    s0
                                                                                                                                                                    n5
                                                                                                                                                                    f5
                                                                                                                                                                    s5
                                                                                                                                                                    n6
                                                                                                                                                                    f6
                                                                                                                                                                    s6
                                                                                                                                                                    (IntKind.i64.wrap
                                                                                                                                                                      (x7 +
                                                                                                                                                                        (1 :
                                                                                                                                                                          Int))) ∧
                                                                                                                                                                  μ
                                                                                                                                                                      n0
                                                                                                                                                                      f0
                                                                                                                                                                      s0
                                                                                                                                                                      n5
                                                                                                                                                                      f5
                                                                                                                                                                      s5
                                                                                                                                                                      n6
                                                                                                                                                                      f6
                                                                                                                                                                      s6
                                                                                                                                                                      (IntKind.i64.wrap
                                                                                                                                                                        (x7 +
                                                                                                                                                                          (1 :
                                                                                                                                                                            Int))) <
                                                                                                                                                                    μ
                                                                                                                                                                      n0
                                                                                                                                                                      f0
                                                                                                                                                                      s0
                                                                                                                                                                      n5
                                                                                                                                                                      f5
                                                                                                                                                                      s5
                                                                                                                                                                      n6
                                                                                                                                                                      f6
                                                                                                                                                                      s6
                                                                                                                                                                      x7
                                                                                                                                                      else
                                                                                                                                                        if
                                                                                                                                                            b =
                                                                                                                                                              true then
                                                                                                                                                          idxOK
                                                                                                                                                              s6
                                                                                                                                                              x7
                                                                                                                                                              (nat_lit
                                                                                                                                                                1) ∧
                                                                                                                                                            ∃
                                                                                                                                                              (n18
                                                                                                                                                              :
                                                                                                                                                              Int),
                                                                                                                                                              (s6.getD
                                                                                                                                                                      x7.toNat
                                                                                                                                                                      []).head? =
                                                                                                                                                                  some
                                                                                                                                                                    (PV.int
                                                                                                                                                                      IntKind.i64
                                                                                                                                                                      n18) ∧
                                                                                                                                                                if
                                                                                                                                                                    decide
                                                                                                                                                                        (n9 >
                                                                                                                                                                          n18) =
                                                                                                                                                                      true then
                                                                                                                                                                  R
                                                                                                                                                                    (PV.bool
                                                                                                                                                                      false)
                                                                                                                                                                else
                                                                                                                                                                  idxOK
                                                                                                                                                                      s6
                                                                                                                                                                      (IntKind.i64.wrap
                                                                                                                                                                        (x7 +
                                                                                                                                                                          (1 :
                                                                                                                                                                            Int)))
                                                                                                                                                                      (nat_lit
                                                                                                                                                                        1) ∧
                                                                                                                                                                    ∃
                                                                                                                                                                      (n19
                                                                                                                                                                      :
                                                                                                                                                                      Int),
                                                                                                                                                                      (s6.getD
                                                                                                                                                                              (IntKind.i64.wrap
                                                                                                                                                                                  (x7 +
                                                                                                                                                                                    (1 :
                                                                                                                                                                                      Int))).toNat
                                                                                                                                                                              []).head? =
                                                                                                                                                                          some
                                                                                                                                                                            (PV.int
                                                                                                                                                                              IntKind.i64
                                                                                                                                                                              n19) ∧
                                                                                                                                                                        if
                                                                                                                                                                            decide
                                                                                                                                                                                (n15 <
                                                                                                                                                                                  IntKind.i64.wrap
                                                                                                                                                                                    (n19 -
                                                                                                                                                                                      (1 :
                                                                                                                                                                                        Int))) =
                                                                                                                                                                              true then
                                                                                                                                                                          R
                                                                                                                                                                            (PV.bool
                                                                                                                                                                              false)
                                                                                                                                                                        else
                                                                                                                                                                          idxOK
                                                                                                                                                                              s0
                                                                                                                                                                              n7
                                                                                                                                                                              (nat_lit
                                                                                                                                                                                5) ∧
                                                                                                                                                                            ∃
                                                                                                                                                                              (n20
                                                                                                                                                                              :
                                                                                                                                                                              Int),
                                                                                                                                                                              (List.drop
                                                                                                                                                                                      (nat_lit
                                                                                                                                                                                        3)
                                                                                                                                                                                      (s0.getD
                                                                                                                                                                                        n7.toNat
                                                                                                                                                                                        [])).head? =
                                                                                                                                                                                  some
                                                                                                                                                                                    (PV.int
                                                                                                                                                                                      IntKind.i64
                                                                                                                                                                                      n20) ∧
                                                                                                                                                                                if
                                                                                                                                                                                    (n11 !=
                                                                                                                                                                                        n20) =
                                                                                                                                                                                      true then
                                                                                                                                                                                  R
                                                                                                                                                                                    (PV.bool
                                                                                                                                                                                      false)
                                                                                                                                                                                else
                                                                                                                                                                                  idxOK
                                                                                                                                                                                      s0
                                                                                                                                                                                      n7
                                                                                                                                                                                      (nat_lit
                                                                                                                                                                                        5) ∧
                                                                                                                                                                                    ∃
                                                                                                                                                                                      (n21
                                                                                                                                                                                      :
                                                                                                                                                                                      Int),
                                                                                                                                                                                      (List.drop
                                                                                                                                                                                              (nat_lit
                                                                                                                                                                                                4)
                                                                                                                                                                                              (s0.getD
                                                                                                                                                                                                n7.toNat
                                                                                                                                                                                                [])).head? =
                                                                                                                                                                                          some
                                                                                                                                                                                            (PV.int
                                                                                                                                                                                              IntKind.i64
                                                                                                                                                                                              n21) ∧
                                                                                                                                                                                        if
                                                                                                                                                                                            (n12 !=
                                                                                                                                                                                                n21) =
                                                                                                                                                                                              true then
                                                                                                                                                                                          R
                                                                                                                                                                                            (PV.bool
                                                                                                                                                                                              false)
                                                                                                                                                                                        else
                                                                                                                                                                                          SameSt
                                                                                                                                                                                              ([(nat_lit
                                                                                                                                                                                                      0,
                                                                                                                                                                                                    LV.pv
                                                                                                                                                                                                      (PV.sl
                                                                                                                                                                                                        n0
                                                                                                                                                                                                        f0
                                                                                                                                                                                                        s0)),
                                                                                                                                                                                                  (nat_lit
                                                                                                                                                                                                      1,
                                                                                                                                                                                                    LV.pv
                                                                                                                                                                                                      (PV.int
                                                                                                                                                                                                        IntKind.i64
                                                                                                                                                                                                        k)),
                                                                                                                                                                                                  (nat_lit
                                                                                                                                                                                                      5,
                                                                                                                                                                                                    LV.pv
                                                                                                                                                                                                      (PV.sl
                                                                                                                                                                                                        n5
                                                                                                                                                                                                        f5
                                                                                                                                                                                                        s5)),
                                                                                                                                                                                                  (nat_lit
                                                                                                                                                                                                      6,
                                                                                                                                                                                                    LV.pv
                                                                                                                                                                                                      (PV.sl
                                                                                                                                                                                                        n6
                                                                                                                                                                                                        f6
                                                                                                                                                                                                        s6)),
                                                                                                                                                                                                  (nat_lit
                                                                                                                                                                                                      7,
                                                                                                                                                                                                    LV.pv
                                                                                                                                                                                                      (PV.int
                                                                                                                                                                                                        IntKind.i64
                                                                                                                                                                                                        (IntKind.i64.wrap
                                                                                                                                                                                                          (x7 +
                                                                                                                                                                                                            (1 :
                                                                                                                                                                                                              Int)))))],
                                                                                                                                                                                                [])
                                                                                                                                                                                              ([(nat_lit
                                                                                                                                                                                                      0,
                                                                                                                                                                                                    LV.pv
                                                                                                                                                                                                      (PV.sl
                                                                                                                                                                                                        n0
                                                                                                                                                                                                        f0
                                                                                                                                                                                                        s0)),
                                                                                                                                                                                                  (nat_lit
                                                                                                                                                                                                      1,
                                                                                                                                                                                                    LV.pv
                                                                                                                                                                                                      (PV.int
                                                                                                                                                                                                        IntKind.i64
                                                                                                                                                                                                        k)),
                                                                                                                                                                                                  (nat_lit
                                                                                                                                                                                                      5,
                                                                                                                                                                                                    LV.pv
                                                                                                                                                                                                      (PV.sl
                                                                                                                                                                                                        n5
                                                                                                                                                                                                        f5
                                                                                                                                                                                                        s5)),
                                                                                                                                                                                                  (nat_lit
                                                                                                                                                                                                      6,
                                                                                                                                                                                                    LV.pv
                                                                                                                                                                                                      (PV.sl
                                                                                                                                                                                                        n6
                                                                                                                                                                                                        f6
                                                                                                                                                                                                        s6)),
                                                                                                                                                                                                  (nat_lit
                                                                                                                                                                                                      7,
                                                                                                                                                                                                    LV.pv
                                                                                                                                                                                                      (PV.int
                                                                                                                                                                                                        IntKind.i64
                                                                                                                                                                                                        (IntKind.i64.wrap
                                                                                                                                                                                                          (x7 +
                                                                                                                                                                                                            (1 :
                                                                                                                                                                                                              Int)))))],
                                                                                                                                                                                                []) ∧
                                                                                                                                                                                            J
                                                                                                                                                                                                n0
                                                                                                                                                                                                f0
                                                                                                                                                                                                s0
                                                                                                                                                                                                n5
                                                                                                                                                                                                f5
                                                                                                                                                                                                s5
                                                                                                                                                                                                n6
                                                                                                                                                                                                f6
                                                                                                                                                                                                s6
                                                                                                                                                                                                (IntKind.i64.wrap
                                                                                                                                                                                                  (x7 +
                                                                                                                                                                                                    (1 :
                                                                                                                                                                                                      Int))) ∧
                                                                                                                                                                                              μ
                                                                                                                                                                                                  n0
                                                                                                                                                                                                  f0
                                                                                                                                                                                                  s0
                                                                                                                                                                                                  n5
                                                                                                                                                                                                  f5
                                                                                                                                                                                                  s5
                                                                                                                                                                                                  n6
                                                                                                                                                                                                  f6
                                                                                                                                                                                                  s6
                                                                                                                                                                                                  (IntKind.i64.wrap
                                                                                                                                                                                                    (x7 +
                                                                                                                                                                                                      (1 :
                                                                                                                                                                                                        Int))) <
                                                                                                                                                                                                μ
                                                                                                                                                                                                  n0
                                                                                                                                                                                                  f0
                                                                                                                                                                                                  s0
                                                                                                                                                                                                  n5
                                                                                                                                                                                                  f5
                                                                                                                                                                                                  s5
                                                                                                                                                                                                  n6
                                                                                                                                                                                                  f6
                                                                                                                                                                                                  s6
                                                                                                                                                                                                  x7
                                                                                                                                                        else
                                                                                                                                                          SameSt
                                                                                                                                                              ([(nat_lit
                                                                                                                                                                      0,
                                                                                                                                                                    LV.pv
                                                                                                                                                                      (PV.sl
                                                                                                                                                                        n0
                                                                                                                                                                        f0
                                                                                                                                                                        s0)),
                                                                                                                                                                  (nat_lit
                                                                                                                                                                      1,
                                                                                                                                                                    LV.pv
                                                                                                                                                                      (PV.int
                                                                                                                                                                        IntKind.i64
                                                                                                                                                                        k)),
                                                                                                                                                                  (nat_lit
                                                                                                                                                                      5,
                                                                                                                                                                    LV.pv
                                                                                                                                                                      (PV.sl
                                                                                                                                                                        n5
                                                                                                                                                                        f5
                                                                                                                                                                        s5)),
                                                                                                                                                                  (nat_lit
                                                                                                                                                                      6,
                                                                                                                                                                    LV.pv
                                                                                                                                                                      (PV.sl
                                                                                                                                                                        n6
                                                                                                                                                                        f6
                                                                                                                                                                        s6)),
                                                                                                                                                                  (nat_lit
                                                                                                                                                                      7,
                                                                                                                                                                    LV.pv
                                                                                                                                                                      (PV.int
                                                                                                                                                                        IntKind.i64
                                                                                                                                                                        (IntKind.i64.wrap
                                                                                                                                                                          (x7 +
                                                                                                                                                                            (1 :
                                                                                                                                                                              Int)))))],
                                                                                                                                                                [])
                                                                                                                                                              ([(nat_lit
                                                                                                                                                                      0,
                                                                                                                                                                    LV.pv
                                                                                                                                                                      (PV.sl
                                                                                                                                                                        n0
                                                                                                                                                                        f0
                                                                                                                                                                        s0)),
                                                                                                                                                                  (nat_lit
                                                                                                                                                                      1,
                                                                                                                                                                    LV.pv
                                                                                                                                                                      (PV.int
                                                                                                                                                                        IntKind.i64
                                                                                                                                                                        k)),
                                                                                                                                                                  (nat_lit
                                                                                                                                                                      5,
                                                                                                                                                                    LV.pv
                                                                                                                                                                      (PV.sl
                                                                                                                                                                        n5
                                                                                                                                                                        f5
                                                                                                                                                                        s5)),
                                                                                                                                                                  (nat_lit
                                                                                                                                                                      6,
                                                                                                                                                                    LV.pv
                                                                                                                                                                      (PV.sl
                                                                                                                                                                        n6
                                                                                                                                                                        f6
                                                                                                                                                                        s6)),
                                                                                                                                                                  (nat_lit
                                                                                                                                                                      7,
                                                                                                                                                                    LV.pv
                                                                                                                                                                      (PV.int
                                                                                                                                                                        IntKind.i64
                                                                                                                                                                        (IntKind.i64.wrap
                                                                                                                                                                          (x7 +
                                                                                                                                                                            (1 :
                                                                                                                                                                              Int)))))],
                                                                                                                                                                []) ∧
                                                                                                                                                            J
                                                                                                                                                                n0
                                                                                                                                                                f0
                                                                                                                                                                s0
                                                                                                                                                                n5
                                                                                                                                                                f5
                                                                                                                                                                s5
                                                                                                                                                                n6
                                                                                                                                                                f6
                                                                                                                                                                s6
                                                                                                                                                                (IntKind.i64.wrap
                                                                                                                                                                  (x7 +
                                                                                                                                                                    (1 :
                                                                                                                                                                      Int))) ∧
                                                                                                                                                              μ
                                                                                                                                                                  n0
                                                                                                                                                                  f0
                                                                                                                                                                  s0
                                                                                                                                                                  n5
                                                                                                                                                                  f5
                                                                                                                                                                  s5
                                                                                                                                                                  n6
                                                                                                                                                                  f6
                                                                                                                                                                  s6
                                                                                                                                                                  (IntKind.i64.wrap
                                                                                                                                                                    (x7 +
                                                                                                                                                                      (1 :
                                                                                                                                                                        Int))) <
                                                                                                                                                                μ
                                                                                                                                                                  n0
                                                                                                                                                                  f0
                                                                                                                                                                  s0
                                                                                                                                                                  n5
                                                                                                                                                                  f5
                                                                                                                                                                  s5
                                                                                                                                                                  n6
                                                                                                                                                                  f6
                                                                                                                                                                  s6
                                                                                                                                                                  x7
                                      else
                                        PCall Try.prog 31 [] fun (v3 : PV) ↦
                                          ∃ (b : Bool), v3 = PV.bool b ∧ R (PV.bool b)
theorem e_typebarlaw02_RowsSpans (n f : Bool) (es : List (List PV)) (k : Int) (J : (Bool) → (Bool) → (List (List PV)) → (Bool) → (Bool) → (List (List PV)) → (Bool) → (Bool) → (List (List PV)) → (Int) → Prop) (μ : (Bool) → (Bool) → (List (List PV)) → (Bool) → (Bool) → (List (List PV)) → (Bool) → (Bool) → (List (List PV)) → (Int) → Nat) (R : PV → Prop) : aFn Try.prog (fun _ => none) Try.f7 [0, 1, 4, 5, 6, 7, 8, 9, 10, 11, 12, 25, 87, 128] (fun zz_ => match zz_ with | 5 => some ⟨Bool × Bool × (List (List PV)) × Bool × Bool × (List (List PV)) × Bool × Bool × (List (List PV)) × Int, fun s => (fun (n0 : Bool) (f0 : Bool) (s0 : List (List PV)) (n5 : Bool) (f5 : Bool) (s5 : List (List PV)) (n6 : Bool) (f6 : Bool) (s6 : List (List PV)) (x7 : Int) => ([(0, .pv (.sl n0 f0 s0)), (1, LV.pv (PV.int IntKind.i64 k)), (5, .pv (.sl n5 f5 s5)), (6, .pv (.sl n6 f6 s6)), (7, .pv (.int IntKind.i64 x7))], [])) s.1 s.2.1 s.2.2.1 s.2.2.2.1 s.2.2.2.2.1 s.2.2.2.2.2.1 s.2.2.2.2.2.2.1 s.2.2.2.2.2.2.2.1 s.2.2.2.2.2.2.2.2.1 s.2.2.2.2.2.2.2.2.2, fun _ s => J s.1 s.2.1 s.2.2.1 s.2.2.2.1 s.2.2.2.2.1 s.2.2.2.2.2.1 s.2.2.2.2.2.2.1 s.2.2.2.2.2.2.2.1 s.2.2.2.2.2.2.2.2.1 s.2.2.2.2.2.2.2.2.2, fun s => μ s.1 s.2.1 s.2.2.1 s.2.2.2.1 s.2.2.2.2.1 s.2.2.2.2.2.1 s.2.2.2.2.2.2.1 s.2.2.2.2.2.2.2.1 s.2.2.2.2.2.2.2.2.1 s.2.2.2.2.2.2.2.2.2, fun e h => (gN e 0, gF e 0, gS e 0, gN e 5, gF e 5, gS e 5, gN e 6, gF e 6, gS e 6, gI e 7), [], [0, 1, 5, 6, 7], [], fun p => ∀ (n0 : Bool) (f0 : Bool) (s0 : List (List PV)) (n5 : Bool) (f5 : Bool) (s5 : List (List PV)) (n6 : Bool) (f6 : Bool) (s6 : List (List PV)) (x7 : Int), p (n0, f0, s0, n5, f5, s5, n6, f6, s6, x7), fun p h s => h s.1 s.2.1 s.2.2.1 s.2.2.2.1 s.2.2.2.2.1 s.2.2.2.2.2.1 s.2.2.2.2.2.2.1 s.2.2.2.2.2.2.2.1 s.2.2.2.2.2.2.2.2.1 s.2.2.2.2.2.2.2.2.2⟩ | _ => none) (Try.f7.body.getD .skip) [.sl n f es, .int .i64 k] R = r_typebarlaw02_RowsSpans n f es k J μ R := by kernel_rfl
theorem a_typebarlaw02_RowsSpans (n f : Bool) (es : List (List PV)) (k : Int) (J : (Bool) → (Bool) → (List (List PV)) → (Bool) → (Bool) → (List (List PV)) → (Bool) → (Bool) → (List (List PV)) → (Int) → Prop) (μ : (Bool) → (Bool) → (List (List PV)) → (Bool) → (Bool) → (List (List PV)) → (Bool) → (Bool) → (List (List PV)) → (Int) → Nat) {R : PV → Prop} (h : r_typebarlaw02_RowsSpans n f es k J μ R) : PCall Try.prog 7 [.sl n f es, .int .i64 k] R :=
  PCall.of Try.func7 (by kernel_rfl) (by kernel_rfl) (Nat.le_of_ble_eq_true (by kernel_rfl)) (Eq.mpr (e_typebarlaw02_RowsSpans n f es k J μ R) h)

end Go.Eng
