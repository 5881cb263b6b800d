/- Abstract states run over the code; what each function gives, printed by program and checked by the kernel; and what follows of it. -/
import Derived.Test.YtcppblalhdhlcaaRowsspansTa
set_option linter.unusedVariables false
set_option maxRecDepth 100000
set_option linter.constructorNameAsVariable false
namespace Go.Eng
open Go Go.Proofs
def r_typebarref02_add (n f : Bool) (es : List (List PV)) (k : Int) (J : (Bool) → (Int) → (Bool) → (List (List PV)) → Prop) (μ : (Bool) → (Int) → (Bool) → (List (List PV)) → Nat) (R : PV → Prop) : Prop :=

  if (decide (k < (0 : Int)) || decide (k > (1114111 : Int))) = true then R (PV.sl n f es)
  else
    (SameSt
          ([(0, LV.pv (PV.sl n f es)), (1, LV.pv (PV.int IntKind.i64 k)),
              (5, LV.own 0), (6, LV.pv (PV.bool false)),
              (7, LV.pv (PV.int IntKind.i64 (0 : Int)))],
            [Ob.sl (3, 1) true true []])
          ([(0, LV.pv (PV.sl n f es)), (1, LV.pv (PV.int IntKind.i64 k)),
              (5, LV.own 0), (6, LV.pv (PV.bool false)),
              (7, LV.pv (PV.int IntKind.i64 (0 : Int)))],
            [Ob.sl (3, 1) true true []]) ∧
        J false (0 : Int) true []) ∧
      ∀ (x6 : Bool) (x7 : Int) (n_0 : Bool) (s_0 : List (List PV)),
        J x6 x7 n_0 s_0 →
          if decide (x7 < (↑es.length : Int)) = true then
            idxOK es x7 1 ∧
              ∃ (n1 : Int),
                (es.getD x7.toNat []).head? = some (PV.int IntKind.i64 n1) ∧
                  if (n1 == k) = true then R (PV.sl n f es)
                  else
                    idxOK es x7 1 ∧
                      ∃ (n2 : Int),
                        (es.getD x7.toNat []).head? = some (PV.int IntKind.i64 n2) ∧
                          if (decide (n2 > k) && !x6) = true then
                            (szOK [[PV.int IntKind.i64 k]] 1 ∧
                                (s_0.length + 1) * 8 ≤ 140737488355328) ∧
                              idxOK es x7 1 ∧
                                ∃ (n3 : Int),
                                  (es.getD x7.toNat []).head? = some (PV.int IntKind.i64 n3) ∧
                                    (szOK [[PV.int IntKind.i64 n3]] 1 ∧
                                        ((s_0 ++ [[PV.int IntKind.i64 k]]).length + 1) * 8 ≤
                                          140737488355328) ∧
                                      SameSt
                                          ([(0, LV.pv (PV.sl n f es)),
                                              (1, LV.pv (PV.int IntKind.i64 k)),
                                              (5, LV.own 0), (6, LV.pv (PV.bool true)),
                                              (7,
                                                LV.pv (PV.int IntKind.i64 (IntKind.i64.wrap (x7 + (1 : Int)))))],
                                            [Ob.sl (3, 1) true (n_0 && false && false)
                                                (s_0 ++ [[PV.int IntKind.i64 k]] ++ [[PV.int IntKind.i64 n3]])])
                                          ([(0, LV.pv (PV.sl n f es)),
                                              (1, LV.pv (PV.int IntKind.i64 k)),
                                              (5, LV.own 0), (6, LV.pv (PV.bool true)),
                                              (7,
                                                LV.pv (PV.int IntKind.i64 (IntKind.i64.wrap (x7 + (1 : Int)))))],
                                            [Ob.sl (3, 1) true (n_0 && false && false)
                                                (s_0 ++ [[PV.int IntKind.i64 k]] ++ [[PV.int IntKind.i64 n3]])]) ∧
                                        J true (IntKind.i64.wrap (x7 + (1 : Int))) (n_0 && false && false)
                                            (s_0 ++ [[PV.int IntKind.i64 k]] ++ [[PV.int IntKind.i64 n3]]) ∧
                                          μ true (IntKind.i64.wrap (x7 + (1 : Int))) (n_0 && false && false)
                                              (s_0 ++ [[PV.int IntKind.i64 k]] ++ [[PV.int IntKind.i64 n3]]) <
                                            μ x6 x7 n_0 s_0
                          else
                            idxOK es x7 1 ∧
                              ∃ (n3 : Int),
                                (es.getD x7.toNat []).head? = some (PV.int IntKind.i64 n3) ∧
                                  (szOK [[PV.int IntKind.i64 n3]] 1 ∧
                                      (s_0.length + 1) * 8 ≤ 140737488355328) ∧
                                    SameSt
                                        ([(0, LV.pv (PV.sl n f es)), (1, LV.pv (PV.int IntKind.i64 k)),
                                            (5, LV.own 0), (6, LV.pv (PV.bool x6)),
                                            (7,
                                              LV.pv (PV.int IntKind.i64 (IntKind.i64.wrap (x7 + (1 : Int)))))],
                                          [Ob.sl (3, 1) true (n_0 && false)
                                              (s_0 ++ [[PV.int IntKind.i64 n3]])])
                                        ([(0, LV.pv (PV.sl n f es)), (1, LV.pv (PV.int IntKind.i64 k)),
                                            (5, LV.own 0), (6, LV.pv (PV.bool x6)),
                                            (7,
                                              LV.pv (PV.int IntKind.i64 (IntKind.i64.wrap (x7 + (1 : Int)))))],
                                          [Ob.sl (3, 1) true (n_0 && false)
                                              (s_0 ++ [[PV.int IntKind.i64 n3]])]) ∧
                                      J x6 (IntKind.i64.wrap (x7 + (1 : Int))) (n_0 && false)
                                          (s_0 ++ [[PV.int IntKind.i64 n3]]) ∧
                                        μ x6 (IntKind.i64.wrap (x7 + (1 : Int))) (n_0 && false)
                                            (s_0 ++ [[PV.int IntKind.i64 n3]]) <
                                          μ x6 x7 n_0 s_0
          else R (PV.sl n_0 false s_0)
theorem e_typebarref02_add (n f : Bool) (es : List (List PV)) (k : Int) (J : (Bool) → (Int) → (Bool) → (List (List PV)) → Prop) (μ : (Bool) → (Int) → (Bool) → (List (List PV)) → Nat) (R : PV → Prop) : aFn Try.prog (fun _ => none) Try.f65 [0, 1, 4, 5, 6, 7, 13, 18, 26, 37] (fun zz_ => match zz_ with | 6 => some ⟨Bool × Int × Bool × (List (List PV)), fun s => (fun (x6 : Bool) (x7 : Int) (n_0 : Bool) (s_0 : List (List PV)) => ([(0, LV.pv (PV.sl n f es)), (1, LV.pv (PV.int IntKind.i64 k)), (5, LV.own 0), (6, .pv (.bool x6)), (7, .pv (.int IntKind.i64 x7))], [.sl (3, 1) true n_0 s_0])) s.1 s.2.1 s.2.2.1 s.2.2.2, fun s => J s.1 s.2.1 s.2.2.1 s.2.2.2, fun s => μ s.1 s.2.1 s.2.2.1 s.2.2.2, fun e h => (gB e 6, gI e 7, oN h 0, oS h 0), [(5, 3, 1)], [0, 1, 5, 6, 7], [], fun p => ∀ (x6 : Bool) (x7 : Int) (n_0 : Bool) (s_0 : List (List PV)), p (x6, x7, n_0, s_0), fun p h s => h s.1 s.2.1 s.2.2.1 s.2.2.2⟩ | _ => none) (Try.f65.body.getD .skip) [.sl n f es, .int .i64 k] R = r_typebarref02_add n f es k J μ R := by kernel_rfl
theorem a_typebarref02_add (n f : Bool) (es : List (List PV)) (k : Int) (J : (Bool) → (Int) → (Bool) → (List (List PV)) → Prop) (μ : (Bool) → (Int) → (Bool) → (List (List PV)) → Nat) {R : PV → Prop} (h : r_typebarref02_add n f es k J μ R) : PCall Try.prog 65 [.sl n f es, .int .i64 k] R :=
  PCall.of Try.func65 (by kernel_rfl) (by kernel_rfl) (Nat.le_of_ble_eq_true (by kernel_rfl)) (Eq.mpr (e_typebarref02_add n f es k J μ R) h)

def r_typebarref02_Edges (n f : Bool) (es : List (List PV)) (k : Int) (J : (Bool) → (Bool) → (List (List PV)) → (Int) → Prop) (μ : (Bool) → (Bool) → (List (List PV)) → (Int) → Nat) (R : PV → Prop) : Prop :=

  (SameSt
        ([(0, LV.pv (PV.sl n f es)), (1, LV.pv (PV.int IntKind.i64 k)),
            (5,
              LV.pv (PV.sl false true [[PV.int IntKind.i64 (0 : Int)], [PV.int IntKind.i64 (1114112 : Int)]])),
            (6, LV.pv (PV.int IntKind.i64 (0 : Int)))],
          [])
        ([(0, LV.pv (PV.sl n f es)), (1, LV.pv (PV.int IntKind.i64 k)),
            (5,
              LV.pv (PV.sl false true [[PV.int IntKind.i64 (0 : Int)], [PV.int IntKind.i64 (1114112 : Int)]])),
            (6, LV.pv (PV.int IntKind.i64 (0 : Int)))],
          []) ∧
      J false true [[PV.int IntKind.i64 (0 : Int)], [PV.int IntKind.i64 (1114112 : Int)]] (0 : Int)) ∧
    ∀ (n5 f5 : Bool) (s5 : List (List PV)) (x6 : Int),
      J n5 f5 s5 x6 →
        if decide (x6 < (↑es.length : Int)) = true then
          idxOK es x6 5 ∧
            ∃ (n1 : Int),
              (List.drop 0 (es.getD x6.toNat [])).head? = some (PV.int IntKind.i64 n1) ∧
                if (n1 != k) = true then
                  SameSt
                      ([(0, LV.pv (PV.sl n f es)), (1, LV.pv (PV.int IntKind.i64 k)),
                          (5, LV.pv (PV.sl n5 f5 s5)),
                          (6, LV.pv (PV.int IntKind.i64 (IntKind.i64.wrap (x6 + (1 : Int)))))],
                        [])
                      ([(0, LV.pv (PV.sl n f es)), (1, LV.pv (PV.int IntKind.i64 k)),
                          (5, LV.pv (PV.sl n5 f5 s5)),
                          (6, LV.pv (PV.int IntKind.i64 (IntKind.i64.wrap (x6 + (1 : Int)))))],
                        []) ∧
                    J n5 f5 s5 (IntKind.i64.wrap (x6 + (1 : Int))) ∧
                      μ n5 f5 s5 (IntKind.i64.wrap (x6 + (1 : Int))) < μ n5 f5 s5 x6
                else
                  idxOK es x6 5 ∧
                    ∃ (n2 : Int),
                      (List.drop 1 (es.getD x6.toNat [])).head? = some (PV.int IntKind.i64 n2) ∧
                        PCall Try.prog 65 [PV.sl n5 f5 s5, PV.int IntKind.i64 n2] fun (v : PV) ↦
                          ∃ (n3 : Bool),
                            ∃ (f1 : Bool),
                              ∃ (es1 : List (List PV)),
                                v = PV.sl n3 f1 es1 ∧
                                  idxOK es x6 5 ∧
                                    ∃ (n4 : Int),
                                      (List.drop 2 (es.getD x6.toNat [])).head? =
                                          some (PV.int IntKind.i64 n4) ∧
                                        if decide (n4 < (1114111 : Int)) = true then
                                          idxOK es x6 5 ∧
                                            ∃ (n6 : Int),
                                              (List.drop 2 (es.getD x6.toNat [])).head? =
                                                  some (PV.int IntKind.i64 n6) ∧
                                                PCall Try.prog 65
                                                  [PV.sl n3 f1 es1,
                                                    PV.int IntKind.i64 (IntKind.i64.wrap (n6 + (1 : Int)))]
                                                  fun (v1 : PV) ↦
                                                  ∃ (n7 : Bool),
                                                    ∃ (f2 : Bool),
                                                      ∃ (es2 : List (List PV)),
                                                        v1 = PV.sl n7 f2 es2 ∧
                                                          SameSt
                                                              ([(0, LV.pv (PV.sl n f es)),
                                                                  (1, LV.pv (PV.int IntKind.i64 k)),
                                                                  (5, LV.pv (PV.sl n7 f2 es2)),
                                                                  (6,
                                                                    LV.pv
                                                                      (PV.int IntKind.i64
                                                                        (IntKind.i64.wrap (x6 + (1 : Int)))))],
                                                                [])
                                                              ([(0, LV.pv (PV.sl n f es)),
                                                                  (1, LV.pv (PV.int IntKind.i64 k)),
                                                                  (5, LV.pv (PV.sl n7 f2 es2)),
                                                                  (6,
                                                                    LV.pv
                                                                      (PV.int IntKind.i64
                                                                        (IntKind.i64.wrap (x6 + (1 : Int)))))],
                                                                []) ∧
                                                            J n7 f2 es2 (IntKind.i64.wrap (x6 + (1 : Int))) ∧
                                                              μ n7 f2 es2 (IntKind.i64.wrap (x6 + (1 : Int))) <
                                                                μ n5 f5 s5 x6
                                        else
                                          SameSt
                                              ([(0, LV.pv (PV.sl n f es)),
                                                  (1, LV.pv (PV.int IntKind.i64 k)),
                                                  (5, LV.pv (PV.sl n3 f1 es1)),
                                                  (6,
                                                    LV.pv (PV.int IntKind.i64 (IntKind.i64.wrap (x6 + (1 : Int)))))],
                                                [])
                                              ([(0, LV.pv (PV.sl n f es)),
                                                  (1, LV.pv (PV.int IntKind.i64 k)),
                                                  (5, LV.pv (PV.sl n3 f1 es1)),
                                                  (6,
                                                    LV.pv (PV.int IntKind.i64 (IntKind.i64.wrap (x6 + (1 : Int)))))],
                                                []) ∧
                                            J n3 f1 es1 (IntKind.i64.wrap (x6 + (1 : Int))) ∧
                                              μ n3 f1 es1 (IntKind.i64.wrap (x6 + (1 : Int))) < μ n5 f5 s5 x6
        else R (PV.sl n5 f5 s5)
theorem e_typebarref02_Edges (n f : Bool) (es : List (List PV)) (k : Int) (J : (Bool) → (Bool) → (List (List PV)) → (Int) → Prop) (μ : (Bool) → (Bool) → (List (List PV)) → (Int) → Nat) (R : PV → Prop) : aFn Try.prog (fun _ => none) Try.f32 [0, 1, 4, 5, 6, 11, 20, 33] (fun zz_ => match zz_ with | 3 => some ⟨Bool × Bool × (List (List PV)) × Int, fun s => (fun (n5 : Bool) (f5 : Bool) (s5 : List (List PV)) (x6 : Int) => ([(0, LV.pv (PV.sl n f es)), (1, LV.pv (PV.int IntKind.i64 k)), (5, .pv (.sl n5 f5 s5)), (6, .pv (.int IntKind.i64 x6))], [])) s.1 s.2.1 s.2.2.1 s.2.2.2, fun s => J s.1 s.2.1 s.2.2.1 s.2.2.2, fun s => μ s.1 s.2.1 s.2.2.1 s.2.2.2, fun e h => (gN e 5, gF e 5, gS e 5, gI e 6), [], [0, 1, 5, 6], [], fun p => ∀ (n5 : Bool) (f5 : Bool) (s5 : List (List PV)) (x6 : Int), p (n5, f5, s5, x6), fun p h s => h s.1 s.2.1 s.2.2.1 s.2.2.2⟩ | _ => none) (Try.f32.body.getD .skip) [.sl n f es, .int .i64 k] R = r_typebarref02_Edges n f es k J μ R := by kernel_rfl
theorem a_typebarref02_Edges (n f : Bool) (es : List (List PV)) (k : Int) (J : (Bool) → (Bool) → (List (List PV)) → (Int) → Prop) (μ : (Bool) → (Bool) → (List (List PV)) → (Int) → Nat) {R : PV → Prop} (h : r_typebarref02_Edges n f es k J μ R) : PCall Try.prog 32 [.sl n f es, .int .i64 k] R :=
  PCall.of Try.func32 (by kernel_rfl) (by kernel_rfl) (Nat.le_of_ble_eq_true (by kernel_rfl)) (Eq.mpr (e_typebarref02_Edges n f es k J μ R) h)

def r_typebarref02_Find (n f : Bool) (es : List (List PV)) (k r : Int) (J : (Int) → Prop) (μ : (Int) → Nat) (R : PV → Prop) : Prop :=

  if (decide (r < (0 : Int)) || decide (r > (1114111 : Int))) = true then R (PV.int IntKind.i64 (-1 : Int))
  else
    (SameSt
          ([(0, LV.pv (PV.sl n f es)), (1, LV.pv (PV.int IntKind.i64 k)),
              (2, LV.pv (PV.int IntKind.i64 r)), (7, LV.pv (PV.int IntKind.i64 (0 : Int)))],
            [])
          ([(0, LV.pv (PV.sl n f es)), (1, LV.pv (PV.int IntKind.i64 k)),
              (2, LV.pv (PV.int IntKind.i64 r)), (7, LV.pv (PV.int IntKind.i64 (0 : Int)))],
            []) ∧
        J (0 : Int)) ∧
      ∀ (x7 : Int),
        J x7 →
          if decide (x7 < (↑es.length : Int)) = true then
            idxOK es x7 5 ∧
              ∃ (n1 : Int),
                (List.drop 0 (es.getD x7.toNat [])).head? = some (PV.int IntKind.i64 n1) ∧
                  if (n1 == k) = true then
                    idxOK es x7 5 ∧
                      ∃ (n2 : Int),
                        (List.drop 1 (es.getD x7.toNat [])).head? = some (PV.int IntKind.i64 n2) ∧
                          if decide (n2 ≤ r) = true then
                            idxOK es x7 5 ∧
                              ∃ (n3 : Int),
                                (List.drop 2 (es.getD x7.toNat [])).head? = some (PV.int IntKind.i64 n3) ∧
                                  if decide (r ≤ n3) = true then R (PV.int IntKind.i64 x7)
                                  else
                                    SameSt
                                        ([(0, LV.pv (PV.sl n f es)), (1, LV.pv (PV.int IntKind.i64 k)),
                                            (2, LV.pv (PV.int IntKind.i64 r)),
                                            (7,
                                              LV.pv (PV.int IntKind.i64 (IntKind.i64.wrap (x7 + (1 : Int)))))],
                                          [])
                                        ([(0, LV.pv (PV.sl n f es)), (1, LV.pv (PV.int IntKind.i64 k)),
                                            (2, LV.pv (PV.int IntKind.i64 r)),
                                            (7,
                                              LV.pv (PV.int IntKind.i64 (IntKind.i64.wrap (x7 + (1 : Int)))))],
                                          []) ∧
                                      J (IntKind.i64.wrap (x7 + (1 : Int))) ∧
                                        μ (IntKind.i64.wrap (x7 + (1 : Int))) < μ x7
                          else
                            SameSt
                                ([(0, LV.pv (PV.sl n f es)), (1, LV.pv (PV.int IntKind.i64 k)),
                                    (2, LV.pv (PV.int IntKind.i64 r)),
                                    (7, LV.pv (PV.int IntKind.i64 (IntKind.i64.wrap (x7 + (1 : Int)))))],
                                  [])
                                ([(0, LV.pv (PV.sl n f es)), (1, LV.pv (PV.int IntKind.i64 k)),
                                    (2, LV.pv (PV.int IntKind.i64 r)),
                                    (7, LV.pv (PV.int IntKind.i64 (IntKind.i64.wrap (x7 + (1 : Int)))))],
                                  []) ∧
                              J (IntKind.i64.wrap (x7 + (1 : Int))) ∧ μ (IntKind.i64.wrap (x7 + (1 : Int))) < μ x7
                  else
                    SameSt
                        ([(0, LV.pv (PV.sl n f es)), (1, LV.pv (PV.int IntKind.i64 k)),
                            (2, LV.pv (PV.int IntKind.i64 r)),
                            (7, LV.pv (PV.int IntKind.i64 (IntKind.i64.wrap (x7 + (1 : Int)))))],
                          [])
                        ([(0, LV.pv (PV.sl n f es)), (1, LV.pv (PV.int IntKind.i64 k)),
                            (2, LV.pv (PV.int IntKind.i64 r)),
                            (7, LV.pv (PV.int IntKind.i64 (IntKind.i64.wrap (x7 + (1 : Int)))))],
                          []) ∧
                      J (IntKind.i64.wrap (x7 + (1 : Int))) ∧ μ (IntKind.i64.wrap (x7 + (1 : Int))) < μ x7
          else R (PV.int IntKind.i64 (-1 : Int))
theorem e_typebarref02_Find (n f : Bool) (es : List (List PV)) (k r : Int) (J : (Int) → Prop) (μ : (Int) → Nat) (R : PV → Prop) : aFn Try.prog (fun _ => none) Try.f33 [0, 1, 2, 6, 7, 13, 17, 44] (fun zz_ => match zz_ with | 4 => some ⟨Int × Unit, fun s => (fun (x7 : Int) => ([(0, LV.pv (PV.sl n f es)), (1, LV.pv (PV.int IntKind.i64 k)), (2, LV.pv (PV.int IntKind.i64 r)), (7, .pv (.int IntKind.i64 x7))], [])) s.1, fun s => J s.1, fun s => μ s.1, fun e h => (((gI e 7), ())), [], [0, 1, 2, 7], [], fun p => ∀ (x7 : Int), p (x7, ()), fun p h s => h s.1⟩ | _ => none) (Try.f33.body.getD .skip) [.sl n f es, .int .i64 k, .int .i64 r] R = r_typebarref02_Find n f es k r J μ R := by kernel_rfl
theorem a_typebarref02_Find (n f : Bool) (es : List (List PV)) (k r : Int) (J : (Int) → Prop) (μ : (Int) → Nat) {R : PV → Prop} (h : r_typebarref02_Find n f es k r J μ R) : PCall Try.prog 33 [.sl n f es, .int .i64 k, .int .i64 r] R :=
  PCall.of Try.func33 (by kernel_rfl) (by kernel_rfl) (Nat.le_of_ble_eq_true (by kernel_rfl)) (Eq.mpr (e_typebarref02_Find n f es k r J μ R) h)

def r_rows_At_1 (a b c d t : Int) (R : PV → Prop) : Prop :=

  if decide (b < t) = true then R (PV.int IntKind.i64 (-1 : Int))
  else if decide (a > t) = true then R (PV.int IntKind.i64 (1 : Int)) else R (PV.int IntKind.i64 (0 : Int))
theorem e_rows_At_1 (a b c d t : Int) (R : PV → Prop) : aFn Try.prog (fun _ => none) Try.f67 [0, 1, 2, 4, 5, 10] (fun _ => none) (Try.f67.body.getD .skip) [.agg [.int .i64 a, .int .i64 b, .int .i64 c, .int .i64 d], .int .i64 t] R = r_rows_At_1 a b c d t R := by kernel_rfl
theorem a_rows_At_1 (a b c d t : Int) {R : PV → Prop} (h : r_rows_At_1 a b c d t R) : PCall Try.prog 67 [.agg [.int .i64 a, .int .i64 b, .int .i64 c, .int .i64 d], .int .i64 t] R :=
  PCall.of Try.func67 (by kernel_rfl) (by kernel_rfl) (Nat.le_of_ble_eq_true (by kernel_rfl)) (Eq.mpr (e_rows_At_1 a b c d t R) h)

def r_slices_BinarySearchFunc_rows_Span_rows_Span_int (n f : Bool) (es : List (List PV)) (t : Int) (J : (Int) → (Int) → Prop) (μ : (Int) → (Int) → Nat) (R : PV → Prop) : Prop :=

  (SameSt
        ([(0, LV.pv (PV.sl n f es)), (1, LV.pv (PV.int IntKind.i64 t)),
            (2, LV.pv (PV.fn 67 [])), (8, LV.pv (PV.int IntKind.i64 (↑es.length : Int))),
            (9, LV.pv (PV.int IntKind.i64 (0 : Int))),
            (10, LV.pv (PV.int IntKind.i64 (↑es.length : Int)))],
          [])
        ([(0, LV.pv (PV.sl n f es)), (1, LV.pv (PV.int IntKind.i64 t)),
            (2, LV.pv (PV.fn 67 [])), (8, LV.pv (PV.int IntKind.i64 (↑es.length : Int))),
            (9, LV.pv (PV.int IntKind.i64 (0 : Int))),
            (10, LV.pv (PV.int IntKind.i64 (↑es.length : Int)))],
          []) ∧
      J (0 : Int) (↑es.length : Int)) ∧
    ∀ (x9 x10 : Int),
      J x9 x10 →
        if decide (x9 < x10) = true then
          idxOK es (IntKind.i64.wrap ((IntKind.u64.wrap (IntKind.i64.wrap (x9 + x10))).fdiv ((2 : Int) ^ 1)))
              4 ∧
            ∃ (n1 : Int),
              (es.getD
                      (IntKind.i64.wrap
                          ((IntKind.u64.wrap (IntKind.i64.wrap (x9 + x10))).fdiv ((2 : Int) ^ 1))).toNat
                      []).head? =
                  some (PV.int IntKind.i64 n1) ∧
                ∃ (n2 : Int),
                  (es.getD
                            (IntKind.i64.wrap
                                ((IntKind.u64.wrap (IntKind.i64.wrap (x9 + x10))).fdiv ((2 : Int) ^ 1))).toNat
                            []).tail.head? =
                      some (PV.int IntKind.i64 n2) ∧
                    ∃ (n3 : Int),
                      (es.getD
                                  (IntKind.i64.wrap
                                      ((IntKind.u64.wrap (IntKind.i64.wrap (x9 + x10))).fdiv
                                        ((2 : Int) ^ 1))).toNat
                                  []).tail.tail.head? =
                          some (PV.int IntKind.i64 n3) ∧
                        ∃ (n4 : Int),
                          (es.getD
                                        (IntKind.i64.wrap
                                            ((IntKind.u64.wrap (IntKind.i64.wrap (x9 + x10))).fdiv
                                              ((2 : Int) ^ 1))).toNat
                                        []).tail.tail.tail.head? =
                              some (PV.int IntKind.i64 n4) ∧
                            PCall Try.prog 67
                              [PV.agg
                                  [PV.int IntKind.i64 n1, PV.int IntKind.i64 n2, PV.int IntKind.i64 n3,
                                    PV.int IntKind.i64 n4],
                                PV.int IntKind.i64 t]
                              fun (v : PV) ↦
                              ∃ (n5 : Int),
                                v = PV.int IntKind.i64 n5 ∧
                                  if decide (n5 < (0 : Int)) = true then
                                    SameSt
                                        ([(0, LV.pv (PV.sl n f es)), (1, LV.pv (PV.int IntKind.i64 t)),
                                            (2, LV.pv (PV.fn 67 [])),
                                            (8, LV.pv (PV.int IntKind.i64 (↑es.length : Int))),
                                            (9,
                                              LV.pv
                                                (PV.int IntKind.i64
                                                  (IntKind.i64.wrap
                                                    (IntKind.i64.wrap
                                                        ((IntKind.u64.wrap (IntKind.i64.wrap (x9 + x10))).fdiv
                                                          ((2 : Int) ^ 1)) +
                                                      (1 : Int))))),
                                            (10, LV.pv (PV.int IntKind.i64 x10))],
                                          [])
                                        ([(0, LV.pv (PV.sl n f es)), (1, LV.pv (PV.int IntKind.i64 t)),
                                            (2, LV.pv (PV.fn 67 [])),
                                            (8, LV.pv (PV.int IntKind.i64 (↑es.length : Int))),
                                            (9,
                                              LV.pv
                                                (PV.int IntKind.i64
                                                  (IntKind.i64.wrap
                                                    (IntKind.i64.wrap
                                                        ((IntKind.u64.wrap (IntKind.i64.wrap (x9 + x10))).fdiv
                                                          ((2 : Int) ^ 1)) +
                                                      (1 : Int))))),
                                            (10, LV.pv (PV.int IntKind.i64 x10))],
                                          []) ∧
                                      J
                                          (IntKind.i64.wrap
                                            (IntKind.i64.wrap
                                                ((IntKind.u64.wrap (IntKind.i64.wrap (x9 + x10))).fdiv
                                                  ((2 : Int) ^ 1)) +
                                              (1 : Int)))
                                          x10 ∧
                                        μ
                                            (IntKind.i64.wrap
                                              (IntKind.i64.wrap
                                                  ((IntKind.u64.wrap (IntKind.i64.wrap (x9 + x10))).fdiv
                                                    ((2 : Int) ^ 1)) +
                                                (1 : Int)))
                                            x10 <
                                          μ x9 x10
                                  else
                                    SameSt
                                        ([(0, LV.pv (PV.sl n f es)), (1, LV.pv (PV.int IntKind.i64 t)),
                                            (2, LV.pv (PV.fn 67 [])),
                                            (8, LV.pv (PV.int IntKind.i64 (↑es.length : Int))),
                                            (9, LV.pv (PV.int IntKind.i64 x9)),
                                            (10,
                                              LV.pv
                                                (PV.int IntKind.i64
                                                  (IntKind.i64.wrap
                                                    ((IntKind.u64.wrap (IntKind.i64.wrap (x9 + x10))).fdiv
                                                      ((2 : Int) ^ 1)))))],
                                          [])
                                        ([(0, LV.pv (PV.sl n f es)), (1, LV.pv (PV.int IntKind.i64 t)),
                                            (2, LV.pv (PV.fn 67 [])),
                                            (8, LV.pv (PV.int IntKind.i64 (↑es.length : Int))),
                                            (9, LV.pv (PV.int IntKind.i64 x9)),
                                            (10,
                                              LV.pv
                                                (PV.int IntKind.i64
                                                  (IntKind.i64.wrap
                                                    ((IntKind.u64.wrap (IntKind.i64.wrap (x9 + x10))).fdiv
                                                      ((2 : Int) ^ 1)))))],
                                          []) ∧
                                      J x9
                                          (IntKind.i64.wrap
                                            ((IntKind.u64.wrap (IntKind.i64.wrap (x9 + x10))).fdiv
                                              ((2 : Int) ^ 1))) ∧
                                        μ x9
                                            (IntKind.i64.wrap
                                              ((IntKind.u64.wrap (IntKind.i64.wrap (x9 + x10))).fdiv
                                                ((2 : Int) ^ 1))) <
                                          μ x9 x10
        else
          if decide (x9 < (↑es.length : Int)) = true then
            idxOK es x9 4 ∧
              ∃ (n1 : Int),
                (es.getD x9.toNat []).head? = some (PV.int IntKind.i64 n1) ∧
                  ∃ (n2 : Int),
                    (es.getD x9.toNat []).tail.head? = some (PV.int IntKind.i64 n2) ∧
                      ∃ (n3 : Int),
                        (es.getD x9.toNat []).tail.tail.head? = some (PV.int IntKind.i64 n3) ∧
                          ∃ (n4 : Int),
                            (es.getD x9.toNat []).tail.tail.tail.head? = some (PV.int IntKind.i64 n4) ∧
                              PCall Try.prog 67
                                [PV.agg
                                    [PV.int IntKind.i64 n1, PV.int IntKind.i64 n2, PV.int IntKind.i64 n3,
                                      PV.int IntKind.i64 n4],
                                  PV.int IntKind.i64 t]
                                fun (v : PV) ↦
                                ∃ (n5 : Int),
                                  v = PV.int IntKind.i64 n5 ∧
                                    R (PV.tup [PV.int IntKind.i64 x9, PV.bool (n5 == (0 : Int))])
          else R (PV.tup [PV.int IntKind.i64 x9, PV.bool false])
theorem e_slices_BinarySearchFunc_rows_Span_rows_Span_int (n f : Bool) (es : List (List PV)) (t : Int) (J : (Int) → (Int) → Prop) (μ : (Int) → (Int) → Nat) (R : PV → Prop) : aFn Try.prog (fun _ => none) Try.f66 [0, 1, 2, 6, 7, 8, 9, 10, 11, 17, 31] (fun zz_ => match zz_ with | 3 => some ⟨Int × Int, fun s => (fun (x9 : Int) (x10 : Int) => ([(0, LV.pv (PV.sl n f es)), (1, LV.pv (PV.int IntKind.i64 t)), (2, LV.pv (PV.fn 67 [])), (8, LV.pv (PV.int IntKind.i64 ↑es.length)), (9, .pv (.int IntKind.i64 x9)), (10, .pv (.int IntKind.i64 x10))], [])) s.1 s.2, fun s => J s.1 s.2, fun s => μ s.1 s.2, fun e h => (gI e 9, gI e 10), [], [0, 1, 2, 8, 9, 10], [], fun p => ∀ (x9 : Int) (x10 : Int), p (x9, x10), fun p h s => h s.1 s.2⟩ | _ => none) (Try.f66.body.getD .skip) [.sl n f es, .int .i64 t, .fn 67 []] R = r_slices_BinarySearchFunc_rows_Span_rows_Span_int n f es t J μ R := by kernel_rfl
theorem a_slices_BinarySearchFunc_rows_Span_rows_Span_int (n f : Bool) (es : List (List PV)) (t : Int) (J : (Int) → (Int) → Prop) (μ : (Int) → (Int) → Nat) {R : PV → Prop} (h : r_slices_BinarySearchFunc_rows_Span_rows_Span_int n f es t J μ R) : PCall Try.prog 66 [.sl n f es, .int .i64 t, .fn 67 []] R :=
  PCall.of Try.func66 (by kernel_rfl) (by kernel_rfl) (Nat.le_of_ble_eq_true (by kernel_rfl)) (Eq.mpr (e_slices_BinarySearchFunc_rows_Span_rows_Span_int n f es t J μ R) h)

def r_rows_At (n f : Bool) (es : List (List PV)) (r : Int) (R : PV → Prop) : Prop :=

  PCall Try.prog 66 [PV.sl n f es, PV.int IntKind.i64 (IntKind.i64.wrap r), PV.fn 67 []]
    fun (v : PV) ↦
    ∃ (vs : List PV),
      v = PV.tup vs ∧
        vs.length = 2 ∧
          ∃ (x : PV),
            vs.head? = some x ∧
              ∃ (n1 : Int),
                x = PV.int IntKind.i64 n1 ∧
                  ∃ (x1 : PV),
                    vs.tail.head? = some x1 ∧
                      ∃ (b : Bool),
                        x1 = PV.bool b ∧
                          if (!b) = true then
                            R
                              (PV.tup
                                [PV.agg
                                    [PV.int IntKind.i64 (0 : Int), PV.int IntKind.i64 (0 : Int),
                                      PV.int IntKind.i64 (0 : Int), PV.int IntKind.i64 (0 : Int)],
                                  PV.bool false])
                          else
                            idxOK es n1 4 ∧
                              ∃ (n2 : Int),
                                (es.getD n1.toNat []).head? = some (PV.int IntKind.i64 n2) ∧
                                  ∃ (n3 : Int),
                                    (es.getD n1.toNat []).tail.head? = some (PV.int IntKind.i64 n3) ∧
                                      ∃ (n4 : Int),
                                        (es.getD n1.toNat []).tail.tail.head? = some (PV.int IntKind.i64 n4) ∧
                                          ∃ (n5 : Int),
                                            (es.getD n1.toNat []).tail.tail.tail.head? = some (PV.int IntKind.i64 n5) ∧
                                              R
                                                (PV.tup
                                                  [PV.agg
                                                      [PV.int IntKind.i64 n2, PV.int IntKind.i64 n3,
                                                        PV.int IntKind.i64 n4, PV.int IntKind.i64 n5],
                                                    PV.bool true])
theorem e_rows_At (n f : Bool) (es : List (List PV)) (r : Int) (R : PV → Prop) : aFn Try.prog (fun _ => none) Try.f34 [0, 1, 4, 5, 6, 7, 16] (fun _ => none) (Try.f34.body.getD .skip) [.sl n f es, .int .i32 r] R = r_rows_At n f es r R := by kernel_rfl
theorem a_rows_At (n f : Bool) (es : List (List PV)) (r : Int) {R : PV → Prop} (h : r_rows_At n f es r R) : PCall Try.prog 34 [.sl n f es, .int .i32 r] R :=
  PCall.of Try.func34 (by kernel_rfl) (by kernel_rfl) (Nat.le_of_ble_eq_true (by kernel_rfl)) (Eq.mpr (e_rows_At n f es r R) h)

def r_typebarlaw02_RowsSpans (n f : Bool) (es : List (List PV)) (k : Int) (J : (Bool) → (Bool) → (List (List PV)) → (Bool) → (Bool) → (List (List PV)) → (Bool) → (Bool) → (List (List PV)) → (Int) → Prop) (μ : (Bool) → (Bool) → (List (List PV)) → (Bool) → (Bool) → (List (List PV)) → (Bool) → (Bool) → (List (List PV)) → (Int) → Nat) (R : PV → Prop) : Prop :=

  PCall Try.prog 28 [PV.sl n f es] fun (v : PV) ↦
    ∃ (n1 : Bool),
      ∃ (f1 : Bool),
        ∃ (es1 : List (List PV)),
          v = PV.sl n1 f1 es1 ∧
            PCall Try.prog 29 [PV.sl n1 f1 es1, PV.int IntKind.i64 k] fun (v1 : PV) ↦
              ∃ (n2 : Bool),
                ∃ (f2 : Bool),
                  ∃ (es2 : List (List PV)),
                    v1 = PV.sl n2 f2 es2 ∧
                      PCall Try.prog 32 [PV.sl n1 f1 es1, PV.int IntKind.i64 k] fun (v2 : PV) ↦
                        ∃ (n3 : Bool),
                          ∃ (f3 : Bool),
                            ∃ (es3 : List (List PV)),
                              v2 = PV.sl n3 f3 es3 ∧
                                (SameSt
                                      ([(0, LV.pv (PV.sl n1 f1 es1)), (1, LV.pv (PV.int IntKind.i64 k)),
                                          (5, LV.pv (PV.sl n2 f2 es2)), (6, LV.pv (PV.sl n3 f3 es3)),
                                          (7, LV.pv (PV.int IntKind.i64 (0 : Int)))],
                                        [])
                                      ([(0, LV.pv (PV.sl n1 f1 es1)), (1, LV.pv (PV.int IntKind.i64 k)),
                                          (5, LV.pv (PV.sl n2 f2 es2)), (6, LV.pv (PV.sl n3 f3 es3)),
                                          (7, LV.pv (PV.int IntKind.i64 (0 : Int)))],
                                        []) ∧
                                    J n1 f1 es1 n2 f2 es2 n3 f3 es3 (0 : Int)) ∧
                                  ∀ (n0 f0 : Bool) (s0 : List (List PV)) (n5 f5 : Bool) (s5 : List (List PV))
                                    (n6 f6 : Bool) (s6 : List (List PV)) (x7 : Int),
                                    J n0 f0 s0 n5 f5 s5 n6 f6 s6 x7 →
                                      if decide (IntKind.i64.wrap (x7 + (1 : Int)) < (↑s6.length : Int)) = true then
                                        idxOK s6 x7 1 ∧
                                          ∃ (n4 : Int),
                                            (s6.getD x7.toNat []).head? = some (PV.int IntKind.i64 n4) ∧
                                              PCall Try.prog 33
                                                [PV.sl n0 f0 s0, PV.int IntKind.i64 k, PV.int IntKind.i64 n4]
                                                fun (v3 : PV) ↦
                                                ∃ (n7 : Int),
                                                  v3 = PV.int IntKind.i64 n7 ∧
                                                    idxOK s6 x7 1 ∧
                                                      ∃ (n8 : Int),
                                                        (s6.getD x7.toNat []).head? = some (PV.int IntKind.i64 n8) ∧
                                                          PCall Try.prog 34
                                                            [PV.sl n5 f5 s5, PV.int IntKind.i32 (IntKind.i32.wrap n8)]
                                                            fun (v4 : PV) ↦
                                                            ∃ (vs : List PV),
                                                              v4 = PV.tup vs ∧
                                                                vs.length = 2 ∧
                                                                  ∃ (x : PV),
                                                                    vs.head? = some x ∧
                                                                      ∃ (cs : List PV),
                                                                        x = PV.agg cs ∧
                                                                          cs.length = 4 ∧
                                                                            ∃ (n9 : Int),
                                                                              cs.head? = some (PV.int IntKind.i64 n9) ∧
                                                                                ∃ (n10 : Int),
                                                                                  cs.tail.head? =
                                                                                      some (PV.int IntKind.i64 n10) ∧
                                                                                    ∃ (n11 : Int),
                                                                                      cs.tail.tail.head? =
                                                                                          some
                                                                                            (PV.int IntKind.i64 n11) ∧
                                                                                        ∃ (n12 : Int),
                                                                                          cs.tail.tail.tail.head? =
                                                                                              some
                                                                                                (PV.int IntKind.i64
                                                                                                  n12) ∧
                                                                                            ∃ (x1 : PV),
                                                                                              vs.tail.head? = some x1 ∧
                                                                                                ∃ (b : Bool),
                                                                                                  x1 = PV.bool b ∧
                                                                                                    idxOK s6
                                                                                                        (IntKind.i64.wrap
                                                                                                          (x7 +
                                                                                                            (1 : Int)))
                                                                                                        1 ∧
                                                                                                      ∃ (n13 : Int),
                                                                                                        (s6.getD
                                                                                                                (IntKind.i64.wrap
                                                                                                                    (x7 +
                                                                                                                      (1 :
                                                                                                                        Int))).toNat
                                                                                                                []).head? =
                                                                                                            some
                                                                                                              (PV.int
                                                                                                                IntKind.i64
                                                                                                                n13) ∧
                                                                                                          PCall Try.prog
                                                                                                            34
                                                                                                            [PV.sl n5 f5
                                                                                                                s5,
                                                                                                              PV.int
                                                                                                                IntKind.i32
                                                                                                                (IntKind.i32.wrap
                                                                                                                  (IntKind.i64.wrap
                                                                                                                    (n13 -
                                                                                                                      (1 :
                                                                                                                        Int))))]
                                                                                                            fun
                                                                                                              (v5 :
                                                                                                                PV) ↦
                                                                                                            ∃ (vs1 :
                                                                                                              List PV),
                                                                                                              v5 =
                                                                                                                  PV.tup
                                                                                                                    vs1 ∧
                                                                                                                vs1.length =
                                                                                                                    nat_lit
                                                                                                                      2 ∧
                                                                                                                  ∃ (x2
                                                                                                                    :
                                                                                                                    PV),
                                                                                                                    vs1.head? =
                                                                                                                        some
                                                                                                                          x2 ∧
                                                                                                                      ∃
                                                                                                                        (cs1
                                                                                                                        :
                                                                                                                        List
                                                                                                                          PV),
                                                                                                                        x2 =
                                                                                                                            PV.agg
                                                                                                                              cs1 ∧
                                                                                                                          cs1.length =
                                                                                                                              nat_lit
                                                                                                                                4 ∧
                                                                                                                            ∃
                                                                                                                              (n14
                                                                                                                              :
                                                                                                                              Int),
                                                                                                                              cs1.head? =
                                                                                                                                  some
                                                                                                                                    (PV.int
                                                                                                                                      IntKind.i64
                                                                                                                                      n14) ∧
                                                                                                                                ∃
                                                                                                                                  (n15
                                                                                                                                  :
                                                                                                                                  Int),
                                                                                                                                  cs1.tail.head? =
                                                                                                                                      some
                                                                                                                                        (PV.int
                                                                                                                                          IntKind.i64
                                                                                                                                          n15) ∧
                                                                                                                                    ∃
                                                                                                                                      (n16
                                                                                                                                      :
                                                                                                                                      Int),
                                                                                                                                      cs1.tail.tail.head? =
                                                                                                                                          some
                                                                                                                                            (PV.int
                                                                                                                                              IntKind.i64
                                                                                                                                              n16) ∧
                                                                                                                                        ∃
                                                                                                                                          (n17
                                                                                                                                          :
                                                                                                                                          Int),
                                                                                                                                          cs1.tail.tail.tail.head? =
                                                                                                                                              some
                                                                                                                                                (PV.int
                                                                                                                                                  IntKind.i64
                                                                                                                                                  n17) ∧
                                                                                                                                            ∃
                                                                                                                                              (x3
                                                                                                                                              :
                                                                                                                                              PV),
                                                                                                                                              vs1.tail.head? =
                                                                                                                                                  some
                                                                                                                                                    x3 ∧
                                                                                                                                                ∃
                                                                                                                                                  (b1
                                                                                                                                                  :
                                                                                                                                                  Bool),
                                                                                                                                                  x3 =
                                                                                                                                                      PV.bool
                                                                                                                                                        b1 ∧
                                                                                                                                                    if
                                                                                                                                                        (b !=
                                                                                                                                                              decide
                                                                                                                                                                (n7 ≥
                                                                                                                                                                  (0 :
                                                                                                                                                                    Int)) ||
                                                                                                                                                            b1 !=
                                                                                                                                                              b) =
                                                                                                                                                          true then
                                                                                                                                                      R
                                                                                                                                                        (PV.bool
                                                                                                                                                          false)
                                                                                                                                                    else
                                                                                                                                                      if
                                                                                                                                                          ((bif
                                                                                                                                                                  false then
                                                                                                                                                                n9 ==
                                                                                                                                                                    n14 &&
                                                                                                                                                                  (n10 ==
                                                                                                                                                                      n15 &&
                                                                                                                                                                    (n11 ==
                                                                                                                                                                        n16 &&
                                                                                                                                                                      (n12 ==
                                                                                                                                                                          n17 &&
                                                                                                                                                                        true)))
                                                                                                                                                              else
                                                                                                                                                                !(n9 ==
                                                                                                                                                                      n14 &&
                                                                                                                                                                    (n10 ==
                                                                                                                                                                        n15 &&
                                                                                                                                                                      (n11 ==
                                                                                                                                                                          n16 &&
                                                                                                                                                                        (n12 ==
                                                                                                                                                                            n17 &&
                                                                                                                                                                          true))))) &&
                                                                                                                                                              b) =
                                                                                                                                                            true then
                                                                                                                                                        if
                                                                                                                                                            (n11 !=
                                                                                                                                                                n16) =
                                                                                                                                                              true then
                                                                                                                                                          R
                                                                                                                                                            (PV.bool
                                                                                                                                                              false)
                                                                                                                                                        else
                                                                                                                                                          if
                                                                                                                                                              (n12 !=
                                                                                                                                                                  n17) =
                                                                                                                                                                true then
                                                                                                                                                            R
                                                                                                                                                              (PV.bool
                                                                                                                                                                false)
                                                                                                                                                          else
                                                                                                                                                            if
                                                                                                                                                                b =
                                                                                                                                                                  true then
                                                                                                                                                              idxOK
                                                                                                                                                                  s6
                                                                                                                                                                  x7
                                                                                                                                                                  (nat_lit
                                                                                                                                                                    1) ∧
                                                                                                                                                                ∃
                                                                                                                                                                  (n18
                                                                                                                                                                  :
                                                                                                                                                                  Int),
                                                                                                                                                                  (s6.getD
                                                                                                                                                                          x7.toNat
                                                                                                                                                                          []).head? =
                                                                                                                                                                      some
                                                                                                                                                                        (PV.int
                                                                                                                                                                          IntKind.i64
                                                                                                                                                                          n18) ∧
                                                                                                                                                                    if
                                                                                                                                                                        decide
                                                                                                                                                                            (n9 >
                                                                                                                                                                              n18) =
                                                                                                                                                                          true then
                                                                                                                                                                      R
                                                                                                                                                                        (PV.bool
                                                                                                                                                                          false)
                                                                                                                                                                    else
                                                                                                                                                                      idxOK
                                                                                                                                                                          s6
                                                                                                                                                                          (IntKind.i64.wrap
                                                                                                                                                                            (x7 +
                                                                                                                                                                              (1 :
                                                                                                                                                                                Int)))
                                                                                                                                                                          (nat_lit
                                                                                                                                                                            1) ∧
                                                                                                                                                                        ∃
                                                                                                                                                                          (n19
                                                                                                                                                                          :
                                                                                                                                                                          Int),
                                                                                                                                                                          (s6.getD
                                                                                                                                                                                  (IntKind.i64.wrap
                                                                                                                                                                                      (x7 +
                                                                                                                                                                                        (1 :
                                                                                                                                                                                          Int))).toNat
                                                                                                                                                                                  []).head? =
                                                                                                                                                                              some
                                                                                                                                                                                (PV.int
                                                                                                                                                                                  IntKind.i64
                                                                                                                                                                                  n19) ∧
                                                                                                                                                                            if
                                                                                                                                                                                decide
                                                                                                                                                                                    (n15 <
                                                                                                                                                                                      IntKind.i64.wrap
                                                                                                                                                                                        (n19 -
                                                                                                                                                                                          (1 :
                                                                                                                                                                                            Int))) =
                                                                                                                                                                                  true then
                                                                                                                                                                              R
                                                                                                                                                                                (PV.bool
                                                                                                                                                                                  false)
                                                                                                                                                                            else
                                                                                                                                                                              idxOK
                                                                                                                                                                                  s0
                                                                                                                                                                                  n7
                                                                                                                                                                                  (nat_lit
                                                                                                                                                                                    5) ∧
                                                                                                                                                                                ∃
                                                                                                                                                                                  (n20
                                                                                                                                                                                  :
                                                                                                                                                                                  Int),
                                                                                                                                                                                  (List.drop
                                                                                                                                                                                          (nat_lit
                                                                                                                                                                                            3)
                                                                                                                                                                                          (s0.getD
                                                                                                                                                                                            n7.toNat
                                                                                                                                                                                            [])).head? =
                                                                                                                                                                                      some
                                                                                                                                                                                        (PV.int
                                                                                                                                                                                          IntKind.i64
                                                                                                                                                                                          n20) ∧
                                                                                                                                                                                    if
                                                                                                                                                                                        (n11 !=
                                                                                                                                                                                            n20) =
                                                                                                                                                                                          true then
                                                                                                                                                                                      R
                                                                                                                                                                                        (PV.bool
                                                                                                                                                                                          false)
                                                                                                                                                                                    else
                                                                                                                                                                                      idxOK
                                                                                                                                                                                          s0
                                                                                                                                                                                          n7
                                                                                                                                                                                          (nat_lit
                                                                                                                                                                                            5) ∧
                                                                                                                                                                                        ∃
                                                                                                                                                                                          (n21
                                                                                                                                                                                          :
                                                                                                                                                                                          Int),
                                                                                                                                                                                          (List.drop
                                                                                                                                                                                                  (nat_lit
                                                                                                                                                                                                    4)
                                                                                                                                                                                                  (s0.getD
                                                                                                                                                                                                    n7.toNat
                                                                                                                                                                                                    [])).head? =
                                                                                                                                                                                              some
                                                                                                                                                                                                (PV.int
                                                                                                                                                                                                  IntKind.i64
                                                                                                                                                                                                  n21) ∧
                                                                                                                                                                                            if
                                                                                                                                                                                                (n12 !=
                                                                                                                                                                                                    n21) =
                                                                                                                                                                                                  true then
                                                                                                                                                                                              R
                                                                                                                                                                                                (PV.bool
                                                                                                                                                                                                  false)
                                                                                                                                                                                            else
                                                                                                                                                                                              SameSt
                                                                                                                                                                                                  ([(nat_lit
                                                                                                                                                                                                          0,
                                                                                                                                                                                                        LV.pv
                                                                                                                                                                                                          (PV.sl
                                                                                                                                                                                                            n0
                                                                                                                                                                                                            f0
                                                                                                                                                                                                            s0)),
                                                                                                                                                                                                      (nat_lit
                                                                                                                                                                                                          1,
                                                                                                                                                                                                        LV.pv
                                                                                                                                                                                                          (PV.int
                                                                                                                                                                                                            IntKind.i64
                                                                                                                                                                                                            k)),
                                                                                                                                                                                                      (nat_lit
                                                                                                                                                                                                          5,
                                                                                                                                                                                                        LV.pv
                                                                                                                                                                                                          (PV.sl
                                                                                                                                                                                                            n5
                                                                                                                                                                                                            f5
                                                                                                                                                                                                            s5)),
                                                                                                                                                                                                      (nat_lit
                                                                                                                                                                                                          6,
                                                                                                                                                                                                        LV.pv
                                                                                                                                                                                                          (PV.sl
                                                                                                                                                                                                            n6
                                                                                                                                                                                                            f6
                                                                                                                                                                                                            s6)),
                                                                                                                                                                                                      (nat_lit
                                                                                                                                                                                                          7,
                                                                                                                                                                                                        LV.pv
                                                                                                                                                                                                          (PV.int
                                                                                                                                                                                                            IntKind.i64
                                                                                                                                                                                                            (IntKind.i64.wrap
                                                                                                                                                                                                              (x7 +
                                                                                                                                                                                                                (1 :
                                                                                                                                                                                                                  Int)))))],
                                                                                                                                                                                                    [])
                                                                                                                                                                                                  ([(nat_lit
                                                                                                                                                                                                          0,
                                                                                                                                                                                                        LV.pv
                                                                                                                                                                                                          (PV.sl
                                                                                                                                                                                                            n0
                                                                                                                                                                                                            f0
                                                                                                                                                                                                            s0)),
                                                                                                                                                                                                      (nat_lit
                                                                                                                                                                                                          1,
                                                                                                                                                                                                        LV.pv
                                                                                                                                                                                                          (PV.int
                                                                                                                                                                                                            IntKind.i64
                                                                                                                                                                                                            k)),
                                                                                                                                                                                                      (nat_lit
                                                                                                                                                                                                          5,
                                                                                                                                                                                                        LV.pv
                                                                                                                                                                                                          (PV.sl
                                                                                                                                                                                                            n5
                                                                                                                                                                                                            f5
                                                                                                                                                                                                            s5)),
                                                                                                                                                                                                      (nat_lit
                                                                                                                                                                                                          6,
                                                                                                                                                                                                        LV.pv
                                                                                                                                                                                                          (PV.sl
                                                                                                                                                                                                            n6
                                                                                                                                                                                                            f6
                                                                                                                                                                                                            s6)),
                                                                                                                                                                                                      (nat_lit
                                                                                                                                                                                                          7,
                                                                                                                                                                                                        LV.pv
                                                                                                                                                                                                          (PV.int
                                                                                                                                                                                                            IntKind.i64
                                                                                                                                                                                                            (IntKind.i64.wrap
                                                                                                                                                                                                              (x7 +
                                                                                                                                                                                                                (1 :
                                                                                                                                                                                                                  Int)))))],
                                                                                                                                                                                                    []) ∧
                                                                                                                                                                                                J
                                                                                                                                                                                                    n0
                                                                                                                                                                                                    f0
                                                                                                                                                                                                    s0
                                                                                                                                                                                                    n5
                                                                                                                                                                                                    f5
                                                                                                                                                                                                    s5
                                                                                                                                                                                                    n6
                                                                                                                                                                                                    f6
                                                                                                                                                                                                    s6
                                                                                                                                                                                                    (IntKind.i64.wrap
                                                                                                                                                                                                      (x7 +
                                                                                                                                                                                                        (1 :
                                                                                                                                                                                                          Int))) ∧
                                                                                                                                                                                                  μ
                                                                                                                                                                                                      n0
                                                                                                                                                                                                      f0
                                                                                                                                                                                                      s0
                                                                                                                                                                                                      n5
                                                                                                                                                                                                      f5
                                                                                                                                                                                                      s5
                                                                                                                                                                                                      n6
                                                                                                                                                                                                      f6
                                                                                                                                                                                                      s6
                                                                                                                                                                                                      (IntKind.i64.wrap
                                                                                                                                                                                                        (x7 +
                                                                                                                                                                                                          (1 :
                                                                                                                                                                                                            Int))) <
                                                                                                                                                                                                    μ
                                                                                                                                                                                                      n0
                                                                                                                                                                                                      f0
                                                                                                                                                                                                      s0
                                                                                                                                                                                                      n5
                                                                                                                                                                                                      f5
                                                                                                                                                                                                      s5
                                                                                                                                                                                                      n6
                                                                                                                                                                                                      f6
                                                                                                                                                                                                      s6
                                                                                                                                                                                                      x7
                                                                                                                                                            else
                                                                                                                                                              SameSt
                                                                                                                                                                  ([(nat_lit
                                                                                                                                                                          0,
                                                                                                                                                                        LV.pv
                                                                                                                                                                          (PV.sl
                                                                                                                                                                            n0
                                                                                                                                                                            f0
                                                                                                                                                                            s0)),
                                                                                                                                                                      (nat_lit
                                                                                                                                                                          1,
                                                                                                                                                                        LV.pv
                                                                                                                                                                          (PV.int
                                                                                                                                                                            IntKind.i64
                                                                                                                                                                            k)),
                                                                                                                                                                      (nat_lit
                                                                                                                                                                          5,
                                                                                                                                                                        LV.pv
                                                                                                                                                                          (PV.sl
                                                                                                                                                                            n5
                                                                                                                                                                            f5
                                                                                                                                                                            s5)),
                                                                                                                                                                      (nat_lit
                                                                                                                                                                          6,
                                                                                                                                                                        LV.pv
                                                                                                                                                                          (PV.sl
                                                                                                                                                                            n6
                                                                                                                                                                            f6
                                                                                                                                                                            s6)),
                                                                                                                                                                      (nat_lit
                                                                                                                                                                          7,
                                                                                                                                                                        LV.pv
                                                                                                                                                                          (PV.int
                                                                                                                                                                            IntKind.i64
                                                                                                                                                                            (IntKind.i64.wrap
                                                                                                                                                                              (x7 +
                                                                                                                                                                                (1 :
                                                                                                                                                                                  Int)))))],
                                                                                                                                                                    [])
                                                                                                                                                                  ([(nat_lit
                                                                                                                                                                          0,
                                                                                                                                                                        LV.pv
                                                                                                                                                                          (PV.sl
                                                                                                                                                                            n0
                                                                                                                                                                            f0
                                                                                                                                                                            s0)),
                                                                                                                                                                      (nat_lit
                                                                                                                                                                          1,
                                                                                                                                                                        LV.pv
                                                                                                                                                                          (PV.int
                                                                                                                                                                            IntKind.i64
                                                                                                                                                                            k)),
                                                                                                                                                                      (nat_lit
                                                                                                                                                                          5,
                                                                                                                                                                        LV.pv
                                                                                                                                                                          (PV.sl
                                                                                                                                                                            n5
                                                                                                                                                                            f5
                                                                                                                                                                            s5)),
                                                                                                                                                                      (nat_lit
                                                                                                                                                                          6,
                                                                                                                                                                        LV.pv
                                                                                                                                                                          (PV.sl
                                                                                                                                                                            n6
                                                                                                                                                                            f6
                                                                                                                                                                            s6)),
                                                                                                                                                                      (nat_lit
                                                                                                                                                                          7,
                                                                                                                                                                        LV.pv
                                                                                                                                                                          (PV.int
                                                                                                                                                                            IntKind.i64
                                                                                                                                                                            (IntKind.i64.wrap
                                                                                                                                                                              (x7 +
                                                                                                                                                                                (1 :
                                                                                                                                                                                  Int)))))],
                                                                                                                                                                    []) ∧
                                                                                                                                                                J
                                                                                                                                                                    n0
                                                                                                                                                                    f0
                                                                                                                                                                    s0
                                                                                                                                                                    n5
                                                                                                                                                                    f5
                                                                                                                                                                    s5
                                                                                                                                                                    n6
                                                                                                                                                                    f6
                                                                                                                                                                    s6
                                                                                                                                                                    (IntKind.i64.wrap
                                                                                                                                                                      (x7 +
                                                                                                                                                                        (1 :
                                                                                                                                                                          Int))) ∧
                                                                                                                                                                  μ
                                                                                                                                                                      n0
                                                                                                                                                                      f0
                                                                                                                                                                      s0
                                                                                                                                                                      n5
                                                                                                                                                                      f5
                                                                                                                                                                      s5
                                                                                                                                                                      n6
                                                                                                                                                                      f6
                                                                                                                                                                      s6
                                                                                                                                                                      (IntKind.i64.wrap
                                                                                                                                                                        (x7 +
                                                                                                                                                                          (1 :
                                                                                                                                                                            Int))) <
                                                                                                                                                                    μ
                                                                                                                                                                      n0
                                                                                                                                                                      f0
                                                                                                                                                                      s0
                                                                                                                                                                      n5
                                                                                                                                                                      f5
                                                                                                                                                                      s5
                                                                                                                                                                      n6
                                                                                                                                                                      f6
                                                                                                                                                                      s6
                                                                                                                                                                      x7
                                                                                                                                                      else
                                                                                                                                                        if
                                                                                                                                                            b =
                                                                                                                                                              true then
                                                                                                                                                          idxOK
                                                                                                                                                              s6
                                                                                                                                                              x7
                                                                                                                                                              (nat_lit
                                                                                                                                                                1) ∧
                                                                                                                                                            ∃
                                                                                                                                                              (n18
                                                                                                                                                              :
                                                                                                                                                              Int),
                                                                                                                                                              (s6.getD
                                                                                                                                                                      x7.toNat
                                                                                                                                                                      []).head? =
                                                                                                                                                                  some
                                                                                                                                                                    (PV.int
                                                                                                                                                                      IntKind.i64
                                                                                                                                                                      n18) ∧
                                                                                                                                                                if
                                                                                                                                                                    decide
                                                                                                                                                                        (n9 >
                                                                                                                                                                          n18) =
                                                                                                                                                                      true then
                                                                                                                                                                  R
                                                                                                                                                                    (PV.bool
                                                                                                                                                                      false)
                                                                                                                                                                else
                                                                                                                                                                  idxOK
                                                                                                                                                                      s6
                                                                                                                                                                      (IntKind.i64.wrap
                                                                                                                                                                        (x7 +
                                                                                                                                                                          (1 :
                                                                                                                                                                            Int)))
                                                                                                                                                                      (nat_lit
                                                                                                                                                                        1) ∧
                                                                                                                                                                    ∃
                                                                                                                                                                      (n19
                                                                                                                                                                      :
                                                                                                                                                                      Int),
                                                                                                                                                                      (s6.getD
                                                                                                                                                                              (IntKind.i64.wrap
                                                                                                                                                                                  (x7 +
                                                                                                                                                                                    (1 :
                                                                                                                                                                                      Int))).toNat
                                                                                                                                                                              []).head? =
                                                                                                                                                                          some
                                                                                                                                                                            (PV.int
                                                                                                                                                                              IntKind.i64
                                                                                                                                                                              n19) ∧
                                                                                                                                                                        if
                                                                                                                                                                            decide
                                                                                                                                                                                (n15 <
                                                                                                                                                                                  IntKind.i64.wrap
                                                                                                                                                                                    (n19 -
                                                                                                                                                                                      (1 :
                                                                                                                                                                                        Int))) =
                                                                                                                                                                              true then
                                                                                                                                                                          R
                                                                                                                                                                            (PV.bool
                                                                                                                                                                              false)
                                                                                                                                                                        else
                                                                                                                                                                          idxOK
                                                                                                                                                                              s0
                                                                                                                                                                              n7
                                                                                                                                                                              (nat_lit
                                                                                                                                                                                5) ∧
                                                                                                                                                                            ∃
                                                                                                                                                                              (n20
                                                                                                                                                                              :
                                                                                                                                                                              Int),
                                                                                                                                                                              (List.drop
                                                                                                                                                                                      (nat_lit
                                                                                                                                                                                        3)
                                                                                                                                                                                      (s0.getD
                                                                                                                                                                                        n7.toNat
                                                                                                                                                                                        [])).head? =
                                                                                                                                                                                  some
                                                                                                                                                                                    (PV.int
                                                                                                                                                                                      IntKind.i64
                                                                                                                                                                                      n20) ∧
                                                                                                                                                                                if
                                                                                                                                                                                    (n11 !=
                                                                                                                                                                                        n20) =
                                                                                                                                                                                      true then
                                                                                                                                                                                  R
                                                                                                                                                                                    (PV.bool
                                                                                                                                                                                      false)
                                                                                                                                                                                else
                                                                                                                                                                                  idxOK
                                                                                                                                                                                      s0
                                                                                                                                                                                      n7
                                                                                                                                                                                      (nat_lit
                                                                                                                                                                                        5) ∧
                                                                                                                                                                                    ∃
                                                                                                                                                                                      (n21
                                                                                                                                                                                      :
                                                                                                                                                                                      Int),
                                                                                                                                                                                      (List.drop
                                                                                                                                                                                              (nat_lit
                                                                                                                                                                                                4)
                                                                                                                                                                                              (s0.getD
                                                                                                                                                                                                n7.toNat
                                                                                                                                                                                                [])).head? =
                                                                                                                                                                                          some
                                                                                                                                                                                            (PV.int
                                                                                                                                                                                              IntKind.i64
                                                                                                                                                                                              n21) ∧
                                                                                                                                                                                        if
                                                                                                                                                                                            (n12 !=
                                                                                                                                                                                                n21) =
                                                                                                                                                                                              true then
                                                                                                                                                                                          R
                                                                                                                                                                                            (PV.bool
                                                                                                                                                                                              false)
                                                                                                                                                                                        else
                                                                                                                                                                                          SameSt
                                                                                                                                                                                              ([(nat_lit
                                                                                                                                                                                                      0,
                                                                                                                                                                                                    LV.pv
                                                                                                                                                                                                      (PV.sl
                                                                                                                                                                                                        n0
                                                                                                                                                                                                        f0
                                                                                                                                                                                                        s0)),
                                                                                                                                                                                                  (nat_lit
                                                                                                                                                                                                      1,
                                                                                                                                                                                                    LV.pv
                                                                                                                                                                                                      (PV.int
                                                                                                                                                                                                        IntKind.i64
                                                                                                                                                                                                        k)),
                                                                                                                                                                                                  (nat_lit
                                                                                                                                                                                                      5,
                                                                                                                                                                                                    LV.pv
                                                                                                                                                                                                      (PV.sl
                                                                                                                                                                                                        n5
                                                                                                                                                                                                        f5
                                                                                                                                                                                                        s5)),
                                                                                                                                                                                                  (nat_lit
                                                                                                                                                                                                      6,
                                                                                                                                                                                                    LV.pv
                                                                                                                                                                                                      (PV.sl
                                                                                                                                                                                                        n6
                                                                                                                                                                                                        f6
                                                                                                                                                                                                        s6)),
                                                                                                                                                                                                  (nat_lit
                                                                                                                                                                                                      7,
                                                                                                                                                                                                    LV.pv
                                                                                                                                                                                                      (PV.int
                                                                                                                                                                                                        IntKind.i64
                                                                                                                                                                                                        (IntKind.i64.wrap
                                                                                                                                                                                                          (x7 +
                                                                                                                                                                                                            (1 :
                                                                                                                                                                                                              Int)))))],
                                                                                                                                                                                                [])
                                                                                                                                                                                              ([(nat_lit
                                                                                                                                                                                                      0,
                                                                                                                                                                                                    LV.pv
                                                                                                                                                                                                      (PV.sl
                                                                                                                                                                                                        n0
                                                                                                                                                                                                        f0
                                                                                                                                                                                                        s0)),
                                                                                                                                                                                                  (nat_lit
                                                                                                                                                                                                      1,
                                                                                                                                                                                                    LV.pv
                                                                                                                                                                                                      (PV.int
                                                                                                                                                                                                        IntKind.i64
                                                                                                                                                                                                        k)),
                                                                                                                                                                                                  (nat_lit
                                                                                                                                                                                                      5,
                                                                                                                                                                                                    LV.pv
                                                                                                                                                                                                      (PV.sl
                                                                                                                                                                                                        n5
                                                                                                                                                                                                        f5
                                                                                                                                                                                                        s5)),
                                                                                                                                                                                                  (nat_lit
                                                                                                                                                                                                      6,
                                                                                                                                                                                                    LV.pv
                                                                                                                                                                                                      (PV.sl
                                                                                                                                                                                                        n6
                                                                                                                                                                                                        f6
                                                                                                                                                                                                        s6)),
                                                                                                                                                                                                  (nat_lit
                                                                                                                                                                                                      7,
                                                                                                                                                                                                    LV.pv
                                                                                                                                                                                                      (PV.int
                                                                                                                                                                                                        IntKind.i64
                                                                                                                                                                                                        (IntKind.i64.wrap
                                                                                                                                                                                                          (x7 +
                                                                                                                                                                                                            (1 :
                                                                                                                                                                                                              Int)))))],
                                                                                                                                                                                                []) ∧
                                                                                                                                                                                            J
                                                                                                                                                                                                n0
                                                                                                                                                                                                f0
                                                                                                                                                                                                s0
                                                                                                                                                                                                n5
                                                                                                                                                                                                f5
                                                                                                                                                                                                s5
                                                                                                                                                                                                n6
                                                                                                                                                                                                f6
                                                                                                                                                                                                s6
                                                                                                                                                                                                (IntKind.i64.wrap
                                                                                                                                                                                                  (x7 +
                                                                                                                                                                                                    (1 :
                                                                                                                                                                                                      Int))) ∧
                                                                                                                                                                                              μ
                                                                                                                                                                                                  n0
                                                                                                                                                                                                  f0
                                                                                                                                                                                                  s0
                                                                                                                                                                                                  n5
                                                                                                                                                                                                  f5
                                                                                                                                                                                                  s5
                                                                                                                                                                                                  n6
                                                                                                                                                                                                  f6
                                                                                                                                                                                                  s6
                                                                                                                                                                                                  (IntKind.i64.wrap
                                                                                                                                                                                                    (x7 +
                                                                                                                                                                                                      (1 :
                                                                                                                                                                                                        Int))) <
                                                                                                                                                                                                μ
                                                                                                                                                                                                  n0
                                                                                                                                                                                                  f0
                                                                                                                                                                                                  s0
                                                                                                                                                                                                  n5
                                                                                                                                                                                                  f5
                                                                                                                                                                                                  s5
                                                                                                                                                                                                  n6
                                                                                                                                                                                                  f6
                                                                                                                                                                                                  s6
                                                                                                                                                                                                  x7
                                                                                                                                                        else
                                                                                                                                                          SameSt
                                                                                                                                                              ([(nat_lit
                                                                                                                                                                      0,
                                                                                                                                                                    LV.pv
                                                                                                                                                                      (PV.sl
                                                                                                                                                                        n0
                                                                                                                                                                        f0
                                                                                                                                                                        s0)),
                                                                                                                                                                  (nat_lit
                                                                                                                                                                      1,
                                                                                                                                                                    LV.pv
                                                                                                                                                                      (PV.int
                                                                                                                                                                        IntKind.i64
                                                                                                                                                                        k)),
                                                                                                                                                                  (nat_lit
                                                                                                                                                                      5,
                                                                                                                                                                    LV.pv
                                                                                                                                                                      (PV.sl
                                                                                                                                                                        n5
                                                                                                                                                                        f5
                                                                                                                                                                        s5)),
                                                                                                                                                                  (nat_lit
                                                                                                                                                                      6,
                                                                                                                                                                    LV.pv
                                                                                                                                                                      (PV.sl
                                                                                                                                                                        n6
                                                                                                                                                                        f6
                                                                                                                                                                        s6)),
                                                                                                                                                                  (nat_lit
                                                                                                                                                                      7,
                                                                                                                                                                    LV.pv
                                                                                                                                                                      (PV.int
                                                                                                                                                                        IntKind.i64
                                                                                                                                                                        (IntKind.i64.wrap
                                                                                                                                                                          (x7 +
                                                                                                                                                                            (1 :
                                                                                                                                                                              Int)))))],
                                                                                                                                                                [])
                                                                                                                                                              ([(nat_lit
                                                                                                                                                                      0,
                                                                                                                                                                    LV.pv
                                                                                                                                                                      (PV.sl
                                                                                                                                                                        n0
                                                                                                                                                                        f0
                                                                                                                                                                        s0)),
                                                                                                                                                                  (nat_lit
                                                                                                                                                                      1,
                                                                                                                                                                    LV.pv
                                                                                                                                                                      (PV.int
                                                                                                                                                                        IntKind.i64
                                                                                                                                                                        k)),
                                                                                                                                                                  (nat_lit
                                                                                                                                                                      5,
                                                                                                                                                                    LV.pv
                                                                                                                                                                      (PV.sl
                                                                                                                                                                        n5
                                                                                                                                                                        f5
                                                                                                                                                                        s5)),
                                                                                                                                                                  (nat_lit
                                                                                                                                                                      6,
                                                                                                                                                                    LV.pv
                                                                                                                                                                      (PV.sl
                                                                                                                                                                        n6
                                                                                                                                                                        f6
                                                                                                                                                                        s6)),
                                                                                                                                                                  (nat_lit
                                                                                                                                                                      7,
                                                                                                                                                                    LV.pv
                                                                                                                                                                      (PV.int
                                                                                                                                                                        IntKind.i64
                                                                                                                                                                        (IntKind.i64.wrap
                                                                                                                                                                          (x7 +
                                                                                                                                                                            (1 :
                                                                                                                                                                              Int)))))],
                                                                                                                                                                []) ∧
                                                                                                                                                            J
                                                                                                                                                                n0
                                                                                                                                                                f0
                                                                                                                                                                s0
                                                                                                                                                                n5
                                                                                                                                                                f5
                                                                                                                                                                s5
                                                                                                                                                                n6
                                                                                                                                                                f6
                                                                                                                                                                s6
                                                                                                                                                                (IntKind.i64.wrap
                                                                                                                                                                  (x7 +
                                                                                                                                                                    (1 :
                                                                                                                                                                      Int))) ∧
                                                                                                                                                              μ
                                                                                                                                                                  n0
                                                                                                                                                                  f0
                                                                                                                                                                  s0
                                                                                                                                                                  n5
                                                                                                                                                                  f5
                                                                                                                                                                  s5
                                                                                                                                                                  n6
                                                                                                                                                                  f6
                                                                                                                                                                  s6
                                                                                                                                                                  (IntKind.i64.wrap
                                                                                                                                                                    (x7 +
                                                                                                                                                                      (1 :
                                                                                                                                                                        Int))) <
                                                                                                                                                                μ
                                                                                                                                                                  n0
                                                                                                                                                                  f0
                                                                                                                                                                  s0
                                                                                                                                                                  n5
                                                                                                                                                                  f5
                                                                                                                                                                  s5
                                                                                                                                                                  n6
                                                                                                                                                                  f6
                                                                                                                                                                  s6
                                                                                                                                                                  x7
                                      else
                                        PCall Try.prog 31 [] fun (v3 : PV) ↦
                                          ∃ (b : Bool), v3 = PV.bool b ∧ R (PV.bool b)
theorem e_typebarlaw02_RowsSpans (n f : Bool) (es : List (List PV)) (k : Int) (J : (Bool) → (Bool) → (List (List PV)) → (Bool) → (Bool) → (List (List PV)) → (Bool) → (Bool) → (List (List PV)) → (Int) → Prop) (μ : (Bool) → (Bool) → (List (List PV)) → (Bool) → (Bool) → (List (List PV)) → (Bool) → (Bool) → (List (List PV)) → (Int) → Nat) (R : PV → Prop) : aFn Try.prog (fun _ => none) Try.f7 [0, 1, 4, 5, 6, 7, 8, 9, 10, 11, 12, 25, 87, 128] (fun zz_ => match zz_ with | 5 => some ⟨Bool × Bool × (List (List PV)) × Bool × Bool × (List (List PV)) × Bool × Bool × (List (List PV)) × Int, fun s => (fun (n0 : Bool) (f0 : Bool) (s0 : List (List PV)) (n5 : Bool) (f5 : Bool) (s5 : List (List PV)) (n6 : Bool) (f6 : Bool) (s6 : List (List PV)) (x7 : Int) => ([(0, .pv (.sl n0 f0 s0)), (1, LV.pv (PV.int IntKind.i64 k)), (5, .pv (.sl n5 f5 s5)), (6, .pv (.sl n6 f6 s6)), (7, .pv (.int IntKind.i64 x7))], [])) s.1 s.2.1 s.2.2.1 s.2.2.2.1 s.2.2.2.2.1 s.2.2.2.2.2.1 s.2.2.2.2.2.2.1 s.2.2.2.2.2.2.2.1 s.2.2.2.2.2.2.2.2.1 s.2.2.2.2.2.2.2.2.2, fun s => J s.1 s.2.1 s.2.2.1 s.2.2.2.1 s.2.2.2.2.1 s.2.2.2.2.2.1 s.2.2.2.2.2.2.1 s.2.2.2.2.2.2.2.1 s.2.2.2.2.2.2.2.2.1 s.2.2.2.2.2.2.2.2.2, fun s => μ s.1 s.2.1 s.2.2.1 s.2.2.2.1 s.2.2.2.2.1 s.2.2.2.2.2.1 s.2.2.2.2.2.2.1 s.2.2.2.2.2.2.2.1 s.2.2.2.2.2.2.2.2.1 s.2.2.2.2.2.2.2.2.2, fun e h => (gN e 0, gF e 0, gS e 0, gN e 5, gF e 5, gS e 5, gN e 6, gF e 6, gS e 6, gI e 7), [], [0, 1, 5, 6, 7], [], fun p => ∀ (n0 : Bool) (f0 : Bool) (s0 : List (List PV)) (n5 : Bool) (f5 : Bool) (s5 : List (List PV)) (n6 : Bool) (f6 : Bool) (s6 : List (List PV)) (x7 : Int), p (n0, f0, s0, n5, f5, s5, n6, f6, s6, x7), fun p h s => h s.1 s.2.1 s.2.2.1 s.2.2.2.1 s.2.2.2.2.1 s.2.2.2.2.2.1 s.2.2.2.2.2.2.1 s.2.2.2.2.2.2.2.1 s.2.2.2.2.2.2.2.2.1 s.2.2.2.2.2.2.2.2.2⟩ | _ => none) (Try.f7.body.getD .skip) [.sl n f es, .int .i64 k] R = r_typebarlaw02_RowsSpans n f es k J μ R := by kernel_rfl
theorem a_typebarlaw02_RowsSpans (n f : Bool) (es : List (List PV)) (k : Int) (J : (Bool) → (Bool) → (List (List PV)) → (Bool) → (Bool) → (List (List PV)) → (Bool) → (Bool) → (List (List PV)) → (Int) → Prop) (μ : (Bool) → (Bool) → (List (List PV)) → (Bool) → (Bool) → (List (List PV)) → (Bool) → (Bool) → (List (List PV)) → (Int) → Nat) {R : PV → Prop} (h : r_typebarlaw02_RowsSpans n f es k J μ R) : PCall Try.prog 7 [.sl n f es, .int .i64 k] R :=
  PCall.of Try.func7 (by kernel_rfl) (by kernel_rfl) (Nat.le_of_ble_eq_true (by kernel_rfl)) (Eq.mpr (e_typebarlaw02_RowsSpans n f es k J μ R) h)

end Go.Eng
namespace Go.Eng.Rows
/-- The edges. -/
def Asc (l : List Int) : Prop := l.Pairwise (· < ·)
theorem first_same {rows : List Row} {k r r' : Int} (h : ∀ x ∈ rows, x.has k r = x.has k r') : first rows k r = first rows k r' := by
  unfold first
  congr 1
  induction rows with
  | nil => rfl
  | cons x xs ih =>
    simp only [List.find?_cons, h x List.mem_cons_self]
    rw [ih fun y hy => h y (List.mem_cons_of_mem _ hy)]
structure EdgeOK (k : Int) (rows : List Row) (e : List Int) : Prop where
  asc : Asc e
  lo : 0 ∈ e
  hi : 1114112 ∈ e
  rng : ∀ x ∈ e, 0 ≤ x ∧ x ≤ 1114112
  fr : ∀ x ∈ rows, x.kind = k → 0 ≤ x.fr → x.fr ≤ 1114111 → x.fr ∈ e
  to : ∀ x ∈ rows, x.kind = k → -1 ≤ x.to → x.to < 1114111 → x.to + 1 ∈ e
theorem EdgeOK.gap {k : Int} {rows : List Row} {e : List Int} (h : EdgeOK k rows e) {i : Nat} (hi : i + 1 < e.length) : first rows k e[i] = first rows k (e[i+1] - 1) := by
  have hlt : e[i] < e[i+1] := (List.pairwise_iff_getElem.1 h.asc) i (i+1) (by omega) hi (by omega)
  have hr0 := h.rng e[i] (List.getElem_mem _)
  have hr1 := h.rng e[i+1] (List.getElem_mem _)
  have hno : ∀ y ∈ e, y ≤ e[i] ∨ e[i+1] ≤ y := fun y hy => by
    obtain ⟨j, hj, rfl⟩ := List.getElem_of_mem hy
    by_cases c : j ≤ i
    · left
      by_cases c' : j = i
      · subst c'; exact Int.le_refl _
      · have := (List.pairwise_iff_getElem.1 h.asc) j i hj (by omega) (by omega); omega
    · right
      by_cases c' : j = i + 1
      · subst c'; exact Int.le_refl _
      · have := (List.pairwise_iff_getElem.1 h.asc) (i+1) j hi hj (by omega); omega
  refine first_same fun x hx => ?_
  simp only [Row.has]
  by_cases hk : x.kind = k
  · have h1 := h.fr x hx hk
    have h2 := h.to x hx hk
    have h3 := fun a b => hno _ (h1 a b)
    have h4 := fun a b => hno _ (h2 a b)
    simp only [hk, decide_true, Bool.true_and]
    have e1 : (x.fr ≤ e[i]) ↔ (x.fr ≤ e[i+1] - 1) := by
      constructor
      · intro; omega
      · intro hh
        by_cases c : 0 ≤ x.fr
        · rcases h3 c (by omega) with h | h <;> omega
        · omega
    have e2 : (e[i] ≤ x.to) ↔ (e[i+1] - 1 ≤ x.to) := by
      constructor
      · intro hh
        by_cases c : x.to < 1114111
        · rcases h4 (by omega) c with h | h <;> omega
        · omega
      · intro; omega
    rw [decide_eq_decide.2 e1, decide_eq_decide.2 e2]
  · simp [hk]
/-- One number more, in order. -/
structure AddOK (l : List Int) (n : Int) (i : Nat) (done : Bool) (out : List Int) : Prop where
  asc : Asc out
  mem : ∀ x, x ∈ out ↔ x ∈ l.take i ∨ (done = true ∧ x = n)
  len : out.length ≤ i + 1
  fresh : done = false → ∀ x ∈ l.take i, x < n
  past : done = true → ∀ x ∈ l.drop i, n < x
theorem asc_snoc {l : List Int} {x : Int} (h : Asc l) (hx : ∀ y ∈ l, y < x) : Asc (l ++ [x]) :=
  List.pairwise_append.2 ⟨h, by simp, fun y hy z hz => by simp at hz; subst hz; exact hx y hy⟩
theorem take_one {α : Type} {l : List α} {i : Nat} (h : i < l.length) : l.take (i + 1) = l.take i ++ [l[i]] := by
  rw [List.take_add_one, List.getElem?_eq_getElem h]; rfl
theorem asc_split {l : List Int} (h : Asc l) {i : Nat} (hi : i < l.length) : (∀ y ∈ l.take i, y < l[i]) ∧ ∀ y ∈ l.drop (i + 1), l[i] < y := by
  have e : l = l.take i ++ l[i] :: l.drop (i + 1) := by rw [List.getElem_cons_drop]; simp
  have h' : Asc (l.take i ++ l[i] :: l.drop (i + 1)) := e ▸ h
  have := List.pairwise_append.1 h'
  exact ⟨fun y hy => this.2.2 y hy _ List.mem_cons_self, fun y hy => List.rel_of_pairwise_cons this.2.1 hy⟩
theorem AddOK.both {l : List Int} {n : Int} {i : Nat} {out : List Int} (hl : Asc l) (hi : i < l.length) (h : AddOK l n i false out) (hn : n < l[i]) : AddOK l n (i + 1) true (out ++ [n] ++ [l[i]]) := by
  obtain ⟨s1, s2⟩ := asc_split hl hi
  have hm : ∀ y ∈ out, y < n := fun y hy => by
    rcases (h.mem y).1 hy with h1 | h1
    · exact h.fresh rfl y h1
    · cases h1.1
  refine ⟨asc_snoc (asc_snoc h.asc hm) fun y hy => ?_, fun x => ?_, ?_, fun h => (by cases h), fun _ x hx => by have := s2 x hx; omega⟩
  · rcases List.mem_append.1 hy with hy | hy
    · have := hm y hy; omega
    · simp at hy; subst hy; exact hn
  · rw [take_one hi]
    simp only [List.mem_append, List.mem_singleton, h.mem, Bool.false_eq_true, false_and, or_false, true_and]
    constructor
    · rintro ((a | a) | a)
      · exact .inl (.inl a)
      · exact .inr a
      · exact .inl (.inr a)
    · rintro ((a | a) | a)
      · exact .inl (.inl a)
      · exact .inr a
      · exact .inl (.inr a)
  · have hnd : out.length = (l.take i).length := by
      have h1 : ∀ x, x ∈ out ↔ x ∈ l.take i := fun x => by rw [h.mem]; simp
      have h2 : out.Nodup := h.asc.imp fun h => by omega
      have h3 : (l.take i).Nodup := (hl.sublist (List.take_sublist i l)).imp fun h => by omega
      exact (List.perm_iff_count.2 fun a => by rw [h2.count, h3.count]; simp [h1]).length_eq
    simp at hnd ⊢; omega
theorem AddOK.one {l : List Int} {n : Int} {i : Nat} {done : Bool} {out : List Int} (hl : Asc l) (hi : i < l.length) (h : AddOK l n i done out) (hn : done = false → l[i] < n) : AddOK l n (i + 1) done (out ++ [l[i]]) := by
  obtain ⟨s1, s2⟩ := asc_split hl hi
  refine ⟨asc_snoc h.asc fun y hy => ?_, fun x => ?_, by have := h.len; simp; omega, fun hd x hx => ?_, fun hd x hx => ?_⟩
  · rcases (h.mem y).1 hy with hy | ⟨hd, rfl⟩
    · exact s1 y hy
    · exact h.past hd _ (by rw [List.drop_eq_getElem_cons hi]; exact List.mem_cons_self)
  · rw [take_one hi]
    simp only [List.mem_append, List.mem_singleton, h.mem]
    constructor
    · rintro ((a | a) | a)
      · exact .inl (.inl a)
      · exact .inr a
      · exact .inl (.inr a)
    · rintro ((a | a) | a)
      · exact .inl (.inl a)
      · exact .inr a
      · exact .inl (.inr a)
  · rw [take_one hi] at hx
    rcases List.mem_append.1 hx with hx | hx
    · exact h.fresh hd x hx
    · simp at hx; subst hx; exact hn hd
  · exact h.past hd x (by rw [List.drop_eq_getElem_cons hi]; exact List.mem_cons_of_mem _ hx)
theorem EdgeOK.add {k : Int} {rows : List Row} {e : List Int} (h : EdgeOK k rows e) {n : Int} {e' : List Int} (ha : Asc e') (hm : ∀ x, x ∈ e' ↔ x ∈ e ∨ (x = n ∧ 0 ≤ n ∧ n ≤ 1114111)) : EdgeOK k rows e' :=
  ⟨ha, (hm 0).2 (.inl h.lo), (hm _).2 (.inl h.hi), fun x hx => by
    rcases (hm x).1 hx with h1 | h1
    · exact h.rng x h1
    · omega, fun x hx a b c => (hm _).2 (.inl (h.fr x hx a b c)), fun x hx a b c => (hm _).2 (.inl (h.to x hx a b c))⟩
end Go.Eng.Rows
set_option linter.unusedVariables false
set_option linter.unusedSimpArgs false
set_option maxRecDepth 100000
set_option linter.constructorNameAsVariable false
namespace Go.Eng
open Go Go.Proofs Go.Eng.Rows
def i64s (l : List Int) : List (List PV) := l.map fun n => [.int .i64 n]
theorem i64s_len (l : List Int) : (i64s l).length = l.length := by simp [i64s]
theorem enc1_len (x : Int) : ([PV.int .i64 x] : List PV).length = 1 := rfl
theorem p65 (n f : Bool) (l : List Int) (k : Int) (hl : Asc l) (hh : 1114112 ∈ l) (hb : l.length < 1000000) : PCall Try.prog 65 [.sl n f (i64s l), .int .i64 k] fun v => ∃ n f l', v = .sl n f (i64s l') ∧ Asc l' ∧ l'.length ≤ l.length + 1 ∧ ∀ x, x ∈ l' ↔ x ∈ l ∨ (x = k ∧ 0 ≤ k ∧ k ≤ 1114111) := by
  refine a_typebarref02_add _ _ _ _ (fun d i _ out => 0 ≤ i ∧ i ≤ l.length ∧ ∃ o, out = i64s o ∧ AddOK l k i.toNat d o) (fun _ i _ _ => l.length - i.toNat) ?_
  unfold r_typebarref02_add
  refine iteD (fun h => ?_) (fun h => ?_)
  · simp only [Bool.or_eq_true, decide_eq_true_eq, gt_iff_lt] at h
    exact ⟨n, f, l, rfl, hl, by omega, fun x => ⟨.inl, fun h' => h'.elim id fun h' => absurd h'.2 (by omega)⟩⟩
  · simp only [Bool.or_eq_true, decide_eq_true_eq, gt_iff_lt] at h
    refine ⟨⟨rfl, Int.le_refl _, by omega, [], rfl, List.Pairwise.nil, fun x => by simp, by simp, fun _ x hx => by simp at hx, fun h => by cases h⟩, ?_⟩
    rintro d i m _ ⟨i0, i1, o, rfl, ho⟩
    refine iteD (fun hc => ?_) (fun hc => ?_)
    · simp only [decide_eq_true_eq, i64s_len] at hc
      have hi : i.toNat < l.length := by omega
      have hw : IntKind.i64.wrap (i + 1) = i + 1 := wrap_i64 (by omega) (by omega)
      have hn : (i + 1).toNat = i.toNat + 1 := by omega
      have hg : (i64s l).getD i.toNat [] = [.int .i64 l[i.toNat]] := getD_map hi
      have hix : idxOK (i64s l) i 1 := idxOK_map enc1_len i0 hc
      have hol := ho.len
      refine ⟨hix, l[i.toNat], by rw [hg]; rfl, ?_⟩
      refine iteD (fun h1 => ?_) (fun h1 => ?_)
      · simp only [beq_iff_eq] at h1
        exact ⟨n, f, l, rfl, hl, by omega, fun x => ⟨.inl, fun h' => h'.elim id fun h' => by rw [h'.1, ← h1]; exact List.getElem_mem _⟩⟩
      · simp only [beq_iff_eq] at h1
        refine ⟨hix, l[i.toNat], by rw [hg]; rfl, ?_⟩
        refine iteD (fun h2 => ?_) (fun h2 => ?_)
        · simp only [Bool.and_eq_true, decide_eq_true_eq, Bool.not_eq_true'] at h2
          obtain ⟨h2, rfl⟩ := h2
          refine ⟨⟨fun e he => by simp at he; subst he; rfl, by rw [i64s_len]; omega⟩, hix, l[i.toNat], by rw [hg]; rfl, ⟨fun e he => by simp at he; subst he; rfl, by simp [i64s_len]; omega⟩, rfl, ?_, ?_⟩
          · rw [hw]; dsimp only; rw [hn]
            exact ⟨by omega, by omega, o ++ [k] ++ [l[i.toNat]], by simp [i64s], ho.both hl hi h2⟩
          · dsimp only; rw [hw]; omega
        · refine ⟨hix, l[i.toNat], by rw [hg]; rfl, ⟨fun e he => by simp at he; subst he; rfl, by rw [i64s_len]; omega⟩, rfl, ?_, ?_⟩
          · rw [hw]; dsimp only; rw [hn]
            refine ⟨by omega, by omega, o ++ [l[i.toNat]], by simp [i64s], ho.one hl hi fun hd => ?_⟩
            subst hd
            simp only [gt_iff_lt, Bool.not_false, Bool.and_true, decide_eq_true_eq] at h2
            omega
          · dsimp only; rw [hw]; omega
    · simp only [decide_eq_true_eq, i64s_len] at hc
      have hi : l.length ≤ i.toNat := by omega
      have hm := ho.mem
      have hf := ho.fresh
      have hle := ho.len
      rw [List.take_of_length_le hi] at hm hf
      have hd : d = true := by
        cases d with
        | true => rfl
        | false => have := hf rfl _ hh; omega
      subst hd
      exact ⟨m, false, o, rfl, ho.asc, by omega, fun x => by
        have hk0 : 0 ≤ k := by omega
        have hk1 : k ≤ 1114111 := by omega
        rw [hm]; simp [hk0, hk1]⟩
theorem p32 (n f : Bool) (rows : List Row) (k : Int) (hok : ∀ x ∈ rows, Row.ok x) (hb : rows.length ≤ 40) : PCall Try.prog 32 [.sl n f (rws rows), .int .i64 k] fun v => ∃ n f e, v = .sl n f (i64s e) ∧ EdgeOK k rows e ∧ e.length < 1000000 := by
  refine a_typebarref02_Edges _ _ _ _ (fun _ _ s i => 0 ≤ i ∧ i ≤ rows.length ∧ ∃ e, s = i64s e ∧ EdgeOK k (rows.take i.toNat) e ∧ e.length ≤ 2 + 2 * i.toNat) (fun _ _ _ i => rows.length - i.toNat) ?_
  unfold r_typebarref02_Edges
  refine ⟨⟨rfl, Int.le_refl _, by omega, [0, 1114112], rfl, ⟨by simp [Asc], by simp, by simp, by simp, by simp, by simp⟩, by simp⟩, ?_⟩
  rintro n5 f5 _ i ⟨i0, i1, e, rfl, he, hel⟩
  refine iteD (fun hc => ?_) (fun hc => ?_)
  · simp only [decide_eq_true_eq, rws_len] at hc
    have hi : i.toNat < rows.length := by omega
    have hw : IntKind.i64.wrap (i + 1) = i + 1 := wrap_i64 (by omega) (by omega)
    have hn : (i + 1).toNat = i.toNat + 1 := by omega
    have hg : (rws rows).getD i.toNat [] = encR rows[i.toNat] := getD_map hi
    have hix : idxOK (rws rows) i 5 := idxOK_map encR_len i0 hc
    have hx := hok _ (List.getElem_mem hi)
    have hmu : rows.length - (i + 1).toNat < rows.length - i.toNat := by omega
    have hnx : ∀ {e' : List Int}, EdgeOK k (rows.take i.toNat) e' → (rows[i.toNat].kind = k → 0 ≤ rows[i.toNat].fr → rows[i.toNat].fr ≤ 1114111 → rows[i.toNat].fr ∈ e') → (rows[i.toNat].kind = k → -1 ≤ rows[i.toNat].to → rows[i.toNat].to < 1114111 → rows[i.toNat].to + 1 ∈ e') → EdgeOK k (rows.take (i + 1).toNat) e' := fun {e'} he' a b => by
      refine ⟨he'.asc, he'.lo, he'.hi, he'.rng, fun x hx => ?_, fun x hx => ?_⟩ <;> rw [hn, take_snoc hi] at hx <;> rcases List.mem_append.1 hx with hx | hx
      · exact he'.fr x hx
      · simp only [List.mem_singleton] at hx; subst hx; exact a
      · exact he'.to x hx
      · simp only [List.mem_singleton] at hx; subst hx; exact b
    refine ⟨hix, rows[i.toNat].kind, by rw [hg]; rfl, ?_⟩
    simp only [hw]
    generalize rows[i.toNat] = x at *
    refine iteD (fun hk => ?_) (fun hk => ?_)
    · have hk : ¬ x.kind = k := by simpa using hk
      exact ⟨rfl, ⟨by omega, by omega, e, rfl, hnx he (fun h => absurd h hk) (fun h => absurd h hk), by omega⟩, hmu⟩
    · have hk : x.kind = k := by simpa using hk
      refine ⟨hix, x.fr, by rw [hg]; rfl, ?_⟩
      refine (p65 _ _ e x.fr he.asc he.hi (by omega)).mono ?_
      rintro _ ⟨n1, f1, e1, rfl, a1, l1, m1⟩
      refine ⟨_, _, _, rfl, hix, x.to, by rw [hg]; rfl, ?_⟩
      have he1 := he.add a1 m1
      have hf1 : x.kind = k → 0 ≤ x.fr → x.fr ≤ 1114111 → x.fr ∈ e1 := fun _ a b => (m1 _).2 (.inr ⟨rfl, a, b⟩)
      refine iteD (fun ht => ?_) (fun ht => ?_)
      · simp only [decide_eq_true_eq] at ht
        have hw2 : IntKind.i64.wrap (x.to + 1) = x.to + 1 := wrap_i64 (by have := hx.2.2; omega) (by omega)
        refine ⟨hix, x.to, by rw [hg]; rfl, ?_⟩
        rw [hw2]
        refine (p65 _ _ e1 (x.to + 1) a1 he1.hi (by omega)).mono ?_
        rintro _ ⟨n2, f2, e2, rfl, a2, l2, m2⟩
        have he2 := he1.add a2 m2
        exact ⟨_, _, _, rfl, rfl, ⟨by omega, by omega, e2, rfl, hnx he2 (fun a b c => (m2 _).2 (.inl (hf1 a b c))) (fun a b c => (m2 _).2 (.inr ⟨rfl, by omega, by omega⟩)), by omega⟩, hmu⟩
      · simp only [decide_eq_true_eq] at ht
        exact ⟨rfl, ⟨by omega, by omega, e1, rfl, hnx he1 hf1 (fun a b c => absurd c ht), by omega⟩, hmu⟩
  · simp only [decide_eq_true_eq, rws_len] at hc
    rw [List.take_of_length_le (by omega)] at he
    exact ⟨_, _, e, rfl, he, by omega⟩
end Go.Eng
set_option linter.unusedVariables false
set_option linter.unusedSimpArgs false
set_option maxRecDepth 100000
set_option linter.constructorNameAsVariable false
namespace Go.Eng
open Go Go.Proofs Go.Eng.Rows
/-- Where the first row is that has a number. -/
def FindOK (rows : List Row) (k r m : Int) : Prop :=
  (m = -1 ∧ (0 ≤ r → r ≤ 1114111 → first rows k r = none)) ∨ (0 ≤ m ∧ ∃ h : m.toNat < rows.length, (0 ≤ r ∧ r ≤ 1114111) ∧ first rows k r = some (rows[m.toNat].a, rows[m.toNat].b))
theorem first_none {rows : List Row} {k r : Int} (h : ∀ x ∈ rows, x.has k r = false) : first rows k r = none := by
  unfold first
  rw [List.find?_eq_none.2 fun x hx => by simp [h x hx]]
  rfl
theorem first_at {rows : List Row} {k r : Int} {i : Nat} (hi : i < rows.length) (hb : ∀ x ∈ rows.take i, x.has k r = false) (h : rows[i].has k r = true) : first rows k r = some (rows[i].a, rows[i].b) := by
  unfold first
  have e : rows = rows.take i ++ rows[i] :: rows.drop (i + 1) := by rw [List.getElem_cons_drop]; simp
  rw [show (rows.find? fun x => x.has k r) = some rows[i] by
    conv => lhs; rw [e]
    rw [List.find?_append, List.find?_eq_none.2 fun x hx => by simp [hb x hx]]
    simp only [List.find?_cons, h, Option.none_or]]
  rfl
theorem p33 (n f : Bool) (rows : List Row) (k r : Int) (hl : rows.length < 4611686018427387904) : PCall Try.prog 33 [.sl n f (rws rows), .int .i64 k, .int .i64 r] fun v => ∃ m, v = .int .i64 m ∧ FindOK rows k r m := by
  refine a_typebarref02_Find _ _ _ _ _ (fun i => 0 ≤ i ∧ i ≤ rows.length ∧ ∀ x ∈ rows.take i.toNat, x.has k r = false) (fun i => rows.length - i.toNat) ?_
  unfold r_typebarref02_Find
  refine iteD (fun h => ?_) (fun h => ?_)
  · simp only [Bool.or_eq_true, decide_eq_true_eq, gt_iff_lt] at h
    exact ⟨_, rfl, .inl ⟨rfl, fun a b => by omega⟩⟩
  · simp only [Bool.or_eq_true, decide_eq_true_eq, gt_iff_lt] at h
    refine ⟨⟨rfl, Int.le_refl _, by omega, fun x hx => by simp at hx⟩, ?_⟩
    rintro i ⟨i0, i1, hb⟩
    refine iteD (fun hc => ?_) (fun hc => ?_)
    · simp only [decide_eq_true_eq, rws_len] at hc
      have hi : i.toNat < rows.length := by omega
      have hw : IntKind.i64.wrap (i + 1) = i + 1 := wrap_i64 (by omega) (by omega)
      have hn : (i + 1).toNat = i.toNat + 1 := by omega
      have hg : (rws rows).getD i.toNat [] = encR rows[i.toNat] := getD_map hi
      have hix : idxOK (rws rows) i 5 := idxOK_map encR_len i0 hc
      have hmu : rows.length - (i + 1).toNat < rows.length - i.toNat := by omega
      have hnx : rows[i.toNat].has k r = false → 0 ≤ i + 1 ∧ i + 1 ≤ rows.length ∧ ∀ x ∈ rows.take (i + 1).toNat, x.has k r = false := fun hh => by
        refine ⟨by omega, by omega, fun x hx => ?_⟩
        rw [hn, take_snoc hi] at hx
        rcases List.mem_append.1 hx with hx | hx
        · exact hb x hx
        · simp only [List.mem_singleton] at hx; subst hx; exact hh
      simp only [hw]
      refine ⟨hix, rows[i.toNat].kind, by rw [hg]; rfl, ?_⟩
      refine iteD (fun h1 => ?_) (fun h1 => ⟨rfl, hnx (by simp [Row.has]; intro a; simp [a] at h1), hmu⟩)
      simp only [beq_iff_eq] at h1
      refine ⟨hix, rows[i.toNat].fr, by rw [hg]; rfl, ?_⟩
      refine iteD (fun h2 => ?_) (fun h2 => ⟨rfl, hnx (by simp only [decide_eq_true_eq] at h2; simp [Row.has, h2]), hmu⟩)
      simp only [decide_eq_true_eq] at h2
      refine ⟨hix, rows[i.toNat].to, by rw [hg]; rfl, ?_⟩
      refine iteD (fun h3 => ?_) (fun h3 => ⟨rfl, hnx (by simp only [decide_eq_true_eq] at h3; simp [Row.has, h3]), hmu⟩)
      simp only [decide_eq_true_eq] at h3
      exact ⟨_, rfl, .inr ⟨i0, hi, ⟨by omega, by omega⟩, first_at hi hb (by simp [Row.has, h1, h2, h3])⟩⟩
    · simp only [decide_eq_true_eq, rws_len] at hc
      rw [List.take_of_length_le (by omega)] at hb
      exact ⟨_, rfl, .inl ⟨rfl, fun _ _ => first_none hb⟩⟩
def cmpAt (x : Sp) (t : Int) : Int := if x.to < t then -1 else if t < x.fr then 1 else 0
theorem p67 (x : Sp) (t : Int) : PCall Try.prog 67 [.agg (encS x), .int .i64 t] fun v => v = .int .i64 (cmpAt x t) := by
  refine a_rows_At_1 _ _ _ _ _ ?_; unfold r_rows_At_1
  refine iteD (fun h => ?_) (fun h => iteD (fun h' => ?_) (fun h' => ?_)) <;> simp only [decide_eq_true_eq, gt_iff_lt] at *
  · simp [cmpAt, h]
  · simp [cmpAt, h, h']
  · simp [cmpAt, h, h']
theorem mid_ok {i j : Int} (h0 : 0 ≤ i) (h1 : i ≤ j) (h2 : j ≤ 4611686018427387904 - 1) : IntKind.i64.wrap ((IntKind.u64.wrap (IntKind.i64.wrap (i + j))).fdiv (2 ^ 1)) = (i + j) / 2 := by
  have e1 : IntKind.i64.wrap (i + j) = i + j := wrap_i64 (by omega) (by omega)
  have e2 : IntKind.u64.wrap (i + j) = i + j := by
    unfold IntKind.wrap
    simp only [IntKind.bits, IntKind.signed, Bool.false_and, Bool.false_eq_true, if_false]
    exact Int.emod_eq_of_lt (by omega) (by omega)
  rw [e1, e2, Int.fdiv_eq_ediv_of_nonneg _ (by decide)]
  exact wrap_i64 (by omega) (by omega)
theorem p66 (n f : Bool) (l : List Sp) (t : Int) (hl : Rows.Good l) : PCall Try.prog 66 [.sl n f (sps l), .int .i64 t, .fn 67 []] fun v => ∃ m q, v = .tup [.int .i64 m, .bool q] ∧ (q = true → 0 ≤ m ∧ ∃ h : m.toNat < l.length, l[m.toNat].has t) ∧ (q = false → ∀ x ∈ l, ¬ x.has t) := by
  refine a_slices_BinarySearchFunc_rows_Span_rows_Span_int _ _ _ _ (fun i j => 0 ≤ i ∧ i ≤ j ∧ j ≤ l.length ∧ (∀ k (h : k < l.length), (k : Int) < i → l[k].to < t) ∧ (∀ k (h : k < l.length), j ≤ (k : Int) → ¬ l[k].to < t)) (fun i j => (j - i).toNat) ?_
  unfold r_slices_BinarySearchFunc_rows_Span_rows_Span_int
  have hll := hl.len
  have hmono : ∀ a b (ha : a < l.length) (hb : b < l.length), a ≤ b → l[a].to ≤ l[b].to := fun a b ha hb h => by
    by_cases e : a = b
    · subst e; exact Int.le_refl _
    · have := (List.pairwise_iff_getElem.1 hl.1) a b ha hb (by omega)
      have := hl.2 l[b] (List.getElem_mem hb)
      omega
  refine ⟨⟨by simp only [sps_len]; rfl, Int.le_refl _, by simp only [sps_len]; omega, by simp only [sps_len]; omega, fun k h hk => by omega, fun k h hk => by simp only [sps_len] at hk; omega⟩, ?_⟩
  rintro i j ⟨i0, ij, jn, hlo, hhi⟩
  refine iteD (fun hc => ?_) (fun hc => ?_)
  · simp only [decide_eq_true_eq] at hc
    have hm := mid_ok i0 ij (by omega)
    simp only [hm]
    have hmi : ((i + j) / 2).toNat < l.length := by omega
    have hg : (sps l).getD ((i + j) / 2).toNat [] = encS l[((i + j) / 2).toNat] := getD_map hmi
    have hw : IntKind.i64.wrap ((i + j) / 2 + 1) = (i + j) / 2 + 1 := wrap_i64 (by omega) (by omega)
    refine ⟨idxOK_map encS_len (by omega) (by omega), l[((i + j) / 2).toNat].fr, by rw [hg]; rfl, l[((i + j) / 2).toNat].to, by rw [hg]; rfl, l[((i + j) / 2).toNat].a, by rw [hg]; rfl, l[((i + j) / 2).toNat].b, by rw [hg]; rfl, ?_⟩
    refine (p67 l[((i + j) / 2).toNat] t).mono ?_
    rintro _ rfl
    refine ⟨_, rfl, ?_⟩
    simp only [hw]
    refine iteD (fun hq => ?_) (fun hq => ?_)
    · simp only [decide_eq_true_eq] at hq
      have hlt : l[((i + j) / 2).toNat].to < t := by
        unfold cmpAt at hq
        split at hq
        · assumption
        · split at hq <;> omega
      refine ⟨rfl, ⟨by omega, by omega, jn, fun k h hk => ?_, hhi⟩, by omega⟩
      have := hmono k ((i + j) / 2).toNat h hmi (by omega)
      omega
    · simp only [decide_eq_true_eq] at hq
      have hlt : ¬ l[((i + j) / 2).toNat].to < t := by
        intro h
        unfold cmpAt at hq
        rw [if_pos h] at hq
        omega
      refine ⟨rfl, ⟨i0, by omega, by omega, hlo, fun k h hk => ?_⟩, by omega⟩
      have := hmono ((i + j) / 2).toNat k hmi h (by omega)
      omega
  · simp only [decide_eq_true_eq] at hc
    have e : i = j := by omega
    subst e
    have hno : (∀ h : i.toNat < l.length, ¬ l[i.toNat].has t) → ∀ x ∈ l, ¬ x.has t := fun hn x hx => by
      obtain ⟨k, hk, rfl⟩ := List.getElem_of_mem hx
      by_cases c : (k : Int) < i
      · have := hlo k hk c
        intro hh; have := hh.2; omega
      · by_cases c' : (k : Int) = i
        · have e : k = i.toNat := by omega
          subst e; exact hn hk
        · have h1 := hhi i.toNat (by omega) (by omega)
          have h2 := (List.pairwise_iff_getElem.1 hl.1) i.toNat k (by omega) hk (by omega)
          intro hh; have := hh.1; omega
    refine iteD (fun hq => ?_) (fun hq => ?_)
    · simp only [decide_eq_true_eq, sps_len] at hq
      have hi : i.toNat < l.length := by omega
      have hg : (sps l).getD i.toNat [] = encS l[i.toNat] := getD_map hi
      have h1 := hhi i.toNat hi (by omega)
      refine ⟨idxOK_map encS_len i0 hq, l[i.toNat].fr, by rw [hg]; rfl, l[i.toNat].to, by rw [hg]; rfl, l[i.toNat].a, by rw [hg]; rfl, l[i.toNat].b, by rw [hg]; rfl, ?_⟩
      refine (p67 l[i.toNat] t).mono ?_
      rintro _ rfl
      refine ⟨_, rfl, _, _, rfl, fun hq => ?_, fun hq => hno fun hi' => ?_⟩
      · simp only [cmpAt, if_neg h1, beq_iff_eq] at hq
        refine ⟨i0, hi, ?_, by omega⟩
        by_cases c : t < l[i.toNat].fr
        · rw [if_pos c] at hq; cases hq
        · omega
      · intro hh
        have h2 := hh.1
        simp only [cmpAt, if_neg h1, if_neg (show ¬ t < l[i.toNat].fr by omega)] at hq
        simp at hq
    · simp only [decide_eq_true_eq, sps_len] at hq
      exact ⟨_, _, rfl, fun h => (by cases h), fun _ => hno fun hi => absurd hi (by omega)⟩
theorem p34 (n f : Bool) (l : List Sp) (r : Int) (hl : Rows.Good l) (hr : -2147483648 ≤ r ∧ r ≤ 2147483647) : PCall Try.prog 34 [.sl n f (sps l), .int .i32 r] fun v => ∃ x q, v = .tup [.agg (encS x), .bool q] ∧ (q = true → x ∈ l ∧ x.has r) ∧ (q = false → x = ⟨0, 0, 0, 0⟩ ∧ ∀ x ∈ l, ¬ x.has r) := by
  refine a_rows_At _ _ _ _ ?_; unfold r_rows_At
  have hw : IntKind.i64.wrap r = r := wrap_i64 (by omega) (by omega)
  rw [hw]
  refine (p66 n f l r hl).mono ?_
  rintro _ ⟨m, q, rfl, h1, h2⟩
  refine ⟨_, rfl, rfl, _, rfl, _, rfl, _, rfl, _, rfl, ?_⟩
  cases q with
  | false => exact ⟨⟨0, 0, 0, 0⟩, false, rfl, fun h => (by cases h), fun _ => ⟨rfl, h2 rfl⟩⟩
  | true =>
    obtain ⟨m0, hm, hh⟩ := h1 rfl
    have hg : (sps l).getD m.toNat [] = encS l[m.toNat] := getD_map hm
    exact ⟨idxOK_map encS_len m0 (by omega), l[m.toNat].fr, by rw [hg]; rfl, l[m.toNat].to, by rw [hg]; rfl, l[m.toNat].a, by rw [hg]; rfl, l[m.toNat].b, by rw [hg]; rfl, l[m.toNat], true, rfl, fun _ => ⟨List.getElem_mem _, hh⟩, fun h => (by cases h)⟩
end Go.Eng
set_option linter.unusedVariables false
set_option linter.unusedSimpArgs false
set_option maxRecDepth 100000
set_option linter.constructorNameAsVariable false
namespace Go.Eng
open Go Go.Proofs Go.Eng.Rows
theorem wrap32 {n : Int} (h1 : -2147483648 ≤ n) (h2 : n ≤ 2147483647) : IntKind.i32.wrap n = n := wrap_i32 h1 h2
theorem p7 (n f : Bool) (rows : List Row) (k : Int) (hok : ∀ x ∈ rows, Row.ok x) : PCall Try.prog 7 [.sl n f (rws rows), .int .i64 k] fun v => v = .bool true := by
  refine a_typebarlaw02_RowsSpans _ _ _ _ (fun _ _ s0 _ _ s5 _ _ s6 i => ∃ rs e, s0 = rws rs ∧ s5 = sps (ofL k rs) ∧ s6 = i64s e ∧ rs.length ≤ 40 ∧ EdgeOK k rs e ∧ e.length < 1000000 ∧ 0 ≤ i ∧ i ≤ e.length) (fun _ _ _ _ _ _ _ _ s6 i => s6.length - i.toNat) ?_
  unfold r_typebarlaw02_RowsSpans
  have hlt : (rows.take 40).length ≤ 40 := by simp only [List.length_take]; omega
  refine (p28 _ _ rows).mono ?_
  rintro _ ⟨n1, f1, rfl⟩
  refine ⟨_, _, _, rfl, ?_⟩
  refine (p29 _ _ _ k (by omega)).mono ?_
  rintro _ ⟨n2, f2, rfl⟩
  refine ⟨_, _, _, rfl, ?_⟩
  refine (p32 _ _ _ k (fun x hx => hok x (List.mem_of_mem_take hx)) hlt).mono ?_
  rintro _ ⟨n3, f3, e, rfl, he, hel⟩
  refine ⟨_, _, _, rfl, ⟨rfl, _, e, rfl, rfl, rfl, hlt, he, hel, Int.le_refl _, by omega⟩, ?_⟩
  rintro n0 f0 _ n5 f5 _ n6 f6 _ i ⟨rs, e, rfl, rfl, rfl, hrs, he, hel, i0, i1⟩
  have hgood := ofL_good k rs
  have hw : IntKind.i64.wrap (i + 1) = i + 1 := wrap_i64 (by omega) (by omega)
  rw [hw]
  refine iteD (fun hc => ?_) (fun hc => ?_)
  · simp only [decide_eq_true_eq, i64s_len] at hc
    have hi : i.toNat < e.length := by omega
    have hi1 : i.toNat + 1 < e.length := by omega
    have hn : (i + 1).toNat = i.toNat + 1 := by omega
    have hg : (i64s e).getD i.toNat [] = [.int .i64 e[i.toNat]] := getD_map hi
    have hg1 : (i64s e).getD (i + 1).toNat [] = [.int .i64 e[i.toNat + 1]] := by rw [hn]; exact getD_map hi1
    have hix : idxOK (i64s e) i 1 := idxOK_map enc1_len i0 (by omega)
    have hix1 : idxOK (i64s e) (i + 1) 1 := idxOK_map enc1_len (by omega) (by omega)
    have hgap := he.gap hi1
    have hasc : e[i.toNat] < e[i.toNat + 1] := (List.pairwise_iff_getElem.1 he.asc) _ _ hi hi1 (by omega)
    have hr0 := he.rng _ (List.getElem_mem hi)
    have hr1 := he.rng _ (List.getElem_mem hi1)
    have hJ : ∃ rs' e', rws rs = rws rs' ∧ sps (ofL k rs) = sps (ofL k rs') ∧ i64s e = i64s e' ∧ rs'.length ≤ 40 ∧ EdgeOK k rs' e' ∧ e'.length < 1000000 ∧ 0 ≤ i + 1 ∧ i + 1 ≤ e'.length := ⟨rs, e, rfl, rfl, rfl, hrs, he, hel, by omega, by omega⟩
    have hmu : (i64s e).length - (i + 1).toNat < (i64s e).length - i.toNat := by rw [i64s_len]; omega
    generalize e[i.toNat] = r1 at *
    generalize e[i.toNat + 1] = r2 at *
    have hw1 : IntKind.i32.wrap r1 = r1 := wrap32 (by omega) (by omega)
    have hw2 : IntKind.i64.wrap (r2 - 1) = r2 - 1 := wrap_i64 (by omega) (by omega)
    have hw3 : IntKind.i32.wrap (r2 - 1) = r2 - 1 := wrap32 (by omega) (by omega)
    refine ⟨hix, r1, by rw [hg]; rfl, ?_⟩
    refine (p33 n0 f0 rs k r1 (by omega)).mono ?_
    rintro _ ⟨m, rfl, hm⟩
    refine ⟨_, rfl, hix, r1, by rw [hg]; rfl, ?_⟩
    rw [hw1]
    refine (p34 n5 f5 (ofL k rs) r1 hgood (by omega)).mono ?_
    rintro _ ⟨x, q, rfl, hq1, hq2⟩
    refine ⟨_, rfl, rfl, _, rfl, _, rfl, rfl, _, rfl, _, rfl, _, rfl, _, rfl, _, rfl, _, rfl, hix1, r2, by rw [hg1]; rfl, ?_⟩
    rw [hw2, hw3]
    refine (p34 n5 f5 (ofL k rs) (r2 - 1) hgood (by omega)).mono ?_
    rintro _ ⟨y, q', rfl, hq1', hq2'⟩
    refine ⟨_, rfl, rfl, _, rfl, _, rfl, rfl, _, rfl, _, rfl, _, rfl, _, rfl, _, rfl, _, rfl, ?_⟩
    have hh1 := fun a b => ofL_has k rs r1 a b
    have hh2 := fun a b => ofL_has k rs (r2 - 1) a b
    cases hf : first rs k r1 with
    | none =>
      rw [hf] at hgap
      have eq : q = false := by
        cases q with
        | false => rfl
        | true =>
          obtain ⟨h1, h2⟩ := hq1 rfl
          have := ((hh1 x.a x.b).1 ⟨x, h1, h2, rfl, rfl⟩).2
          rw [hf] at this; cases this
      have eq' : q' = false := by
        cases q' with
        | false => rfl
        | true =>
          obtain ⟨h1, h2⟩ := hq1' rfl
          have := ((hh2 y.a y.b).1 ⟨y, h1, h2, rfl, rfl⟩).2
          rw [← hgap] at this; cases this
      have em : m = -1 := by
        rcases hm with h | ⟨_, _, _, h⟩
        · exact h.1
        · rw [hf] at h; cases h
      subst eq; subst eq'; subst em
      refine iteF (by simp) ?_
      refine iteF (by simp) ?_
      refine iteF (by simp) ?_
      exact ⟨rfl, hJ, hmu⟩
    | some p =>
      rw [hf] at hgap
      obtain ⟨A, B⟩ := p
      have eq : q = true := by
        cases q with
        | true => rfl
        | false =>
          obtain ⟨z, h1, h2, _⟩ := (hh1 A B).2 ⟨⟨by omega, by omega⟩, hf⟩
          exact absurd h2 ((hq2 rfl).2 z h1)
      have eq' : q' = true := by
        cases q' with
        | true => rfl
        | false =>
          obtain ⟨z, h1, h2, _⟩ := (hh2 A B).2 ⟨⟨by omega, by omega⟩, hgap.symm⟩
          exact absurd h2 ((hq2' rfl).2 z h1)
      subst eq; subst eq'
      obtain ⟨hx1, hx2⟩ := hq1 rfl
      obtain ⟨hy1, hy2⟩ := hq1' rfl
      have ex := ((hh1 x.a x.b).1 ⟨x, hx1, hx2, rfl, rfl⟩).2
      have ey := ((hh2 y.a y.b).1 ⟨y, hy1, hy2, rfl, rfl⟩).2
      rw [hf] at ex
      rw [← hgap] at ey
      simp only [Option.some.injEq, Prod.mk.injEq] at ex ey
      rcases hm with ⟨rfl, h⟩ | ⟨m0, hml, _, hmf⟩
      · rw [h (by omega) (by omega)] at hf; cases hf
      · rw [hf] at hmf
        simp only [Option.some.injEq, Prod.mk.injEq] at hmf
        have hgm : (rws rs).getD m.toNat [] = encR rs[m.toNat] := getD_map hml
        have hixm : idxOK (rws rs) m 5 := idxOK_map encR_len m0 (by omega)
        have c1 : x.a = y.a := by omega
        have c2 : x.b = y.b := by omega
        have c3 : x.a = rs[m.toNat].a := by omega
        have c4 : x.b = rs[m.toNat].b := by omega
        have d1 := hx2.1
        have d2 := hy2.2
        refine iteF (by simp [m0]) ?_
        refine iteD (fun _ => ?_) (fun _ => ?_)
        · refine iteF (by simpa using c1) ?_
          refine iteF (by simpa using c2) ?_
          refine iteT rfl ⟨hix, r1, by rw [hg]; rfl, ?_⟩
          refine iteF (by simp; omega) ⟨hix1, r2, by rw [hg1]; rfl, ?_⟩
          rw [hw2]
          refine iteF (by simp; omega) ⟨hixm, rs[m.toNat].a, by rw [hgm]; rfl, ?_⟩
          refine iteF (by simpa using c3) ⟨hixm, rs[m.toNat].b, by rw [hgm]; rfl, ?_⟩
          refine iteF (by simpa using c4) ⟨rfl, hJ, hmu⟩
        · refine iteT rfl ⟨hix, r1, by rw [hg]; rfl, ?_⟩
          refine iteF (by simp; omega) ⟨hix1, r2, by rw [hg1]; rfl, ?_⟩
          rw [hw2]
          refine iteF (by simp; omega) ⟨hixm, rs[m.toNat].a, by rw [hgm]; rfl, ?_⟩
          refine iteF (by simpa using c3) ⟨hixm, rs[m.toNat].b, by rw [hgm]; rfl, ?_⟩
          refine iteF (by simpa using c4) ⟨rfl, hJ, hmu⟩
  · refine p31.mono ?_
    rintro _ rfl
    exact ⟨true, rfl, rfl⟩
theorem law7 {pvs : List PV} (h : TypedAll Try.prog 8 Try.f7.params.toList pvs) : PCall Try.prog 7 pvs fun v => v = .bool true := by
  obtain ⟨v0, r0, rfl, h0, v1, r1, rfl, h1, rfl⟩ : TypedAll Try.prog 8 [57, 3] pvs := h
  obtain ⟨nl, l, rfl, hl, hok⟩ := typed_rows h0
  obtain ⟨m, e, _⟩ := typed_int u3 (typedV_plain (by kernel_rfl) h1)
  cases e
  exact p7 _ _ _ _ hok
end Go.Eng
