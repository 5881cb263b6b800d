/- Abstract states run over the code; what each function gives, printed by program and checked by the kernel; and what follows of it. -/
import Derived.Test.YtcppblalhdhlcaaEngc
import Derived.Shelf.SlSortCmp.NoneTotal
import Derived.Shelf.SlSortCmp.WholeK
import Derived.Shelf.SortM.Plain
import Derived.Shelf.SortM.SortNone
set_option linter.unusedVariables false
set_option maxRecDepth 100000
set_option linter.constructorNameAsVariable false
namespace Go.Eng
open Go Go.Proofs
def r_typebarref02_Kind (n f0 : Bool) (f : Int) (es : List (List PV)) (J : (Int) → (Bool) → (List (List PV)) → Prop) (μ : (Int) → (Bool) → (List (List PV)) → Nat) (R : PV → Prop) : Prop :=

  (SameSt
        ([(0, LV.pv (PV.sl n f0 es)), (1, LV.pv (PV.int IntKind.i64 f)),
            (5, LV.own 0), (6, LV.pv (PV.int IntKind.i64 (0 : Int)))],
          [Ob.sl (71, 5) true true []])
        ([(0, LV.pv (PV.sl n f0 es)), (1, LV.pv (PV.int IntKind.i64 f)),
            (5, LV.own 0), (6, LV.pv (PV.int IntKind.i64 (0 : Int)))],
          [Ob.sl (71, 5) true true []]) ∧
      J (0 : Int) true []) ∧
    ∀ (x6 : Int) (n_0 : Bool) (s_0 : List (List PV)),
      J x6 n_0 s_0 →
        if decide (x6 < (↑es.length : Int)) = true then
          idxOK es x6 5 ∧
            ∃ (n1 : Int),
              (List.drop 0 (es.getD x6.toNat [])).head? = some (PV.int IntKind.i64 n1) ∧
                if (n1 == f) = true then
                  idxOK es x6 5 ∧
                    ∃ (n2 : Int),
                      (es.getD x6.toNat []).head? = some (PV.int IntKind.i64 n2) ∧
                        ∃ (n3 : Int),
                          (es.getD x6.toNat []).tail.head? = some (PV.int IntKind.i64 n3) ∧
                            ∃ (n4 : Int),
                              (es.getD x6.toNat []).tail.tail.head? = some (PV.int IntKind.i64 n4) ∧
                                ∃ (n5 : Int),
                                  (es.getD x6.toNat []).tail.tail.tail.head? = some (PV.int IntKind.i64 n5) ∧
                                    ∃ (n6 : Int),
                                      (es.getD x6.toNat []).tail.tail.tail.tail.head? = some (PV.int IntKind.i64 n6) ∧
                                        (szOK
                                              [[PV.int IntKind.i64 n2, PV.int IntKind.i64 n3, PV.int IntKind.i64 n4,
                                                  PV.int IntKind.i64 n5, PV.int IntKind.i64 n6]]
                                              5 ∧
                                            (s_0.length + 1) * 40 ≤ 140737488355328) ∧
                                          SameSt
                                              ([(0, LV.pv (PV.sl n f0 es)),
                                                  (1, LV.pv (PV.int IntKind.i64 f)),
                                                  (5, LV.own 0),
                                                  (6,
                                                    LV.pv (PV.int IntKind.i64 (IntKind.i64.wrap (x6 + (1 : Int)))))],
                                                [Ob.sl (71, 5) true (n_0 && false)
                                                    (s_0 ++
                                                      [[PV.int IntKind.i64 n2, PV.int IntKind.i64 n3,
                                                          PV.int IntKind.i64 n4, PV.int IntKind.i64 n5,
                                                          PV.int IntKind.i64 n6]])])
                                              ([(0, LV.pv (PV.sl n f0 es)),
                                                  (1, LV.pv (PV.int IntKind.i64 f)),
                                                  (5, LV.own 0),
                                                  (6,
                                                    LV.pv (PV.int IntKind.i64 (IntKind.i64.wrap (x6 + (1 : Int)))))],
                                                [Ob.sl (71, 5) true (n_0 && false)
                                                    (s_0 ++
                                                      [[PV.int IntKind.i64 n2, PV.int IntKind.i64 n3,
                                                          PV.int IntKind.i64 n4, PV.int IntKind.i64 n5,
                                                          PV.int IntKind.i64 n6]])]) ∧
                                            J (IntKind.i64.wrap (x6 + (1 : Int))) (n_0 && false)
                                                (s_0 ++
                                                  [[PV.int IntKind.i64 n2, PV.int IntKind.i64 n3, PV.int IntKind.i64 n4,
                                                      PV.int IntKind.i64 n5, PV.int IntKind.i64 n6]]) ∧
                                              μ (IntKind.i64.wrap (x6 + (1 : Int))) (n_0 && false)
                                                  (s_0 ++
                                                    [[PV.int IntKind.i64 n2, PV.int IntKind.i64 n3,
                                                        PV.int IntKind.i64 n4, PV.int IntKind.i64 n5,
                                                        PV.int IntKind.i64 n6]]) <
                                                μ x6 n_0 s_0
                else
                  SameSt
                      ([(0, LV.pv (PV.sl n f0 es)), (1, LV.pv (PV.int IntKind.i64 f)),
                          (5, LV.own 0),
                          (6, LV.pv (PV.int IntKind.i64 (IntKind.i64.wrap (x6 + (1 : Int)))))],
                        [Ob.sl (71, 5) true n_0 s_0])
                      ([(0, LV.pv (PV.sl n f0 es)), (1, LV.pv (PV.int IntKind.i64 f)),
                          (5, LV.own 0),
                          (6, LV.pv (PV.int IntKind.i64 (IntKind.i64.wrap (x6 + (1 : Int)))))],
                        [Ob.sl (71, 5) true n_0 s_0]) ∧
                    J (IntKind.i64.wrap (x6 + (1 : Int))) n_0 s_0 ∧
                      μ (IntKind.i64.wrap (x6 + (1 : Int))) n_0 s_0 < μ x6 n_0 s_0
        else R (PV.sl n_0 false s_0)
theorem e_typebarref02_Kind (n f0 : Bool) (f : Int) (es : List (List PV)) (J : (Int) → (Bool) → (List (List PV)) → Prop) (μ : (Int) → (Bool) → (List (List PV)) → Nat) (R : PV → Prop) : aFn Try.prog (fun _ => none) Try.f44 [0, 1, 4, 5, 6, 10, 19] (fun zz_ => match zz_ with | 3 => some ⟨Int × Bool × (List (List PV)), fun s => (fun (x6 : Int) (n_0 : Bool) (s_0 : List (List PV)) => ([(0, LV.pv (PV.sl n f0 es)), (1, LV.pv (PV.int IntKind.i64 f)), (5, LV.own 0), (6, .pv (.int IntKind.i64 x6))], [.sl (71, 5) true n_0 s_0])) s.1 s.2.1 s.2.2, fun _ s => J s.1 s.2.1 s.2.2, fun s => μ s.1 s.2.1 s.2.2, fun e h => (gI e 6, oN h 0, oS h 0), [(5, 71, 5)], [0, 1, 5, 6], [], fun p => ∀ (x6 : Int) (n_0 : Bool) (s_0 : List (List PV)), p (x6, n_0, s_0), fun p h s => h s.1 s.2.1 s.2.2⟩ | _ => none) (Try.f44.body.getD .skip) [.sl n f0 es, .int .i64 f] R = r_typebarref02_Kind n f0 f es J μ R := by kernel_rfl
theorem a_typebarref02_Kind (n f0 : Bool) (f : Int) (es : List (List PV)) (J : (Int) → (Bool) → (List (List PV)) → Prop) (μ : (Int) → (Bool) → (List (List PV)) → Nat) {R : PV → Prop} (h : r_typebarref02_Kind n f0 f es J μ R) : PCall Try.prog 44 [.sl n f0 es, .int .i64 f] R :=
  PCall.of Try.func44 (by kernel_rfl) (by kernel_rfl) (Nat.le_of_ble_eq_true (by kernel_rfl)) (Eq.mpr (e_typebarref02_Kind n f0 f es J μ R) h)

def r_rows_Kinds (n f0 : Bool) (es : List (List PV)) (J : (Int) → (List (PV × PV)) → Prop) (μ : (Int) → (List (PV × PV)) → Nat) (J2 : (Bool) → (List (List PV)) → (List (PV × PV)) → (Option (PV × PV)) → Prop) (μ2 : (Bool) → (List (List PV)) → (List (PV × PV)) → (Option (PV × PV)) → Nat) (R : PV → Prop) : Prop :=

  (SameSt
        ([(3, LV.mp 0), (9, LV.pv (PV.sl n f0 es)),
            (10, LV.pv (PV.int IntKind.i64 (↑es.length : Int))),
            (11, LV.pv (PV.int IntKind.i64 (0 : Int)))],
          [Ob.mp []])
        ([(3, LV.mp 0), (9, LV.pv (PV.sl n f0 es)),
            (10, LV.pv (PV.int IntKind.i64 (↑es.length : Int))),
            (11, LV.pv (PV.int IntKind.i64 (0 : Int)))],
          [Ob.mp []]) ∧
      J (0 : Int) []) ∧
    ∀ (x11 : Int) (m_0 : List (PV × PV)),
      J x11 m_0 →
        if decide (x11 < (↑es.length : Int)) = true then
          idxOK es x11 5 ∧
            ∃ (n1 : Int),
              (es.getD x11.toNat []).head? = some (PV.int IntKind.i64 n1) ∧
                ∃ (n2 : Int),
                  (es.getD x11.toNat []).tail.head? = some (PV.int IntKind.i64 n2) ∧
                    ∃ (n3 : Int),
                      (es.getD x11.toNat []).tail.tail.head? = some (PV.int IntKind.i64 n3) ∧
                        ∃ (n4 : Int),
                          (es.getD x11.toNat []).tail.tail.tail.head? = some (PV.int IntKind.i64 n4) ∧
                            ∃ (n5 : Int),
                              (es.getD x11.toNat []).tail.tail.tail.tail.head? = some (PV.int IntKind.i64 n5) ∧
                                keysInt IntKind.i64 m_0 ∧
                                  SameSt
                                      ([(3, LV.mp 0), (9, LV.pv (PV.sl n f0 es)),
                                          (10, LV.pv (PV.int IntKind.i64 (↑es.length : Int))),
                                          (11,
                                            LV.pv (PV.int IntKind.i64 (IntKind.i64.wrap (x11 + (1 : Int)))))],
                                        [Ob.mp (mapSet (PV.int IntKind.i64 n1) (PV.bool true) m_0)])
                                      ([(3, LV.mp 0), (9, LV.pv (PV.sl n f0 es)),
                                          (10, LV.pv (PV.int IntKind.i64 (↑es.length : Int))),
                                          (11,
                                            LV.pv (PV.int IntKind.i64 (IntKind.i64.wrap (x11 + (1 : Int)))))],
                                        [Ob.mp (mapSet (PV.int IntKind.i64 n1) (PV.bool true) m_0)]) ∧
                                    J (IntKind.i64.wrap (x11 + (1 : Int)))
                                        (mapSet (PV.int IntKind.i64 n1) (PV.bool true) m_0) ∧
                                      μ (IntKind.i64.wrap (x11 + (1 : Int)))
                                          (mapSet (PV.int IntKind.i64 n1) (PV.bool true) m_0) <
                                        μ x11 m_0
        else
          (SameSt
                ([(6, LV.own 0), (20, LV.it 1)],
                  [Ob.sl (3, 1) true true [], Ob.iter (3, 4) m_0 none])
                ([(6, LV.own 0), (20, LV.it 1)],
                  [Ob.sl (3, 1) true true [], Ob.iter (3, 4) m_0 none]) ∧
              J2 true [] m_0 none) ∧
            ∀ (n_0 : Bool) (s_0 : List (List PV)) (r_1 : List (PV × PV)) (q_1 : Option (PV × PV)),
              J2 n_0 s_0 r_1 q_1 →
                (r_1 = [] →
                    ACall Try.prog 80 [LV.own 0] [Ob.sl (3, 1) false n_0 s_0]
                      fun (r : LV) (h' : Hp) ↦
                      ∃ (t : List Int),
                        (r = LV.tup [] ∧
                            h' =
                              [Ob.sl (3, 1) false n_0
                                  (List.map (fun (x : Int) ↦ [PV.int IntKind.i64 x]) t)]) ∧
                          (((3, 1) = (3, 1) ∧
                                n_0 = n_0 ∧ s_0.length = (List.map (fun (x : Int) ↦ [PV.int IntKind.i64 x]) t).length) ∧
                              True) ∧
                            R (PV.sl n_0 false (List.map (fun (x : Int) ↦ [PV.int IntKind.i64 x]) t))) ∧
                  ∀ (j : Nat) (k v : PV),
                    r_1[j]? = some (k, v) →
                      ∃ (n1 : Int),
                        k = PV.int IntKind.i64 n1 ∧
                          ∃ (b : Bool),
                            v = PV.bool b ∧
                              ∃ (n2 : Int),
                                PV.int IntKind.i64 n1 = PV.int IntKind.i64 n2 ∧
                                  ∃ (b1 : Bool),
                                    PV.bool b = PV.bool b1 ∧
                                      (szOK [[PV.int IntKind.i64 n2]] 1 ∧
                                          (s_0.length + 1) * 8 ≤ 140737488355328) ∧
                                        SameSt
                                            ([(6, LV.own 0), (20, LV.it 1)],
                                              [Ob.sl (3, 1) true (n_0 && false)
                                                  (s_0 ++ [[PV.int IntKind.i64 n2]]),
                                                Ob.iter (3, 4) (r_1.eraseIdx j)
                                                  (some (PV.int IntKind.i64 n1, PV.bool b))])
                                            ([(6, LV.own 0), (20, LV.it 1)],
                                              [Ob.sl (3, 1) true (n_0 && false)
                                                  (s_0 ++ [[PV.int IntKind.i64 n2]]),
                                                Ob.iter (3, 4) (r_1.eraseIdx j)
                                                  (some (PV.int IntKind.i64 n1, PV.bool b))]) ∧
                                          J2 (n_0 && false) (s_0 ++ [[PV.int IntKind.i64 n2]]) (r_1.eraseIdx j)
                                              (some (PV.int IntKind.i64 n1, PV.bool b)) ∧
                                            μ2 (n_0 && false) (s_0 ++ [[PV.int IntKind.i64 n2]]) (r_1.eraseIdx j)
                                                (some (PV.int IntKind.i64 n1, PV.bool b)) <
                                              μ2 n_0 s_0 r_1 q_1
theorem e_rows_Kinds (n f0 : Bool) (es : List (List PV)) (J : (Int) → (List (PV × PV)) → Prop) (μ : (Int) → (List (PV × PV)) → Nat) (J2 : (Bool) → (List (List PV)) → (List (PV × PV)) → (Option (PV × PV)) → Prop) (μ2 : (Bool) → (List (List PV)) → (List (PV × PV)) → (Option (PV × PV)) → Nat) (R : PV → Prop) : aFn Try.prog (fun zz_ => match zz_ with | 80 => some ⟨List Int, fun _ hs t => (.tup [], match hs with | [.sl ty _ nl _] => [.sl ty false nl (t.map fun x => [.int .i64 x])] | h => h)⟩ | _ => none) Try.f43 [0, 2, 3, 5, 6, 7, 9, 10, 11, 12, 20, 22] (fun zz_ => match zz_ with | 3 => some ⟨Int × (List (PV × PV)), fun s => (fun (x11 : Int) (m_0 : List (PV × PV)) => ([(3, LV.mp 0), (9, LV.pv (PV.sl n f0 es)), (10, LV.pv (PV.int IntKind.i64 ↑es.length)), (11, .pv (.int IntKind.i64 x11))], [.mp m_0])) s.1 s.2, fun _ s => J s.1 s.2, fun s => μ s.1 s.2, fun e h => (gI e 11, oM h 0), [], [3, 9, 10, 11], [], fun p => ∀ (x11 : Int) (m_0 : List (PV × PV)), p (x11, m_0), fun p h s => h s.1 s.2⟩ | 9 => some ⟨Bool × (List (List PV)) × (List (PV × PV)) × (Option (PV × PV)), fun s => (fun (n_0 : Bool) (s_0 : List (List PV)) (r_1 : List (PV × PV)) (q_1 : Option (PV × PV)) => ([(6, LV.own 0), (20, LV.it 1)], [.sl (3, 1) true n_0 s_0, .iter (3, 4) r_1 q_1])) s.1 s.2.1 s.2.2.1 s.2.2.2, fun _ s => J2 s.1 s.2.1 s.2.2.1 s.2.2.2, fun s => μ2 s.1 s.2.1 s.2.2.1 s.2.2.2, fun e h => (oN h 0, oS h 0, oR h 1, oQ h 1), [(6, 3, 1)], [6, 20], [], fun p => ∀ (n_0 : Bool) (s_0 : List (List PV)) (r_1 : List (PV × PV)) (q_1 : Option (PV × PV)), p (n_0, s_0, r_1, q_1), fun p h s => h s.1 s.2.1 s.2.2.1 s.2.2.2⟩ | _ => none) (Try.f43.body.getD .skip) [.sl n f0 es] R = r_rows_Kinds n f0 es J μ J2 μ2 R := by kernel_rfl
theorem a_rows_Kinds (n f0 : Bool) (es : List (List PV)) (J : (Int) → (List (PV × PV)) → Prop) (μ : (Int) → (List (PV × PV)) → Nat) (J2 : (Bool) → (List (List PV)) → (List (PV × PV)) → (Option (PV × PV)) → Prop) (μ2 : (Bool) → (List (List PV)) → (List (PV × PV)) → (Option (PV × PV)) → Nat) {R : PV → Prop} (h : r_rows_Kinds n f0 es J μ J2 μ2 R) : PCall Try.prog 43 [.sl n f0 es] R :=
  PCall.of Try.func43 (by kernel_rfl) (by kernel_rfl) (Nat.le_of_ble_eq_true (by kernel_rfl)) (Eq.mpr (e_rows_Kinds n f0 es J μ J2 μ2 R) h)

def r_typebarlaw02_RowsKinds (n f0 : Bool) (es : List (List PV)) (J : (Bool) → (Bool) → (List (List PV)) → (Bool) → (Bool) → (List (List PV)) → (Int) → Prop) (μ : (Bool) → (Bool) → (List (List PV)) → (Bool) → (Bool) → (List (List PV)) → (Int) → Nat) (J2 : (Bool) → (Bool) → (List (List PV)) → (Bool) → (Bool) → (List (List PV)) → (Int) → Prop) (μ2 : (Bool) → (Bool) → (List (List PV)) → (Bool) → (Bool) → (List (List PV)) → (Int) → Nat) (J3 : (Bool) → (Bool) → (List (List PV)) → (Bool) → (Bool) → (List (List PV)) → (Int) → (Bool) → (Int) → (Bool) → (Bool) → (List (List PV)) → (Bool) → (Bool) → (List (List PV)) → (Int) → (Bool) → (Int) → Prop) (μ3 : (Bool) → (Bool) → (List (List PV)) → (Bool) → (Bool) → (List (List PV)) → (Int) → (Bool) → (Int) → Nat) (R : PV → Prop) : Prop :=

  PCall Try.prog 28 [PV.sl n f0 es] fun (v : PV) ↦
    ∃ (n1 : Bool),
      ∃ (f : Bool),
        ∃ (es1 : List (List PV)),
          v = PV.sl n1 f es1 ∧
            PCall Try.prog 43 [PV.sl n1 f es1] fun (v1 : PV) ↦
              ∃ (n2 : Bool),
                ∃ (f1 : Bool),
                  ∃ (es2 : List (List PV)),
                    v1 = PV.sl n2 f1 es2 ∧
                      (SameSt
                            ([(0, LV.pv (PV.sl n1 f es1)), (3, LV.pv (PV.sl n2 f1 es2)),
                                (4, LV.pv (PV.int IntKind.i64 (0 : Int)))],
                              [])
                            ([(0, LV.pv (PV.sl n1 f es1)), (3, LV.pv (PV.sl n2 f1 es2)),
                                (4, LV.pv (PV.int IntKind.i64 (0 : Int)))],
                              []) ∧
                          J n1 f es1 n2 f1 es2 (0 : Int)) ∧
                        ∀ (n0 f01 : Bool) (s0 : List (List PV)) (n3 f3 : Bool) (s3 : List (List PV)) (x4 : Int),
                          J n0 f01 s0 n3 f3 s3 x4 →
                            if decide (x4 < (↑s3.length : Int)) = true then
                              idxOK s3 x4 1 ∧
                                ∃ (n4 : Int),
                                  (s3.getD x4.toNat []).head? = some (PV.int IntKind.i64 n4) ∧
                                    PCall Try.prog 44 [PV.sl n0 f01 s0, PV.int IntKind.i64 n4] fun (v2 : PV) ↦
                                      ∃ (n5 : Bool),
                                        ∃ (f2 : Bool),
                                          ∃ (es3 : List (List PV)),
                                            v2 = PV.sl n5 f2 es3 ∧
                                              if ((↑es3.length : Int) == (0 : Int)) = true then R (PV.bool false)
                                              else
                                                if decide (x4 > (0 : Int)) = true then
                                                  idxOK s3 (IntKind.i64.wrap (x4 - (1 : Int))) 1 ∧
                                                    ∃ (n6 : Int),
                                                      (s3.getD (IntKind.i64.wrap (x4 - (1 : Int))).toNat []).head? =
                                                          some (PV.int IntKind.i64 n6) ∧
                                                        idxOK s3 x4 1 ∧
                                                          ∃ (n7 : Int),
                                                            (s3.getD x4.toNat []).head? = some (PV.int IntKind.i64 n7) ∧
                                                              if decide (n6 ≥ n7) = true then R (PV.bool false)
                                                              else
                                                                SameSt
                                                                    ([(0, LV.pv (PV.sl n0 f01 s0)),
                                                                        (3, LV.pv (PV.sl n3 f3 s3)),
                                                                        (4,
                                                                          LV.pv
                                                                            (PV.int IntKind.i64
                                                                              (IntKind.i64.wrap (x4 + (1 : Int)))))],
                                                                      [])
                                                                    ([(0, LV.pv (PV.sl n0 f01 s0)),
                                                                        (3, LV.pv (PV.sl n3 f3 s3)),
                                                                        (4,
                                                                          LV.pv
                                                                            (PV.int IntKind.i64
                                                                              (IntKind.i64.wrap (x4 + (1 : Int)))))],
                                                                      []) ∧
                                                                  J n0 f01 s0 n3 f3 s3
                                                                      (IntKind.i64.wrap (x4 + (1 : Int))) ∧
                                                                    μ n0 f01 s0 n3 f3 s3
                                                                        (IntKind.i64.wrap (x4 + (1 : Int))) <
                                                                      μ n0 f01 s0 n3 f3 s3 x4
                                                else
                                                  SameSt
                                                      ([(0, LV.pv (PV.sl n0 f01 s0)),
                                                          (3, LV.pv (PV.sl n3 f3 s3)),
                                                          (4,
                                                            LV.pv
                                                              (PV.int IntKind.i64
                                                                (IntKind.i64.wrap (x4 + (1 : Int)))))],
                                                        [])
                                                      ([(0, LV.pv (PV.sl n0 f01 s0)),
                                                          (3, LV.pv (PV.sl n3 f3 s3)),
                                                          (4,
                                                            LV.pv
                                                              (PV.int IntKind.i64
                                                                (IntKind.i64.wrap (x4 + (1 : Int)))))],
                                                        []) ∧
                                                    J n0 f01 s0 n3 f3 s3 (IntKind.i64.wrap (x4 + (1 : Int))) ∧
                                                      μ n0 f01 s0 n3 f3 s3 (IntKind.i64.wrap (x4 + (1 : Int))) <
                                                        μ n0 f01 s0 n3 f3 s3 x4
                            else
                              (SameSt
                                    ([(0, LV.pv (PV.sl n0 f01 s0)), (3, LV.pv (PV.sl n3 f3 s3)),
                                        (5, LV.pv (PV.int IntKind.i64 (0 : Int)))],
                                      [])
                                    ([(0, LV.pv (PV.sl n0 f01 s0)), (3, LV.pv (PV.sl n3 f3 s3)),
                                        (5, LV.pv (PV.int IntKind.i64 (0 : Int)))],
                                      []) ∧
                                  J2 n0 f01 s0 n3 f3 s3 (0 : Int)) ∧
                                ∀ (n01 f02 : Bool) (s01 : List (List PV)) (n31 f31 : Bool) (s31 : List (List PV))
                                  (x5 : Int),
                                  J2 n01 f02 s01 n31 f31 s31 x5 →
                                    if decide (x5 < (↑s01.length : Int)) = true then
                                      (SameSt
                                            ([(0, LV.pv (PV.sl n01 f02 s01)),
                                                (3, LV.pv (PV.sl n31 f31 s31)),
                                                (5, LV.pv (PV.int IntKind.i64 x5)),
                                                (6, LV.pv (PV.bool false)),
                                                (7, LV.pv (PV.int IntKind.i64 (0 : Int)))],
                                              [])
                                            ([(0, LV.pv (PV.sl n01 f02 s01)),
                                                (3, LV.pv (PV.sl n31 f31 s31)),
                                                (5, LV.pv (PV.int IntKind.i64 x5)),
                                                (6, LV.pv (PV.bool false)),
                                                (7, LV.pv (PV.int IntKind.i64 (0 : Int)))],
                                              []) ∧
                                          J3 n01 f02 s01 n31 f31 s31 x5 false (0 : Int) n01 f02 s01 n31 f31 s31 x5 false
                                            (0 : Int)) ∧
                                        ∀ (n02 f03 : Bool) (s02 : List (List PV)) (n32 f32 : Bool)
                                          (s32 : List (List PV)) (x51 : Int) (x6 : Bool) (x7 : Int),
                                          J3 n01 f02 s01 n31 f31 s31 x5 false (0 : Int) n02 f03 s02 n32 f32 s32 x51 x6
                                              x7 →
                                            if decide (x7 < (↑s32.length : Int)) = true then
                                              idxOK s32 x7 1 ∧
                                                ∃ (n4 : Int),
                                                  (s32.getD x7.toNat []).head? = some (PV.int IntKind.i64 n4) ∧
                                                    idxOK s02 x51 5 ∧
                                                      ∃ (n5 : Int),
                                                        (List.drop 0 (s02.getD x51.toNat [])).head? =
                                                            some (PV.int IntKind.i64 n5) ∧
                                                          if (n4 == n5) = true then
                                                            SameSt
                                                                ([(0, LV.pv (PV.sl n02 f03 s02)),
                                                                    (3, LV.pv (PV.sl n32 f32 s32)),
                                                                    (5, LV.pv (PV.int IntKind.i64 x51)),
                                                                    (6, LV.pv (PV.bool true)),
                                                                    (7,
                                                                      LV.pv
                                                                        (PV.int IntKind.i64
                                                                          (IntKind.i64.wrap (x7 + (1 : Int)))))],
                                                                  [])
                                                                ([(0, LV.pv (PV.sl n02 f03 s02)),
                                                                    (3, LV.pv (PV.sl n32 f32 s32)),
                                                                    (5, LV.pv (PV.int IntKind.i64 x51)),
                                                                    (6, LV.pv (PV.bool true)),
                                                                    (7,
                                                                      LV.pv
                                                                        (PV.int IntKind.i64
                                                                          (IntKind.i64.wrap (x7 + (1 : Int)))))],
                                                                  []) ∧
                                                              J3 n01 f02 s01 n31 f31 s31 x5 false (0 : Int) n02 f03 s02
                                                                  n32 f32 s32 x51 true
                                                                  (IntKind.i64.wrap (x7 + (1 : Int))) ∧
                                                                μ3 n02 f03 s02 n32 f32 s32 x51 true
                                                                    (IntKind.i64.wrap (x7 + (1 : Int))) <
                                                                  μ3 n02 f03 s02 n32 f32 s32 x51 x6 x7
                                                          else
                                                            SameSt
                                                                ([(0, LV.pv (PV.sl n02 f03 s02)),
                                                                    (3, LV.pv (PV.sl n32 f32 s32)),
                                                                    (5, LV.pv (PV.int IntKind.i64 x51)),
                                                                    (6, LV.pv (PV.bool x6)),
                                                                    (7,
                                                                      LV.pv
                                                                        (PV.int IntKind.i64
                                                                          (IntKind.i64.wrap (x7 + (1 : Int)))))],
                                                                  [])
                                                                ([(0, LV.pv (PV.sl n02 f03 s02)),
                                                                    (3, LV.pv (PV.sl n32 f32 s32)),
                                                                    (5, LV.pv (PV.int IntKind.i64 x51)),
                                                                    (6, LV.pv (PV.bool x6)),
                                                                    (7,
                                                                      LV.pv
                                                                        (PV.int IntKind.i64
                                                                          (IntKind.i64.wrap (x7 + (1 : Int)))))],
                                                                  []) ∧
                                                              J3 n01 f02 s01 n31 f31 s31 x5 false (0 : Int) n02 f03 s02
                                                                  n32 f32 s32 x51 x6
                                                                  (IntKind.i64.wrap (x7 + (1 : Int))) ∧
                                                                μ3 n02 f03 s02 n32 f32 s32 x51 x6
                                                                    (IntKind.i64.wrap (x7 + (1 : Int))) <
                                                                  μ3 n02 f03 s02 n32 f32 s32 x51 x6 x7
                                            else
                                              if (!x6) = true then R (PV.bool false)
                                              else
                                                SameSt
                                                    ([(0, LV.pv (PV.sl n02 f03 s02)),
                                                        (3, LV.pv (PV.sl n32 f32 s32)),
                                                        (5,
                                                          LV.pv
                                                            (PV.int IntKind.i64 (IntKind.i64.wrap (x51 + (1 : Int)))))],
                                                      [])
                                                    ([(0, LV.pv (PV.sl n02 f03 s02)),
                                                        (3, LV.pv (PV.sl n32 f32 s32)),
                                                        (5,
                                                          LV.pv
                                                            (PV.int IntKind.i64 (IntKind.i64.wrap (x51 + (1 : Int)))))],
                                                      []) ∧
                                                  J2 n02 f03 s02 n32 f32 s32 (IntKind.i64.wrap (x51 + (1 : Int))) ∧
                                                    μ2 n02 f03 s02 n32 f32 s32 (IntKind.i64.wrap (x51 + (1 : Int))) <
                                                      μ2 n01 f02 s01 n31 f31 s31 x5
                                    else
                                      PCall Try.prog 31 [] fun (v2 : PV) ↦
                                        ∃ (b : Bool), v2 = PV.bool b ∧ R (PV.bool b)
theorem e_typebarlaw02_RowsKinds (n f0 : Bool) (es : List (List PV)) (J : (Bool) → (Bool) → (List (List PV)) → (Bool) → (Bool) → (List (List PV)) → (Int) → Prop) (μ : (Bool) → (Bool) → (List (List PV)) → (Bool) → (Bool) → (List (List PV)) → (Int) → Nat) (J2 : (Bool) → (Bool) → (List (List PV)) → (Bool) → (Bool) → (List (List PV)) → (Int) → Prop) (μ2 : (Bool) → (Bool) → (List (List PV)) → (Bool) → (Bool) → (List (List PV)) → (Int) → Nat) (J3 : (Bool) → (Bool) → (List (List PV)) → (Bool) → (Bool) → (List (List PV)) → (Int) → (Bool) → (Int) → (Bool) → (Bool) → (List (List PV)) → (Bool) → (Bool) → (List (List PV)) → (Int) → (Bool) → (Int) → Prop) (μ3 : (Bool) → (Bool) → (List (List PV)) → (Bool) → (Bool) → (List (List PV)) → (Int) → (Bool) → (Int) → Nat) (R : PV → Prop) : aFn Try.prog (fun _ => none) Try.f11 [0, 2, 3, 4, 5, 6, 7, 15, 41, 45, 51, 63, 65] (fun zz_ => match zz_ with | 4 => some ⟨Bool × Bool × (List (List PV)) × Bool × Bool × (List (List PV)) × Int, fun s => (fun (n0 : Bool) (f0 : Bool) (s0 : List (List PV)) (n3 : Bool) (f3 : Bool) (s3 : List (List PV)) (x4 : Int) => ([(0, .pv (.sl n0 f0 s0)), (3, .pv (.sl n3 f3 s3)), (4, .pv (.int IntKind.i64 x4))], [])) s.1 s.2.1 s.2.2.1 s.2.2.2.1 s.2.2.2.2.1 s.2.2.2.2.2.1 s.2.2.2.2.2.2, fun _ s => J s.1 s.2.1 s.2.2.1 s.2.2.2.1 s.2.2.2.2.1 s.2.2.2.2.2.1 s.2.2.2.2.2.2, fun s => μ s.1 s.2.1 s.2.2.1 s.2.2.2.1 s.2.2.2.2.1 s.2.2.2.2.2.1 s.2.2.2.2.2.2, fun e h => (gN e 0, gF e 0, gS e 0, gN e 3, gF e 3, gS e 3, gI e 4), [], [0, 3, 4], [], fun p => ∀ (n0 : Bool) (f0 : Bool) (s0 : List (List PV)) (n3 : Bool) (f3 : Bool) (s3 : List (List PV)) (x4 : Int), p (n0, f0, s0, n3, f3, s3, x4), fun p h s => h s.1 s.2.1 s.2.2.1 s.2.2.2.1 s.2.2.2.2.1 s.2.2.2.2.2.1 s.2.2.2.2.2.2⟩ | 9 => some ⟨Bool × Bool × (List (List PV)) × Bool × Bool × (List (List PV)) × Int, fun s => (fun (n0 : Bool) (f0 : Bool) (s0 : List (List PV)) (n3 : Bool) (f3 : Bool) (s3 : List (List PV)) (x5 : Int) => ([(0, .pv (.sl n0 f0 s0)), (3, .pv (.sl n3 f3 s3)), (5, .pv (.int IntKind.i64 x5))], [])) s.1 s.2.1 s.2.2.1 s.2.2.2.1 s.2.2.2.2.1 s.2.2.2.2.2.1 s.2.2.2.2.2.2, fun _ s => J2 s.1 s.2.1 s.2.2.1 s.2.2.2.1 s.2.2.2.2.1 s.2.2.2.2.2.1 s.2.2.2.2.2.2, fun s => μ2 s.1 s.2.1 s.2.2.1 s.2.2.2.1 s.2.2.2.2.1 s.2.2.2.2.2.1 s.2.2.2.2.2.2, fun e h => (gN e 0, gF e 0, gS e 0, gN e 3, gF e 3, gS e 3, gI e 5), [], [0, 3, 5], [], fun p => ∀ (n0 : Bool) (f0 : Bool) (s0 : List (List PV)) (n3 : Bool) (f3 : Bool) (s3 : List (List PV)) (x5 : Int), p (n0, f0, s0, n3, f3, s3, x5), fun p h s => h s.1 s.2.1 s.2.2.1 s.2.2.2.1 s.2.2.2.2.1 s.2.2.2.2.2.1 s.2.2.2.2.2.2⟩ | 13 => some ⟨Bool × Bool × (List (List PV)) × Bool × Bool × (List (List PV)) × Int × Bool × Int, fun s => (fun (n0 : Bool) (f0 : Bool) (s0 : List (List PV)) (n3 : Bool) (f3 : Bool) (s3 : List (List PV)) (x5 : Int) (x6 : Bool) (x7 : Int) => ([(0, .pv (.sl n0 f0 s0)), (3, .pv (.sl n3 f3 s3)), (5, .pv (.int IntKind.i64 x5)), (6, .pv (.bool x6)), (7, .pv (.int IntKind.i64 x7))], [])) s.1 s.2.1 s.2.2.1 s.2.2.2.1 s.2.2.2.2.1 s.2.2.2.2.2.1 s.2.2.2.2.2.2.1 s.2.2.2.2.2.2.2.1 s.2.2.2.2.2.2.2.2, fun t s => J3 t.1 t.2.1 t.2.2.1 t.2.2.2.1 t.2.2.2.2.1 t.2.2.2.2.2.1 t.2.2.2.2.2.2.1 t.2.2.2.2.2.2.2.1 t.2.2.2.2.2.2.2.2 s.1 s.2.1 s.2.2.1 s.2.2.2.1 s.2.2.2.2.1 s.2.2.2.2.2.1 s.2.2.2.2.2.2.1 s.2.2.2.2.2.2.2.1 s.2.2.2.2.2.2.2.2, fun s => μ3 s.1 s.2.1 s.2.2.1 s.2.2.2.1 s.2.2.2.2.1 s.2.2.2.2.2.1 s.2.2.2.2.2.2.1 s.2.2.2.2.2.2.2.1 s.2.2.2.2.2.2.2.2, fun e h => (gN e 0, gF e 0, gS e 0, gN e 3, gF e 3, gS e 3, gI e 5, gB e 6, gI e 7), [], [0, 3, 5, 6, 7], [], fun p => ∀ (n0 : Bool) (f0 : Bool) (s0 : List (List PV)) (n3 : Bool) (f3 : Bool) (s3 : List (List PV)) (x5 : Int) (x6 : Bool) (x7 : Int), p (n0, f0, s0, n3, f3, s3, x5, x6, x7), fun p h s => h s.1 s.2.1 s.2.2.1 s.2.2.2.1 s.2.2.2.2.1 s.2.2.2.2.2.1 s.2.2.2.2.2.2.1 s.2.2.2.2.2.2.2.1 s.2.2.2.2.2.2.2.2⟩ | _ => none) (Try.f11.body.getD .skip) [.sl n f0 es] R = r_typebarlaw02_RowsKinds n f0 es J μ J2 μ2 J3 μ3 R := by kernel_rfl
theorem a_typebarlaw02_RowsKinds (n f0 : Bool) (es : List (List PV)) (J : (Bool) → (Bool) → (List (List PV)) → (Bool) → (Bool) → (List (List PV)) → (Int) → Prop) (μ : (Bool) → (Bool) → (List (List PV)) → (Bool) → (Bool) → (List (List PV)) → (Int) → Nat) (J2 : (Bool) → (Bool) → (List (List PV)) → (Bool) → (Bool) → (List (List PV)) → (Int) → Prop) (μ2 : (Bool) → (Bool) → (List (List PV)) → (Bool) → (Bool) → (List (List PV)) → (Int) → Nat) (J3 : (Bool) → (Bool) → (List (List PV)) → (Bool) → (Bool) → (List (List PV)) → (Int) → (Bool) → (Int) → (Bool) → (Bool) → (List (List PV)) → (Bool) → (Bool) → (List (List PV)) → (Int) → (Bool) → (Int) → Prop) (μ3 : (Bool) → (Bool) → (List (List PV)) → (Bool) → (Bool) → (List (List PV)) → (Int) → (Bool) → (Int) → Nat) {R : PV → Prop} (h : r_typebarlaw02_RowsKinds n f0 es J μ J2 μ2 J3 μ3 R) : PCall Try.prog 11 [.sl n f0 es] R :=
  PCall.of Try.func11 (by kernel_rfl) (by kernel_rfl) (Nat.le_of_ble_eq_true (by kernel_rfl)) (Eq.mpr (e_typebarlaw02_RowsKinds n f0 es J μ J2 μ2 J3 μ3 R) h)

end Go.Eng
set_option linter.unusedVariables false
set_option maxRecDepth 100000
set_option linter.constructorNameAsVariable false
namespace Go.Eng
open Go Go.Proofs
def r_rows_rest (a b c d : Int) (n1 : Bool) (es : List (List PV)) (J : (Int) → (Int) → (Int) → (Int) → (Int) → (Bool) → (List (List PV)) → Prop) (μ : (Int) → (Int) → (Int) → (Int) → (Int) → (Bool) → (List (List PV)) → Nat) (R : LV → Hp → Prop) : Prop :=

  (SameSt
        ([(2, LV.box 1 0), (5, LV.own 2), (8, LV.own 0),
            (9, LV.pv (PV.int IntKind.i64 (↑es.length : Int))),
            (10, LV.pv (PV.int IntKind.i64 (0 : Int)))],
          [Ob.sl (62, 4) false n1 es,
            Ob.box
              [LV.pv (PV.int IntKind.i64 a), LV.pv (PV.int IntKind.i64 b), LV.pv (PV.int IntKind.i64 c),
                LV.pv (PV.int IntKind.i64 d)],
            Ob.sl (62, 4) true true []])
        ([(2, LV.box 1 0), (5, LV.own 2), (8, LV.own 0),
            (9, LV.pv (PV.int IntKind.i64 (↑es.length : Int))),
            (10, LV.pv (PV.int IntKind.i64 (0 : Int)))],
          [Ob.sl (62, 4) false n1 es,
            Ob.box
              [LV.pv (PV.int IntKind.i64 a), LV.pv (PV.int IntKind.i64 b), LV.pv (PV.int IntKind.i64 c),
                LV.pv (PV.int IntKind.i64 d)],
            Ob.sl (62, 4) true true []]) ∧
      J (0 : Int) a b c d true []) ∧
    ∀ (x10 h1_0 h1_1 h1_2 h1_3 : Int) (n_2 : Bool) (s_2 : List (List PV)),
      J x10 h1_0 h1_1 h1_2 h1_3 n_2 s_2 →
        if decide (x10 < (↑es.length : Int)) = true then
          idxOK es x10 4 ∧
            ∃ (n : Int),
              (List.drop 0 (es.getD x10.toNat [])).head? = some (PV.int IntKind.i64 n) ∧
                ∃ (n2 : Int),
                  (List.drop 0 (es.getD x10.toNat [])).tail.head? = some (PV.int IntKind.i64 n2) ∧
                    ∃ (n3 : Int),
                      (List.drop 0 (es.getD x10.toNat [])).tail.tail.head? = some (PV.int IntKind.i64 n3) ∧
                        ∃ (n4 : Int),
                          (List.drop 0 (es.getD x10.toNat [])).tail.tail.tail.head? =
                              some (PV.int IntKind.i64 n4) ∧
                            if decide (n2 < h1_0) = true then
                              SameSt
                                  ([(2, LV.box 1 0), (5, LV.own 2),
                                      (8, LV.own 0),
                                      (9, LV.pv (PV.int IntKind.i64 (↑es.length : Int))),
                                      (10, LV.pv (PV.int IntKind.i64 (IntKind.i64.wrap (x10 + (1 : Int)))))],
                                    [Ob.sl (62, 4) false n1 es,
                                      Ob.box
                                        [LV.pv (PV.int IntKind.i64 h1_0), LV.pv (PV.int IntKind.i64 h1_1),
                                          LV.pv (PV.int IntKind.i64 h1_2), LV.pv (PV.int IntKind.i64 h1_3)],
                                      Ob.sl (62, 4) true n_2 s_2])
                                  ([(2, LV.box 1 0), (5, LV.own 2),
                                      (8, LV.own 0),
                                      (9, LV.pv (PV.int IntKind.i64 (↑es.length : Int))),
                                      (10, LV.pv (PV.int IntKind.i64 (IntKind.i64.wrap (x10 + (1 : Int)))))],
                                    [Ob.sl (62, 4) false n1 es,
                                      Ob.box
                                        [LV.pv (PV.int IntKind.i64 h1_0), LV.pv (PV.int IntKind.i64 h1_1),
                                          LV.pv (PV.int IntKind.i64 h1_2), LV.pv (PV.int IntKind.i64 h1_3)],
                                      Ob.sl (62, 4) true n_2 s_2]) ∧
                                J (IntKind.i64.wrap (x10 + (1 : Int))) h1_0 h1_1 h1_2 h1_3 n_2 s_2 ∧
                                  μ (IntKind.i64.wrap (x10 + (1 : Int))) h1_0 h1_1 h1_2 h1_3 n_2 s_2 <
                                    μ x10 h1_0 h1_1 h1_2 h1_3 n_2 s_2
                            else
                              if decide (n > h1_1) = true then
                                SameSt
                                    ([(2, LV.box 1 0), (5, LV.own 2),
                                        (8, LV.own 0),
                                        (9, LV.pv (PV.int IntKind.i64 (↑es.length : Int))),
                                        (10, LV.pv (PV.int IntKind.i64 (IntKind.i64.wrap (x10 + (1 : Int)))))],
                                      [Ob.sl (62, 4) false n1 es,
                                        Ob.box
                                          [LV.pv (PV.int IntKind.i64 h1_0), LV.pv (PV.int IntKind.i64 h1_1),
                                            LV.pv (PV.int IntKind.i64 h1_2), LV.pv (PV.int IntKind.i64 h1_3)],
                                        Ob.sl (62, 4) true n_2 s_2])
                                    ([(2, LV.box 1 0), (5, LV.own 2),
                                        (8, LV.own 0),
                                        (9, LV.pv (PV.int IntKind.i64 (↑es.length : Int))),
                                        (10, LV.pv (PV.int IntKind.i64 (IntKind.i64.wrap (x10 + (1 : Int)))))],
                                      [Ob.sl (62, 4) false n1 es,
                                        Ob.box
                                          [LV.pv (PV.int IntKind.i64 h1_0), LV.pv (PV.int IntKind.i64 h1_1),
                                            LV.pv (PV.int IntKind.i64 h1_2), LV.pv (PV.int IntKind.i64 h1_3)],
                                        Ob.sl (62, 4) true n_2 s_2]) ∧
                                  J (IntKind.i64.wrap (x10 + (1 : Int))) h1_0 h1_1 h1_2 h1_3 n_2 s_2 ∧
                                    μ (IntKind.i64.wrap (x10 + (1 : Int))) h1_0 h1_1 h1_2 h1_3 n_2 s_2 <
                                      μ x10 h1_0 h1_1 h1_2 h1_3 n_2 s_2
                              else
                                if decide (n > h1_0) = true then
                                  (szOK
                                        [[PV.int IntKind.i64 h1_0,
                                            PV.int IntKind.i64 (IntKind.i64.wrap (n - (1 : Int))),
                                            PV.int IntKind.i64 h1_2, PV.int IntKind.i64 h1_3]]
                                        4 ∧
                                      (s_2.length + 1) * 32 ≤ 140737488355328) ∧
                                    SameSt
                                        ([(2, LV.box 1 0), (5, LV.own 2),
                                            (8, LV.own 0),
                                            (9, LV.pv (PV.int IntKind.i64 (↑es.length : Int))),
                                            (10,
                                              LV.pv (PV.int IntKind.i64 (IntKind.i64.wrap (x10 + (1 : Int)))))],
                                          [Ob.sl (62, 4) false n1 es,
                                            Ob.box
                                              [LV.pv (PV.int IntKind.i64 (IntKind.i64.wrap (n2 + (1 : Int)))),
                                                LV.pv (PV.int IntKind.i64 h1_1), LV.pv (PV.int IntKind.i64 h1_2),
                                                LV.pv (PV.int IntKind.i64 h1_3)],
                                            Ob.sl (62, 4) true (n_2 && false)
                                              (s_2 ++
                                                [[PV.int IntKind.i64 h1_0,
                                                    PV.int IntKind.i64 (IntKind.i64.wrap (n - (1 : Int))),
                                                    PV.int IntKind.i64 h1_2, PV.int IntKind.i64 h1_3]])])
                                        ([(2, LV.box 1 0), (5, LV.own 2),
                                            (8, LV.own 0),
                                            (9, LV.pv (PV.int IntKind.i64 (↑es.length : Int))),
                                            (10,
                                              LV.pv (PV.int IntKind.i64 (IntKind.i64.wrap (x10 + (1 : Int)))))],
                                          [Ob.sl (62, 4) false n1 es,
                                            Ob.box
                                              [LV.pv (PV.int IntKind.i64 (IntKind.i64.wrap (n2 + (1 : Int)))),
                                                LV.pv (PV.int IntKind.i64 h1_1), LV.pv (PV.int IntKind.i64 h1_2),
                                                LV.pv (PV.int IntKind.i64 h1_3)],
                                            Ob.sl (62, 4) true (n_2 && false)
                                              (s_2 ++
                                                [[PV.int IntKind.i64 h1_0,
                                                    PV.int IntKind.i64 (IntKind.i64.wrap (n - (1 : Int))),
                                                    PV.int IntKind.i64 h1_2, PV.int IntKind.i64 h1_3]])]) ∧
                                      J (IntKind.i64.wrap (x10 + (1 : Int))) (IntKind.i64.wrap (n2 + (1 : Int))) h1_1
                                          h1_2 h1_3 (n_2 && false)
                                          (s_2 ++
                                            [[PV.int IntKind.i64 h1_0,
                                                PV.int IntKind.i64 (IntKind.i64.wrap (n - (1 : Int))),
                                                PV.int IntKind.i64 h1_2, PV.int IntKind.i64 h1_3]]) ∧
                                        μ (IntKind.i64.wrap (x10 + (1 : Int))) (IntKind.i64.wrap (n2 + (1 : Int))) h1_1
                                            h1_2 h1_3 (n_2 && false)
                                            (s_2 ++
                                              [[PV.int IntKind.i64 h1_0,
                                                  PV.int IntKind.i64 (IntKind.i64.wrap (n - (1 : Int))),
                                                  PV.int IntKind.i64 h1_2, PV.int IntKind.i64 h1_3]]) <
                                          μ x10 h1_0 h1_1 h1_2 h1_3 n_2 s_2
                                else
                                  SameSt
                                      ([(2, LV.box 1 0), (5, LV.own 2),
                                          (8, LV.own 0),
                                          (9, LV.pv (PV.int IntKind.i64 (↑es.length : Int))),
                                          (10,
                                            LV.pv (PV.int IntKind.i64 (IntKind.i64.wrap (x10 + (1 : Int)))))],
                                        [Ob.sl (62, 4) false n1 es,
                                          Ob.box
                                            [LV.pv (PV.int IntKind.i64 (IntKind.i64.wrap (n2 + (1 : Int)))),
                                              LV.pv (PV.int IntKind.i64 h1_1), LV.pv (PV.int IntKind.i64 h1_2),
                                              LV.pv (PV.int IntKind.i64 h1_3)],
                                          Ob.sl (62, 4) true n_2 s_2])
                                      ([(2, LV.box 1 0), (5, LV.own 2),
                                          (8, LV.own 0),
                                          (9, LV.pv (PV.int IntKind.i64 (↑es.length : Int))),
                                          (10,
                                            LV.pv (PV.int IntKind.i64 (IntKind.i64.wrap (x10 + (1 : Int)))))],
                                        [Ob.sl (62, 4) false n1 es,
                                          Ob.box
                                            [LV.pv (PV.int IntKind.i64 (IntKind.i64.wrap (n2 + (1 : Int)))),
                                              LV.pv (PV.int IntKind.i64 h1_1), LV.pv (PV.int IntKind.i64 h1_2),
                                              LV.pv (PV.int IntKind.i64 h1_3)],
                                          Ob.sl (62, 4) true n_2 s_2]) ∧
                                    J (IntKind.i64.wrap (x10 + (1 : Int))) (IntKind.i64.wrap (n2 + (1 : Int))) h1_1 h1_2
                                        h1_3 n_2 s_2 ∧
                                      μ (IntKind.i64.wrap (x10 + (1 : Int))) (IntKind.i64.wrap (n2 + (1 : Int))) h1_1
                                          h1_2 h1_3 n_2 s_2 <
                                        μ x10 h1_0 h1_1 h1_2 h1_3 n_2 s_2
        else
          if decide (h1_0 ≤ h1_1) = true then
            (szOK [[PV.int IntKind.i64 h1_0, PV.int IntKind.i64 h1_1, PV.int IntKind.i64 h1_2, PV.int IntKind.i64 h1_3]]
                  4 ∧
                (s_2.length + 1) * 32 ≤ 140737488355328) ∧
              R (LV.own 1)
                [Ob.sl (62, 4) false n1 es,
                  Ob.sl (62, 4) true (n_2 && false)
                    (s_2 ++
                      [[PV.int IntKind.i64 h1_0, PV.int IntKind.i64 h1_1, PV.int IntKind.i64 h1_2,
                          PV.int IntKind.i64 h1_3]])]
          else
            R (LV.own 1)
              [Ob.sl (62, 4) false n1 es, Ob.sl (62, 4) true n_2 s_2]
theorem e_rows_rest (a b c d : Int) (n1 : Bool) (es : List (List PV)) (J : (Int) → (Int) → (Int) → (Int) → (Int) → (Bool) → (List (List PV)) → Prop) (μ : (Int) → (Int) → (Int) → (Int) → (Int) → (Bool) → (List (List PV)) → Nat) (R : LV → Hp → Prop) : aFnH Try.prog (fun _ => none) Try.f62 [0, 1, 2, 4, 5, 7, 8, 9, 10, 11, 25, 30, 53] (fun zz_ => match zz_ with | 3 => some ⟨Int × Int × Int × Int × Int × Bool × (List (List PV)), fun s => (fun (x10 : Int) (h1_0 : Int) (h1_1 : Int) (h1_2 : Int) (h1_3 : Int) (n_2 : Bool) (s_2 : List (List PV)) => ([(2, LV.box 1 0), (5, LV.own 2), (8, LV.own 0), (9, LV.pv (PV.int IntKind.i64 ↑es.length)), (10, .pv (.int IntKind.i64 x10))], [.sl (62, 4) false n1 es, .box [.pv (.int IntKind.i64 h1_0), .pv (.int IntKind.i64 h1_1), .pv (.int IntKind.i64 h1_2), .pv (.int IntKind.i64 h1_3)], .sl (62, 4) true n_2 s_2])) s.1 s.2.1 s.2.2.1 s.2.2.2.1 s.2.2.2.2.1 s.2.2.2.2.2.1 s.2.2.2.2.2.2, fun _ s => J s.1 s.2.1 s.2.2.1 s.2.2.2.1 s.2.2.2.2.1 s.2.2.2.2.2.1 s.2.2.2.2.2.2, fun s => μ s.1 s.2.1 s.2.2.1 s.2.2.2.1 s.2.2.2.2.1 s.2.2.2.2.2.1 s.2.2.2.2.2.2, fun e h => (gI e 10, hI h 1 0, hI h 1 1, hI h 1 2, hI h 1 3, oN h 2, oS h 2), [(5, 62, 4)], [2, 5, 8, 9, 10], [], fun p => ∀ (x10 : Int) (h1_0 : Int) (h1_1 : Int) (h1_2 : Int) (h1_3 : Int) (n_2 : Bool) (s_2 : List (List PV)), p (x10, h1_0, h1_1, h1_2, h1_3, n_2, s_2), fun p h s => h s.1 s.2.1 s.2.2.1 s.2.2.2.1 s.2.2.2.2.1 s.2.2.2.2.2.1 s.2.2.2.2.2.2⟩ | _ => none) [0, 2] (Try.f62.body.getD .skip) [.pv (.agg [.int .i64 a, .int .i64 b, .int .i64 c, .int .i64 d]), .own 0] [.sl (62, 4) false n1 es] R = r_rows_rest a b c d n1 es J μ R := by kernel_rfl
theorem a_rows_rest (a b c d : Int) (n1 : Bool) (es : List (List PV)) (J : (Int) → (Int) → (Int) → (Int) → (Int) → (Bool) → (List (List PV)) → Prop) (μ : (Int) → (Int) → (Int) → (Int) → (Int) → (Bool) → (List (List PV)) → Nat) {R : LV → Hp → Prop} (h : r_rows_rest a b c d n1 es J μ R) : ACall Try.prog 62 [.pv (.agg [.int .i64 a, .int .i64 b, .int .i64 c, .int .i64 d]), .own 0] [.sl (62, 4) false n1 es] R :=
  ACall.of Try.func62 (by kernel_rfl) (by kernel_rfl) (Nat.le_of_ble_eq_true (by kernel_rfl)) (Eq.mpr (e_rows_rest a b c d n1 es J μ R) h)

def r_rows_joined (n f : Bool) (es : List (List PV)) (J : (Int) → (Bool) → (List (List PV)) → Prop) (μ : (Int) → (Bool) → (List (List PV)) → Nat) (R : PV → Prop) : Prop :=

  (SameSt
        ([(3, LV.own 0), (7, LV.pv (PV.sl n f es)),
            (8, LV.pv (PV.int IntKind.i64 (↑es.length : Int))),
            (9, LV.pv (PV.int IntKind.i64 (0 : Int)))],
          [Ob.sl (62, 4) true true []])
        ([(3, LV.own 0), (7, LV.pv (PV.sl n f es)),
            (8, LV.pv (PV.int IntKind.i64 (↑es.length : Int))),
            (9, LV.pv (PV.int IntKind.i64 (0 : Int)))],
          [Ob.sl (62, 4) true true []]) ∧
      J (0 : Int) true []) ∧
    ∀ (x9 : Int) (n_0 : Bool) (s_0 : List (List PV)),
      J x9 n_0 s_0 →
        if decide (x9 < (↑es.length : Int)) = true then
          idxOK es x9 4 ∧
            ∃ (n1 : Int),
              (es.getD x9.toNat []).head? = some (PV.int IntKind.i64 n1) ∧
                ∃ (n2 : Int),
                  (es.getD x9.toNat []).tail.head? = some (PV.int IntKind.i64 n2) ∧
                    ∃ (n3 : Int),
                      (es.getD x9.toNat []).tail.tail.head? = some (PV.int IntKind.i64 n3) ∧
                        ∃ (n4 : Int),
                          (es.getD x9.toNat []).tail.tail.tail.head? = some (PV.int IntKind.i64 n4) ∧
                            if decide (IntKind.i64.wrap ((↑s_0.length : Int) - (1 : Int)) ≥ (0 : Int)) = true then
                              idxOK s_0 (IntKind.i64.wrap ((↑s_0.length : Int) - (1 : Int))) 4 ∧
                                ∃ (n5 : Int),
                                  (List.drop 1
                                          (s_0.getD (IntKind.i64.wrap ((↑s_0.length : Int) - (1 : Int))).toNat
                                            [])).head? =
                                      some (PV.int IntKind.i64 n5) ∧
                                    if (IntKind.i64.wrap (n5 + (1 : Int)) == n1) = true then
                                      idxOK s_0 (IntKind.i64.wrap ((↑s_0.length : Int) - (1 : Int))) 4 ∧
                                        ∃ (n6 : Int),
                                          (List.drop 2
                                                  (s_0.getD (IntKind.i64.wrap ((↑s_0.length : Int) - (1 : Int))).toNat
                                                    [])).head? =
                                              some (PV.int IntKind.i64 n6) ∧
                                            if (n6 == n3) = true then
                                              idxOK s_0 (IntKind.i64.wrap ((↑s_0.length : Int) - (1 : Int)))
                                                  4 ∧
                                                ∃ (n7 : Int),
                                                  (List.drop 3
                                                          (s_0.getD
                                                            (IntKind.i64.wrap ((↑s_0.length : Int) - (1 : Int))).toNat
                                                            [])).head? =
                                                      some (PV.int IntKind.i64 n7) ∧
                                                    if (n7 == n4) = true then
                                                      idxOK s_0 (IntKind.i64.wrap ((↑s_0.length : Int) - (1 : Int)))
                                                          4 ∧
                                                        (1 = 1 ∧
                                                            2 ≤
                                                              (s_0.getD
                                                                  (IntKind.i64.wrap
                                                                      ((↑s_0.length : Int) - (1 : Int))).toNat
                                                                  []).length) ∧
                                                          SameSt
                                                              ([(3, LV.own 0),
                                                                  (7, LV.pv (PV.sl n f es)),
                                                                  (8,
                                                                    LV.pv (PV.int IntKind.i64 (↑es.length : Int))),
                                                                  (9,
                                                                    LV.pv
                                                                      (PV.int IntKind.i64
                                                                        (IntKind.i64.wrap (x9 + (1 : Int)))))],
                                                                [Ob.sl (62, 4) true n_0
                                                                    (s_0.set
                                                                      (IntKind.i64.wrap
                                                                          ((↑s_0.length : Int) - (1 : Int))).toNat
                                                                      (spl
                                                                        (s_0.getD
                                                                          (IntKind.i64.wrap
                                                                              ((↑s_0.length : Int) - (1 : Int))).toNat
                                                                          [])
                                                                        1 [PV.int IntKind.i64 n2]))])
                                                              ([(3, LV.own 0),
                                                                  (7, LV.pv (PV.sl n f es)),
                                                                  (8,
                                                                    LV.pv (PV.int IntKind.i64 (↑es.length : Int))),
                                                                  (9,
                                                                    LV.pv
                                                                      (PV.int IntKind.i64
                                                                        (IntKind.i64.wrap (x9 + (1 : Int)))))],
                                                                [Ob.sl (62, 4) true n_0
                                                                    (s_0.set
                                                                      (IntKind.i64.wrap
                                                                          ((↑s_0.length : Int) - (1 : Int))).toNat
                                                                      (spl
                                                                        (s_0.getD
                                                                          (IntKind.i64.wrap
                                                                              ((↑s_0.length : Int) - (1 : Int))).toNat
                                                                          [])
                                                                        1 [PV.int IntKind.i64 n2]))]) ∧
                                                            J (IntKind.i64.wrap (x9 + (1 : Int))) n_0
                                                                (s_0.set
                                                                  (IntKind.i64.wrap
                                                                      ((↑s_0.length : Int) - (1 : Int))).toNat
                                                                  (spl
                                                                    (s_0.getD
                                                                      (IntKind.i64.wrap
                                                                          ((↑s_0.length : Int) - (1 : Int))).toNat
                                                                      [])
                                                                    1 [PV.int IntKind.i64 n2])) ∧
                                                              μ (IntKind.i64.wrap (x9 + (1 : Int))) n_0
                                                                  (s_0.set
                                                                    (IntKind.i64.wrap
                                                                        ((↑s_0.length : Int) - (1 : Int))).toNat
                                                                    (spl
                                                                      (s_0.getD
                                                                        (IntKind.i64.wrap
                                                                            ((↑s_0.length : Int) - (1 : Int))).toNat
                                                                        [])
                                                                      1 [PV.int IntKind.i64 n2])) <
                                                                μ x9 n_0 s_0
                                                    else
                                                      (szOK
                                                            [[PV.int IntKind.i64 n1, PV.int IntKind.i64 n2,
                                                                PV.int IntKind.i64 n3, PV.int IntKind.i64 n4]]
                                                            4 ∧
                                                          (s_0.length + 1) * 32 ≤
                                                            140737488355328) ∧
                                                        SameSt
                                                            ([(3, LV.own 0),
                                                                (7, LV.pv (PV.sl n f es)),
                                                                (8,
                                                                  LV.pv (PV.int IntKind.i64 (↑es.length : Int))),
                                                                (9,
                                                                  LV.pv
                                                                    (PV.int IntKind.i64
                                                                      (IntKind.i64.wrap (x9 + (1 : Int)))))],
                                                              [Ob.sl (62, 4) true (n_0 && false)
                                                                  (s_0 ++
                                                                    [[PV.int IntKind.i64 n1, PV.int IntKind.i64 n2,
                                                                        PV.int IntKind.i64 n3,
                                                                        PV.int IntKind.i64 n4]])])
                                                            ([(3, LV.own 0),
                                                                (7, LV.pv (PV.sl n f es)),
                                                                (8,
                                                                  LV.pv (PV.int IntKind.i64 (↑es.length : Int))),
                                                                (9,
                                                                  LV.pv
                                                                    (PV.int IntKind.i64
                                                                      (IntKind.i64.wrap (x9 + (1 : Int)))))],
                                                              [Ob.sl (62, 4) true (n_0 && false)
                                                                  (s_0 ++
                                                                    [[PV.int IntKind.i64 n1, PV.int IntKind.i64 n2,
                                                                        PV.int IntKind.i64 n3,
                                                                        PV.int IntKind.i64 n4]])]) ∧
                                                          J (IntKind.i64.wrap (x9 + (1 : Int))) (n_0 && false)
                                                              (s_0 ++
                                                                [[PV.int IntKind.i64 n1, PV.int IntKind.i64 n2,
                                                                    PV.int IntKind.i64 n3, PV.int IntKind.i64 n4]]) ∧
                                                            μ (IntKind.i64.wrap (x9 + (1 : Int))) (n_0 && false)
                                                                (s_0 ++
                                                                  [[PV.int IntKind.i64 n1, PV.int IntKind.i64 n2,
                                                                      PV.int IntKind.i64 n3, PV.int IntKind.i64 n4]]) <
                                                              μ x9 n_0 s_0
                                            else
                                              (szOK
                                                    [[PV.int IntKind.i64 n1, PV.int IntKind.i64 n2,
                                                        PV.int IntKind.i64 n3, PV.int IntKind.i64 n4]]
                                                    4 ∧
                                                  (s_0.length + 1) * 32 ≤ 140737488355328) ∧
                                                SameSt
                                                    ([(3, LV.own 0),
                                                        (7, LV.pv (PV.sl n f es)),
                                                        (8, LV.pv (PV.int IntKind.i64 (↑es.length : Int))),
                                                        (9,
                                                          LV.pv
                                                            (PV.int IntKind.i64 (IntKind.i64.wrap (x9 + (1 : Int)))))],
                                                      [Ob.sl (62, 4) true (n_0 && false)
                                                          (s_0 ++
                                                            [[PV.int IntKind.i64 n1, PV.int IntKind.i64 n2,
                                                                PV.int IntKind.i64 n3, PV.int IntKind.i64 n4]])])
                                                    ([(3, LV.own 0),
                                                        (7, LV.pv (PV.sl n f es)),
                                                        (8, LV.pv (PV.int IntKind.i64 (↑es.length : Int))),
                                                        (9,
                                                          LV.pv
                                                            (PV.int IntKind.i64 (IntKind.i64.wrap (x9 + (1 : Int)))))],
                                                      [Ob.sl (62, 4) true (n_0 && false)
                                                          (s_0 ++
                                                            [[PV.int IntKind.i64 n1, PV.int IntKind.i64 n2,
                                                                PV.int IntKind.i64 n3, PV.int IntKind.i64 n4]])]) ∧
                                                  J (IntKind.i64.wrap (x9 + (1 : Int))) (n_0 && false)
                                                      (s_0 ++
                                                        [[PV.int IntKind.i64 n1, PV.int IntKind.i64 n2,
                                                            PV.int IntKind.i64 n3, PV.int IntKind.i64 n4]]) ∧
                                                    μ (IntKind.i64.wrap (x9 + (1 : Int))) (n_0 && false)
                                                        (s_0 ++
                                                          [[PV.int IntKind.i64 n1, PV.int IntKind.i64 n2,
                                                              PV.int IntKind.i64 n3, PV.int IntKind.i64 n4]]) <
                                                      μ x9 n_0 s_0
                                    else
                                      (szOK
                                            [[PV.int IntKind.i64 n1, PV.int IntKind.i64 n2, PV.int IntKind.i64 n3,
                                                PV.int IntKind.i64 n4]]
                                            4 ∧
                                          (s_0.length + 1) * 32 ≤ 140737488355328) ∧
                                        SameSt
                                            ([(3, LV.own 0), (7, LV.pv (PV.sl n f es)),
                                                (8, LV.pv (PV.int IntKind.i64 (↑es.length : Int))),
                                                (9,
                                                  LV.pv (PV.int IntKind.i64 (IntKind.i64.wrap (x9 + (1 : Int)))))],
                                              [Ob.sl (62, 4) true (n_0 && false)
                                                  (s_0 ++
                                                    [[PV.int IntKind.i64 n1, PV.int IntKind.i64 n2,
                                                        PV.int IntKind.i64 n3, PV.int IntKind.i64 n4]])])
                                            ([(3, LV.own 0), (7, LV.pv (PV.sl n f es)),
                                                (8, LV.pv (PV.int IntKind.i64 (↑es.length : Int))),
                                                (9,
                                                  LV.pv (PV.int IntKind.i64 (IntKind.i64.wrap (x9 + (1 : Int)))))],
                                              [Ob.sl (62, 4) true (n_0 && false)
                                                  (s_0 ++
                                                    [[PV.int IntKind.i64 n1, PV.int IntKind.i64 n2,
                                                        PV.int IntKind.i64 n3, PV.int IntKind.i64 n4]])]) ∧
                                          J (IntKind.i64.wrap (x9 + (1 : Int))) (n_0 && false)
                                              (s_0 ++
                                                [[PV.int IntKind.i64 n1, PV.int IntKind.i64 n2, PV.int IntKind.i64 n3,
                                                    PV.int IntKind.i64 n4]]) ∧
                                            μ (IntKind.i64.wrap (x9 + (1 : Int))) (n_0 && false)
                                                (s_0 ++
                                                  [[PV.int IntKind.i64 n1, PV.int IntKind.i64 n2, PV.int IntKind.i64 n3,
                                                      PV.int IntKind.i64 n4]]) <
                                              μ x9 n_0 s_0
                            else
                              (szOK
                                    [[PV.int IntKind.i64 n1, PV.int IntKind.i64 n2, PV.int IntKind.i64 n3,
                                        PV.int IntKind.i64 n4]]
                                    4 ∧
                                  (s_0.length + 1) * 32 ≤ 140737488355328) ∧
                                SameSt
                                    ([(3, LV.own 0), (7, LV.pv (PV.sl n f es)),
                                        (8, LV.pv (PV.int IntKind.i64 (↑es.length : Int))),
                                        (9, LV.pv (PV.int IntKind.i64 (IntKind.i64.wrap (x9 + (1 : Int)))))],
                                      [Ob.sl (62, 4) true (n_0 && false)
                                          (s_0 ++
                                            [[PV.int IntKind.i64 n1, PV.int IntKind.i64 n2, PV.int IntKind.i64 n3,
                                                PV.int IntKind.i64 n4]])])
                                    ([(3, LV.own 0), (7, LV.pv (PV.sl n f es)),
                                        (8, LV.pv (PV.int IntKind.i64 (↑es.length : Int))),
                                        (9, LV.pv (PV.int IntKind.i64 (IntKind.i64.wrap (x9 + (1 : Int)))))],
                                      [Ob.sl (62, 4) true (n_0 && false)
                                          (s_0 ++
                                            [[PV.int IntKind.i64 n1, PV.int IntKind.i64 n2, PV.int IntKind.i64 n3,
                                                PV.int IntKind.i64 n4]])]) ∧
                                  J (IntKind.i64.wrap (x9 + (1 : Int))) (n_0 && false)
                                      (s_0 ++
                                        [[PV.int IntKind.i64 n1, PV.int IntKind.i64 n2, PV.int IntKind.i64 n3,
                                            PV.int IntKind.i64 n4]]) ∧
                                    μ (IntKind.i64.wrap (x9 + (1 : Int))) (n_0 && false)
                                        (s_0 ++
                                          [[PV.int IntKind.i64 n1, PV.int IntKind.i64 n2, PV.int IntKind.i64 n3,
                                              PV.int IntKind.i64 n4]]) <
                                      μ x9 n_0 s_0
        else R (PV.sl n_0 false s_0)
theorem e_rows_joined (n f : Bool) (es : List (List PV)) (J : (Int) → (Bool) → (List (List PV)) → Prop) (μ : (Int) → (Bool) → (List (List PV)) → Nat) (R : PV → Prop) : aFn Try.prog (fun _ => none) Try.f64 [0, 2, 3, 5, 6, 7, 8, 9, 10, 48] (fun zz_ => match zz_ with | 3 => some ⟨Int × Bool × (List (List PV)), fun s => (fun (x9 : Int) (n_0 : Bool) (s_0 : List (List PV)) => ([(3, LV.own 0), (7, LV.pv (PV.sl n f es)), (8, LV.pv (PV.int IntKind.i64 ↑es.length)), (9, .pv (.int IntKind.i64 x9))], [.sl (62, 4) true n_0 s_0])) s.1 s.2.1 s.2.2, fun _ s => J s.1 s.2.1 s.2.2, fun s => μ s.1 s.2.1 s.2.2, fun e h => (gI e 9, oN h 0, oS h 0), [(3, 62, 4)], [3, 7, 8, 9], [], fun p => ∀ (x9 : Int) (n_0 : Bool) (s_0 : List (List PV)), p (x9, n_0, s_0), fun p h s => h s.1 s.2.1 s.2.2⟩ | _ => none) (Try.f64.body.getD .skip) [.sl n f es] R = r_rows_joined n f es J μ R := by kernel_rfl
theorem a_rows_joined (n f : Bool) (es : List (List PV)) (J : (Int) → (Bool) → (List (List PV)) → Prop) (μ : (Int) → (Bool) → (List (List PV)) → Nat) {R : PV → Prop} (h : r_rows_joined n f es J μ R) : PCall Try.prog 64 [.sl n f es] R :=
  PCall.of Try.func64 (by kernel_rfl) (by kernel_rfl) (Nat.le_of_ble_eq_true (by kernel_rfl)) (Eq.mpr (e_rows_joined n f es J μ R) h)

def r_rows_Size (n f : Bool) (es : List (List PV)) (J : (Int) → (Int) → Prop) (μ : (Int) → (Int) → Nat) (R : PV → Prop) : Prop :=

  (SameSt
        ([(3, LV.pv (PV.int IntKind.i64 (0 : Int))), (6, LV.pv (PV.sl n f es)),
            (7, LV.pv (PV.int IntKind.i64 (↑es.length : Int))),
            (8, LV.pv (PV.int IntKind.i64 (0 : Int)))],
          [])
        ([(3, LV.pv (PV.int IntKind.i64 (0 : Int))), (6, LV.pv (PV.sl n f es)),
            (7, LV.pv (PV.int IntKind.i64 (↑es.length : Int))),
            (8, LV.pv (PV.int IntKind.i64 (0 : Int)))],
          []) ∧
      J (0 : Int) (0 : Int)) ∧
    ∀ (x3 x8 : Int),
      J x3 x8 →
        if decide (x8 < (↑es.length : Int)) = true then
          idxOK es x8 4 ∧
            ∃ (n1 : Int),
              (es.getD x8.toNat []).head? = some (PV.int IntKind.i64 n1) ∧
                ∃ (n2 : Int),
                  (es.getD x8.toNat []).tail.head? = some (PV.int IntKind.i64 n2) ∧
                    ∃ (n3 : Int),
                      (es.getD x8.toNat []).tail.tail.head? = some (PV.int IntKind.i64 n3) ∧
                        ∃ (n4 : Int),
                          (es.getD x8.toNat []).tail.tail.tail.head? = some (PV.int IntKind.i64 n4) ∧
                            SameSt
                                ([(3,
                                      LV.pv
                                        (PV.int IntKind.i64
                                          (IntKind.i64.wrap
                                            (x3 + IntKind.i64.wrap (IntKind.i64.wrap (n2 - n1) + (1 : Int)))))),
                                    (6, LV.pv (PV.sl n f es)),
                                    (7, LV.pv (PV.int IntKind.i64 (↑es.length : Int))),
                                    (8, LV.pv (PV.int IntKind.i64 (IntKind.i64.wrap (x8 + (1 : Int)))))],
                                  [])
                                ([(3,
                                      LV.pv
                                        (PV.int IntKind.i64
                                          (IntKind.i64.wrap
                                            (x3 + IntKind.i64.wrap (IntKind.i64.wrap (n2 - n1) + (1 : Int)))))),
                                    (6, LV.pv (PV.sl n f es)),
                                    (7, LV.pv (PV.int IntKind.i64 (↑es.length : Int))),
                                    (8, LV.pv (PV.int IntKind.i64 (IntKind.i64.wrap (x8 + (1 : Int)))))],
                                  []) ∧
                              J (IntKind.i64.wrap (x3 + IntKind.i64.wrap (IntKind.i64.wrap (n2 - n1) + (1 : Int))))
                                  (IntKind.i64.wrap (x8 + (1 : Int))) ∧
                                μ (IntKind.i64.wrap (x3 + IntKind.i64.wrap (IntKind.i64.wrap (n2 - n1) + (1 : Int))))
                                    (IntKind.i64.wrap (x8 + (1 : Int))) <
                                  μ x3 x8
        else R (PV.int IntKind.i64 x3)
theorem e_rows_Size (n f : Bool) (es : List (List PV)) (J : (Int) → (Int) → Prop) (μ : (Int) → (Int) → Nat) (R : PV → Prop) : aFn Try.prog (fun _ => none) Try.f30 [0, 2, 3, 5, 6, 7, 8, 9] (fun zz_ => match zz_ with | 3 => some ⟨Int × Int, fun s => (fun (x3 : Int) (x8 : Int) => ([(3, .pv (.int IntKind.i64 x3)), (6, LV.pv (PV.sl n f es)), (7, LV.pv (PV.int IntKind.i64 ↑es.length)), (8, .pv (.int IntKind.i64 x8))], [])) s.1 s.2, fun _ s => J s.1 s.2, fun s => μ s.1 s.2, fun e h => (gI e 3, gI e 8), [], [3, 6, 7, 8], [], fun p => ∀ (x3 : Int) (x8 : Int), p (x3, x8), fun p h s => h s.1 s.2⟩ | _ => none) (Try.f30.body.getD .skip) [.sl n f es] R = r_rows_Size n f es J μ R := by kernel_rfl
theorem a_rows_Size (n f : Bool) (es : List (List PV)) (J : (Int) → (Int) → Prop) (μ : (Int) → (Int) → Nat) {R : PV → Prop} (h : r_rows_Size n f es J μ R) : PCall Try.prog 30 [.sl n f es] R :=
  PCall.of Try.func30 (by kernel_rfl) (by kernel_rfl) (Nat.le_of_ble_eq_true (by kernel_rfl)) (Eq.mpr (e_rows_Size n f es J μ R) h)

def r_typebarlaw02_few (n f : Bool) (es : List (List PV)) (R : PV → Prop) : Prop :=

  if decide ((↑es.length : Int) > (40 : Int)) = true then
    (slOK es.length none (some (40 : Int)) none ∧ szOK es 5) ∧
      R (PV.sl n (f && decide ((40 : Int) = (↑es.length : Int))) (List.drop 0 (List.take 40 es)))
  else R (PV.sl n f es)
theorem e_typebarlaw02_few (n f : Bool) (es : List (List PV)) (R : PV → Prop) : aFn Try.prog (fun _ => none) Try.f28 [0, 2, 5] (fun _ => none) (Try.f28.body.getD .skip) [.sl n f es] R = r_typebarlaw02_few n f es R := by kernel_rfl
theorem a_typebarlaw02_few (n f : Bool) (es : List (List PV)) {R : PV → Prop} (h : r_typebarlaw02_few n f es R) : PCall Try.prog 28 [.sl n f es] R :=
  PCall.of Try.func28 (by kernel_rfl) (by kernel_rfl) (Nat.le_of_ble_eq_true (by kernel_rfl)) (Eq.mpr (e_typebarlaw02_few n f es R) h)

def r_cmp_isNaN_int (x : Int) (R : PV → Prop) : Prop :=
 R (PV.bool (x != x))
theorem e_cmp_isNaN_int (x : Int) (R : PV → Prop) : aFn Try.prog (fun _ => none) Try.f96 [0, 2] (fun _ => none) (Try.f96.body.getD .skip) [.int .i64 x] R = r_cmp_isNaN_int x R := by kernel_rfl
theorem a_cmp_isNaN_int (x : Int) {R : PV → Prop} (h : r_cmp_isNaN_int x R) : PCall Try.prog 96 [.int .i64 x] R :=
  PCall.of Try.func96 (by kernel_rfl) (by kernel_rfl) (Nat.le_of_ble_eq_true (by kernel_rfl)) (Eq.mpr (e_cmp_isNaN_int x R) h)

def r_cmp_Compare_int (x y : Int) (R : PV → Prop) : Prop :=

  PCall Try.prog 96 [PV.int IntKind.i64 x] fun (v : PV) ↦
    ∃ (b : Bool),
      v = PV.bool b ∧
        PCall Try.prog 96 [PV.int IntKind.i64 y] fun (v1 : PV) ↦
          ∃ (b1 : Bool),
            v1 = PV.bool b1 ∧
              if b = true then if b1 = true then R (PV.int IntKind.i64 (0 : Int)) else R (PV.int IntKind.i64 (-1 : Int))
              else
                if b1 = true then R (PV.int IntKind.i64 (1 : Int))
                else
                  if decide (x < y) = true then R (PV.int IntKind.i64 (-1 : Int))
                  else
                    if decide (x > y) = true then R (PV.int IntKind.i64 (1 : Int)) else R (PV.int IntKind.i64 (0 : Int))
theorem e_cmp_Compare_int (x y : Int) (R : PV → Prop) : aFn Try.prog (fun _ => none) Try.f61 [0, 1, 4, 5, 6, 11, 12, 13, 16, 19] (fun _ => none) (Try.f61.body.getD .skip) [.int .i64 x, .int .i64 y] R = r_cmp_Compare_int x y R := by kernel_rfl
theorem a_cmp_Compare_int (x y : Int) {R : PV → Prop} (h : r_cmp_Compare_int x y R) : PCall Try.prog 61 [.int .i64 x, .int .i64 y] R :=
  PCall.of Try.func61 (by kernel_rfl) (by kernel_rfl) (Nat.le_of_ble_eq_true (by kernel_rfl)) (Eq.mpr (e_cmp_Compare_int x y R) h)

def r_rows_Of_1 (a b c d a2 b2 c2 d2 : Int) (R : PV → Prop) : Prop :=

  PCall Try.prog 61 [PV.int IntKind.i64 a, PV.int IntKind.i64 a2] fun (v : PV) ↦
    ∃ (n : Int), v = PV.int IntKind.i64 n ∧ R (PV.int IntKind.i64 n)
theorem e_rows_Of_1 (a b c d a2 b2 c2 d2 : Int) (R : PV → Prop) : aFn Try.prog (fun _ => none) Try.f60 [0, 1, 2, 3, 4] (fun _ => none) (Try.f60.body.getD .skip) [.agg [.int .i64 a, .int .i64 b, .int .i64 c, .int .i64 d], .agg [.int .i64 a2, .int .i64 b2, .int .i64 c2, .int .i64 d2]] R = r_rows_Of_1 a b c d a2 b2 c2 d2 R := by kernel_rfl
theorem a_rows_Of_1 (a b c d a2 b2 c2 d2 : Int) {R : PV → Prop} (h : r_rows_Of_1 a b c d a2 b2 c2 d2 R) : PCall Try.prog 60 [.agg [.int .i64 a, .int .i64 b, .int .i64 c, .int .i64 d], .agg [.int .i64 a2, .int .i64 b2, .int .i64 c2, .int .i64 d2]] R :=
  PCall.of Try.func60 (by kernel_rfl) (by kernel_rfl) (Nat.le_of_ble_eq_true (by kernel_rfl)) (Eq.mpr (e_rows_Of_1 a b c d a2 b2 c2 d2 R) h)

def r_rows_Of (n f : Bool) (es : List (List PV)) (k : Int) (J : (Int) → (Bool) → (List (List PV)) → Prop) (μ : (Int) → (Bool) → (List (List PV)) → Nat) (R : PV → Prop) : Prop :=

  (SameSt
        ([(1, LV.pv (PV.int IntKind.i64 k)), (5, LV.own 0),
            (6, LV.pv (PV.fn 60 [])), (10, LV.pv (PV.sl n f es)),
            (11, LV.pv (PV.int IntKind.i64 (↑es.length : Int))),
            (12, LV.pv (PV.int IntKind.i64 (0 : Int)))],
          [Ob.sl (62, 4) true true []])
        ([(1, LV.pv (PV.int IntKind.i64 k)), (5, LV.own 0),
            (6, LV.pv (PV.fn 60 [])), (10, LV.pv (PV.sl n f es)),
            (11, LV.pv (PV.int IntKind.i64 (↑es.length : Int))),
            (12, LV.pv (PV.int IntKind.i64 (0 : Int)))],
          [Ob.sl (62, 4) true true []]) ∧
      J (0 : Int) true []) ∧
    ∀ (x12 : Int) (n_0 : Bool) (s_0 : List (List PV)),
      J x12 n_0 s_0 →
        if decide (x12 < (↑es.length : Int)) = true then
          idxOK es x12 5 ∧
            ∃ (n1 : Int),
              (es.getD x12.toNat []).head? = some (PV.int IntKind.i64 n1) ∧
                ∃ (n2 : Int),
                  (es.getD x12.toNat []).tail.head? = some (PV.int IntKind.i64 n2) ∧
                    ∃ (n3 : Int),
                      (es.getD x12.toNat []).tail.tail.head? = some (PV.int IntKind.i64 n3) ∧
                        ∃ (n4 : Int),
                          (es.getD x12.toNat []).tail.tail.tail.head? = some (PV.int IntKind.i64 n4) ∧
                            ∃ (n5 : Int),
                              (es.getD x12.toNat []).tail.tail.tail.tail.head? = some (PV.int IntKind.i64 n5) ∧
                                if (n1 != k) = true then
                                  SameSt
                                      ([(1, LV.pv (PV.int IntKind.i64 k)), (5, LV.own 0),
                                          (6, LV.pv (PV.fn 60 [])),
                                          (10, LV.pv (PV.sl n f es)),
                                          (11, LV.pv (PV.int IntKind.i64 (↑es.length : Int))),
                                          (12,
                                            LV.pv (PV.int IntKind.i64 (IntKind.i64.wrap (x12 + (1 : Int)))))],
                                        [Ob.sl (62, 4) true n_0 s_0])
                                      ([(1, LV.pv (PV.int IntKind.i64 k)), (5, LV.own 0),
                                          (6, LV.pv (PV.fn 60 [])),
                                          (10, LV.pv (PV.sl n f es)),
                                          (11, LV.pv (PV.int IntKind.i64 (↑es.length : Int))),
                                          (12,
                                            LV.pv (PV.int IntKind.i64 (IntKind.i64.wrap (x12 + (1 : Int)))))],
                                        [Ob.sl (62, 4) true n_0 s_0]) ∧
                                    J (IntKind.i64.wrap (x12 + (1 : Int))) n_0 s_0 ∧
                                      μ (IntKind.i64.wrap (x12 + (1 : Int))) n_0 s_0 < μ x12 n_0 s_0
                                else
                                  ACall Try.prog 62
                                    [LV.pv
                                        (PV.agg
                                          [PV.int IntKind.i64 (if n2 < (0 : Int) then (0 : Int) else n2),
                                            PV.int IntKind.i64 (if (1114111 : Int) < n3 then (1114111 : Int) else n3),
                                            PV.int IntKind.i64 n4, PV.int IntKind.i64 n5]),
                                      LV.own 0]
                                    [Ob.sl (62, 4) false n_0 s_0] fun (r : LV) (h' : Hp) ↦
                                    ∃ (t : Bool × List (List PV)),
                                      (r = LV.own 1 ∧
                                          h' =
                                            [Ob.sl (62, 4) false n_0 s_0,
                                              Ob.sl (62, 4) true t.fst t.snd]) ∧
                                        (((62, 4) = (62, 4) ∧
                                              n_0 = n_0 ∧ s_0.length = s_0.length) ∧
                                            True) ∧
                                          (szOK t.snd 4 ∧
                                              (s_0.length + t.snd.length) * 32 ≤ 140737488355328) ∧
                                            ACall Try.prog 63
                                              [LV.own 0, LV.pv (PV.fn 60 [])]
                                              [Ob.sl (62, 4) false (n_0 && t.snd.isEmpty)
                                                  (s_0 ++ t.snd)]
                                              fun (r1 : LV) (h'1 : Hp) ↦
                                              ∃ (t1 : List (List PV)),
                                                (r1 = LV.tup [] ∧
                                                    h'1 =
                                                      [Ob.sl (62, 4) false (n_0 && t.snd.isEmpty) t1]) ∧
                                                  (((62, 4) = (62, 4) ∧
                                                        (n_0 && t.snd.isEmpty) = (n_0 && t.snd.isEmpty) ∧
                                                          (s_0 ++ t.snd).length = t1.length) ∧
                                                      True) ∧
                                                    SameSt
                                                        ([(1, LV.pv (PV.int IntKind.i64 k)),
                                                            (5, LV.own 0),
                                                            (6, LV.pv (PV.fn 60 [])),
                                                            (10, LV.pv (PV.sl n f es)),
                                                            (11, LV.pv (PV.int IntKind.i64 (↑es.length : Int))),
                                                            (12,
                                                              LV.pv
                                                                (PV.int IntKind.i64
                                                                  (IntKind.i64.wrap (x12 + (1 : Int)))))],
                                                          [Ob.sl (62, 4) true (n_0 && t.snd.isEmpty)
                                                              t1])
                                                        ([(1, LV.pv (PV.int IntKind.i64 k)),
                                                            (5, LV.own 0),
                                                            (6, LV.pv (PV.fn 60 [])),
                                                            (10, LV.pv (PV.sl n f es)),
                                                            (11, LV.pv (PV.int IntKind.i64 (↑es.length : Int))),
                                                            (12,
                                                              LV.pv
                                                                (PV.int IntKind.i64
                                                                  (IntKind.i64.wrap (x12 + (1 : Int)))))],
                                                          [Ob.sl (62, 4) true (n_0 && t.snd.isEmpty)
                                                              t1]) ∧
                                                      J (IntKind.i64.wrap (x12 + (1 : Int))) (n_0 && t.snd.isEmpty) t1 ∧
                                                        μ (IntKind.i64.wrap (x12 + (1 : Int))) (n_0 && t.snd.isEmpty)
                                                            t1 <
                                                          μ x12 n_0 s_0
        else
          PCall Try.prog 64 [PV.sl n_0 false s_0] fun (v : PV) ↦
            ∃ (n1 : Bool), ∃ (f1 : Bool), ∃ (es1 : List (List PV)), v = PV.sl n1 f1 es1 ∧ R (PV.sl n1 f1 es1)
theorem e_rows_Of (n f : Bool) (es : List (List PV)) (k : Int) (J : (Int) → (Bool) → (List (List PV)) → Prop) (μ : (Int) → (Bool) → (List (List PV)) → Nat) (R : PV → Prop) : aFn Try.prog (fun zz_ => match zz_ with | 62 => some ⟨Bool × List (List PV), fun _ hs t => (.own 1, hs ++ [.sl (62, 4) true t.1 t.2])⟩ | 63 => some ⟨List (List PV), fun _ hs t => (.tup [], match hs with | [.sl ty _ nl es] => [.sl ty false nl t] | h => h)⟩ | _ => none) Try.f29 [0, 1, 4, 5, 6, 8, 9, 10, 11, 12, 13, 19] (fun zz_ => match zz_ with | 4 => some ⟨Int × Bool × (List (List PV)), fun s => (fun (x12 : Int) (n_0 : Bool) (s_0 : List (List PV)) => ([(1, LV.pv (PV.int IntKind.i64 k)), (5, LV.own 0), (6, LV.pv (PV.fn 60 [])), (10, LV.pv (PV.sl n f es)), (11, LV.pv (PV.int IntKind.i64 ↑es.length)), (12, .pv (.int IntKind.i64 x12))], [.sl (62, 4) true n_0 s_0])) s.1 s.2.1 s.2.2, fun _ s => J s.1 s.2.1 s.2.2, fun s => μ s.1 s.2.1 s.2.2, fun e h => (gI e 12, oN h 0, oS h 0), [(5, 62, 4)], [1, 5, 6, 10, 11, 12], [], fun p => ∀ (x12 : Int) (n_0 : Bool) (s_0 : List (List PV)), p (x12, n_0, s_0), fun p h s => h s.1 s.2.1 s.2.2⟩ | _ => none) (Try.f29.body.getD .skip) [.sl n f es, .int .i64 k] R = r_rows_Of n f es k J μ R := by kernel_rfl
theorem a_rows_Of (n f : Bool) (es : List (List PV)) (k : Int) (J : (Int) → (Bool) → (List (List PV)) → Prop) (μ : (Int) → (Bool) → (List (List PV)) → Nat) {R : PV → Prop} (h : r_rows_Of n f es k J μ R) : PCall Try.prog 29 [.sl n f es, .int .i64 k] R :=
  PCall.of Try.func29 (by kernel_rfl) (by kernel_rfl) (Nat.le_of_ble_eq_true (by kernel_rfl)) (Eq.mpr (e_rows_Of n f es k J μ R) h)

def r_typebarlaw02_RowsOrder (n f : Bool) (es : List (List PV)) (k : Int) (J : (Bool) → (Bool) → (List (List PV)) → (Int) → (Int) → Prop) (μ : (Bool) → (Bool) → (List (List PV)) → (Int) → (Int) → Nat) (R : PV → Prop) : Prop :=

  PCall Try.prog 28 [PV.sl n f es] fun (v : PV) ↦
    ∃ (n1 : Bool),
      ∃ (f1 : Bool),
        ∃ (es1 : List (List PV)),
          v = PV.sl n1 f1 es1 ∧
            PCall Try.prog 29 [PV.sl n1 f1 es1, PV.int IntKind.i64 k] fun (v1 : PV) ↦
              ∃ (n2 : Bool),
                ∃ (f2 : Bool),
                  ∃ (es2 : List (List PV)),
                    v1 = PV.sl n2 f2 es2 ∧
                      (SameSt
                            ([(5, LV.pv (PV.sl n2 f2 es2)), (6, LV.pv (PV.int IntKind.i64 (0 : Int))),
                                (7, LV.pv (PV.int IntKind.i64 (0 : Int)))],
                              [])
                            ([(5, LV.pv (PV.sl n2 f2 es2)), (6, LV.pv (PV.int IntKind.i64 (0 : Int))),
                                (7, LV.pv (PV.int IntKind.i64 (0 : Int)))],
                              []) ∧
                          J n2 f2 es2 (0 : Int) (0 : Int)) ∧
                        ∀ (n5 f5 : Bool) (s5 : List (List PV)) (x6 x7 : Int),
                          J n5 f5 s5 x6 x7 →
                            if decide (x7 < (↑s5.length : Int)) = true then
                              idxOK s5 x7 4 ∧
                                ∃ (n3 : Int),
                                  (List.drop 0 (s5.getD x7.toNat [])).head? = some (PV.int IntKind.i64 n3) ∧
                                    if decide (n3 < (0 : Int)) = true then R (PV.bool false)
                                    else
                                      idxOK s5 x7 4 ∧
                                        ∃ (n4 : Int),
                                          (List.drop 1 (s5.getD x7.toNat [])).head? =
                                              some (PV.int IntKind.i64 n4) ∧
                                            if decide (n4 > (1114111 : Int)) = true then R (PV.bool false)
                                            else
                                              idxOK s5 x7 4 ∧
                                                ∃ (n6 : Int),
                                                  (List.drop 0 (s5.getD x7.toNat [])).head? =
                                                      some (PV.int IntKind.i64 n6) ∧
                                                    idxOK s5 x7 4 ∧
                                                      ∃ (n7 : Int),
                                                        (List.drop 1 (s5.getD x7.toNat [])).head? =
                                                            some (PV.int IntKind.i64 n7) ∧
                                                          if decide (n6 > n7) = true then R (PV.bool false)
                                                          else
                                                            if decide (x7 > (0 : Int)) = true then
                                                              idxOK s5 (IntKind.i64.wrap (x7 - (1 : Int))) 4 ∧
                                                                ∃ (n8 : Int),
                                                                  (List.drop 1
                                                                          (s5.getD
                                                                            (IntKind.i64.wrap (x7 - (1 : Int))).toNat
                                                                            [])).head? =
                                                                      some (PV.int IntKind.i64 n8) ∧
                                                                    idxOK s5 x7 4 ∧
                                                                      ∃ (n9 : Int),
                                                                        (List.drop 0
                                                                                (s5.getD x7.toNat [])).head? =
                                                                            some (PV.int IntKind.i64 n9) ∧
                                                                          if decide (n8 ≥ n9) = true then
                                                                            R (PV.bool false)
                                                                          else
                                                                            if decide (x7 > (0 : Int)) = true then
                                                                              idxOK s5
                                                                                  (IntKind.i64.wrap (x7 - (1 : Int)))
                                                                                  4 ∧
                                                                                ∃ (n10 : Int),
                                                                                  (List.drop 1
                                                                                          (s5.getD
                                                                                            (IntKind.i64.wrap
                                                                                                (x7 - (1 : Int))).toNat
                                                                                            [])).head? =
                                                                                      some (PV.int IntKind.i64 n10) ∧
                                                                                    idxOK s5 x7 4 ∧
                                                                                      ∃ (n11 : Int),
                                                                                        (List.drop 0
                                                                                                (s5.getD x7.toNat
                                                                                                  [])).head? =
                                                                                            some
                                                                                              (PV.int IntKind.i64 n11) ∧
                                                                                          if
                                                                                              (IntKind.i64.wrap
                                                                                                    (n10 + (1 : Int)) ==
                                                                                                  n11) =
                                                                                                true then
                                                                                            idxOK s5
                                                                                                (IntKind.i64.wrap
                                                                                                  (x7 - (1 : Int)))
                                                                                                4 ∧
                                                                                              ∃ (n12 : Int),
                                                                                                (List.drop 2
                                                                                                        (s5.getD
                                                                                                          (IntKind.i64.wrap
                                                                                                              (x7 -
                                                                                                                (1 :
                                                                                                                  Int))).toNat
                                                                                                          [])).head? =
                                                                                                    some
                                                                                                      (PV.int
                                                                                                        IntKind.i64
                                                                                                        n12) ∧
                                                                                                  idxOK s5 x7
                                                                                                      4 ∧
                                                                                                    ∃ (n13 : Int),
                                                                                                      (List.drop
                                                                                                              (nat_lit
                                                                                                                2)
                                                                                                              (s5.getD
                                                                                                                x7.toNat
                                                                                                                [])).head? =
                                                                                                          some
                                                                                                            (PV.int
                                                                                                              IntKind.i64
                                                                                                              n13) ∧
                                                                                                        if
                                                                                                            (n12 ==
                                                                                                                n13) =
                                                                                                              true then
                                                                                                          idxOK s5
                                                                                                              (IntKind.i64.wrap
                                                                                                                (x7 -
                                                                                                                  (1 :
                                                                                                                    Int)))
                                                                                                              (nat_lit
                                                                                                                4) ∧
                                                                                                            ∃ (n14 :
                                                                                                              Int),
                                                                                                              (List.drop
                                                                                                                      (nat_lit
                                                                                                                        3)
                                                                                                                      (s5.getD
                                                                                                                        (IntKind.i64.wrap
                                                                                                                            (x7 -
                                                                                                                              (1 :
                                                                                                                                Int))).toNat
                                                                                                                        [])).head? =
                                                                                                                  some
                                                                                                                    (PV.int
                                                                                                                      IntKind.i64
                                                                                                                      n14) ∧
                                                                                                                idxOK s5
                                                                                                                    x7
                                                                                                                    (nat_lit
                                                                                                                      4) ∧
                                                                                                                  ∃ (n15
                                                                                                                    :
                                                                                                                    Int),
                                                                                                                    (List.drop
                                                                                                                            (nat_lit
                                                                                                                              3)
                                                                                                                            (s5.getD
                                                                                                                              x7.toNat
                                                                                                                              [])).head? =
                                                                                                                        some
                                                                                                                          (PV.int
                                                                                                                            IntKind.i64
                                                                                                                            n15) ∧
                                                                                                                      if
                                                                                                                          (n14 ==
                                                                                                                              n15) =
                                                                                                                            true then
                                                                                                                        R
                                                                                                                          (PV.bool
                                                                                                                            false)
                                                                                                                      else
                                                                                                                        idxOK
                                                                                                                            s5
                                                                                                                            x7
                                                                                                                            (nat_lit
                                                                                                                              4) ∧
                                                                                                                          ∃
                                                                                                                            (n16
                                                                                                                            :
                                                                                                                            Int),
                                                                                                                            (List.drop
                                                                                                                                    (nat_lit
                                                                                                                                      1)
                                                                                                                                    (s5.getD
                                                                                                                                      x7.toNat
                                                                                                                                      [])).head? =
                                                                                                                                some
                                                                                                                                  (PV.int
                                                                                                                                    IntKind.i64
                                                                                                                                    n16) ∧
                                                                                                                              idxOK
                                                                                                                                  s5
                                                                                                                                  x7
                                                                                                                                  (nat_lit
                                                                                                                                    4) ∧
                                                                                                                                ∃
                                                                                                                                  (n17
                                                                                                                                  :
                                                                                                                                  Int),
                                                                                                                                  (List.drop
                                                                                                                                          (nat_lit
                                                                                                                                            0)
                                                                                                                                          (s5.getD
                                                                                                                                            x7.toNat
                                                                                                                                            [])).head? =
                                                                                                                                      some
                                                                                                                                        (PV.int
                                                                                                                                          IntKind.i64
                                                                                                                                          n17) ∧
                                                                                                                                    SameSt
                                                                                                                                        ([(nat_lit
                                                                                                                                                5,
                                                                                                                                              LV.pv
                                                                                                                                                (PV.sl
                                                                                                                                                  n5
                                                                                                                                                  f5
                                                                                                                                                  s5)),
                                                                                                                                            (nat_lit
                                                                                                                                                6,
                                                                                                                                              LV.pv
                                                                                                                                                (PV.int
                                                                                                                                                  IntKind.i64
                                                                                                                                                  (IntKind.i64.wrap
                                                                                                                                                    (IntKind.i64.wrap
                                                                                                                                                        (IntKind.i64.wrap
                                                                                                                                                            (x6 +
                                                                                                                                                              n16) -
                                                                                                                                                          n17) +
                                                                                                                                                      (1 :
                                                                                                                                                        Int))))),
                                                                                                                                            (nat_lit
                                                                                                                                                7,
                                                                                                                                              LV.pv
                                                                                                                                                (PV.int
                                                                                                                                                  IntKind.i64
                                                                                                                                                  (IntKind.i64.wrap
                                                                                                                                                    (x7 +
                                                                                                                                                      (1 :
                                                                                                                                                        Int)))))],
                                                                                                                                          [])
                                                                                                                                        ([(nat_lit
                                                                                                                                                5,
                                                                                                                                              LV.pv
                                                                                                                                                (PV.sl
                                                                                                                                                  n5
                                                                                                                                                  f5
                                                                                                                                                  s5)),
                                                                                                                                            (nat_lit
                                                                                                                                                6,
                                                                                                                                              LV.pv
                                                                                                                                                (PV.int
                                                                                                                                                  IntKind.i64
                                                                                                                                                  (IntKind.i64.wrap
                                                                                                                                                    (IntKind.i64.wrap
                                                                                                                                                        (IntKind.i64.wrap
                                                                                                                                                            (x6 +
                                                                                                                                                              n16) -
                                                                                                                                                          n17) +
                                                                                                                                                      (1 :
                                                                                                                                                        Int))))),
                                                                                                                                            (nat_lit
                                                                                                                                                7,
                                                                                                                                              LV.pv
                                                                                                                                                (PV.int
                                                                                                                                                  IntKind.i64
                                                                                                                                                  (IntKind.i64.wrap
                                                                                                                                                    (x7 +
                                                                                                                                                      (1 :
                                                                                                                                                        Int)))))],
                                                                                                                                          []) ∧
                                                                                                                                      J
                                                                                                                                          n5
                                                                                                                                          f5
                                                                                                                                          s5
                                                                                                                                          (IntKind.i64.wrap
                                                                                                                                            (IntKind.i64.wrap
                                                                                                                                                (IntKind.i64.wrap
                                                                                                                                                    (x6 +
                                                                                                                                                      n16) -
                                                                                                                                                  n17) +
                                                                                                                                              (1 :
                                                                                                                                                Int)))
                                                                                                                                          (IntKind.i64.wrap
                                                                                                                                            (x7 +
                                                                                                                                              (1 :
                                                                                                                                                Int))) ∧
                                                                                                                                        μ
                                                                                                                                            n5
                                                                                                                                            f5
                                                                                                                                            s5
                                                                                                                                            (IntKind.i64.wrap
                                                                                                                                              (IntKind.i64.wrap
                                                                                                                                                  (IntKind.i64.wrap
                                                                                                                                                      (x6 +
                                                                                                                                                        n16) -
                                                                                                                                                    n17) +
                                                                                                                                                (1 :
                                                                                                                                                  Int)))
                                                                                                                                            (IntKind.i64.wrap
                                                                                                                                              (x7 +
                                                                                                                                                (1 :
                                                                                                                                                  Int))) <
                                                                                                                                          μ
                                                                                                                                            n5
                                                                                                                                            f5
                                                                                                                                            s5
                                                                                                                                            x6
                                                                                                                                            x7
                                                                                                        else
                                                                                                          idxOK s5 x7
                                                                                                              (nat_lit
                                                                                                                4) ∧
                                                                                                            ∃ (n14 :
                                                                                                              Int),
                                                                                                              (List.drop
                                                                                                                      (nat_lit
                                                                                                                        1)
                                                                                                                      (s5.getD
                                                                                                                        x7.toNat
                                                                                                                        [])).head? =
                                                                                                                  some
                                                                                                                    (PV.int
                                                                                                                      IntKind.i64
                                                                                                                      n14) ∧
                                                                                                                idxOK s5
                                                                                                                    x7
                                                                                                                    (nat_lit
                                                                                                                      4) ∧
                                                                                                                  ∃ (n15
                                                                                                                    :
                                                                                                                    Int),
                                                                                                                    (List.drop
                                                                                                                            (nat_lit
                                                                                                                              0)
                                                                                                                            (s5.getD
                                                                                                                              x7.toNat
                                                                                                                              [])).head? =
                                                                                                                        some
                                                                                                                          (PV.int
                                                                                                                            IntKind.i64
                                                                                                                            n15) ∧
                                                                                                                      SameSt
                                                                                                                          ([(nat_lit
                                                                                                                                  5,
                                                                                                                                LV.pv
                                                                                                                                  (PV.sl
                                                                                                                                    n5
                                                                                                                                    f5
                                                                                                                                    s5)),
                                                                                                                              (nat_lit
                                                                                                                                  6,
                                                                                                                                LV.pv
                                                                                                                                  (PV.int
                                                                                                                                    IntKind.i64
                                                                                                                                    (IntKind.i64.wrap
                                                                                                                                      (IntKind.i64.wrap
                                                                                                                                          (IntKind.i64.wrap
                                                                                                                                              (x6 +
                                                                                                                                                n14) -
                                                                                                                                            n15) +
                                                                                                                                        (1 :
                                                                                                                                          Int))))),
                                                                                                                              (nat_lit
                                                                                                                                  7,
                                                                                                                                LV.pv
                                                                                                                                  (PV.int
                                                                                                                                    IntKind.i64
                                                                                                                                    (IntKind.i64.wrap
                                                                                                                                      (x7 +
                                                                                                                                        (1 :
                                                                                                                                          Int)))))],
                                                                                                                            [])
                                                                                                                          ([(nat_lit
                                                                                                                                  5,
                                                                                                                                LV.pv
                                                                                                                                  (PV.sl
                                                                                                                                    n5
                                                                                                                                    f5
                                                                                                                                    s5)),
                                                                                                                              (nat_lit
                                                                                                                                  6,
                                                                                                                                LV.pv
                                                                                                                                  (PV.int
                                                                                                                                    IntKind.i64
                                                                                                                                    (IntKind.i64.wrap
                                                                                                                                      (IntKind.i64.wrap
                                                                                                                                          (IntKind.i64.wrap
                                                                                                                                              (x6 +
                                                                                                                                                n14) -
                                                                                                                                            n15) +
                                                                                                                                        (1 :
                                                                                                                                          Int))))),
                                                                                                                              (nat_lit
                                                                                                                                  7,
                                                                                                                                LV.pv
                                                                                                                                  (PV.int
                                                                                                                                    IntKind.i64
                                                                                                                                    (IntKind.i64.wrap
                                                                                                                                      (x7 +
                                                                                                                                        (1 :
                                                                                                                                          Int)))))],
                                                                                                                            []) ∧
                                                                                                                        J
                                                                                                                            n5
                                                                                                                            f5
                                                                                                                            s5
                                                                                                                            (IntKind.i64.wrap
                                                                                                                              (IntKind.i64.wrap
                                                                                                                                  (IntKind.i64.wrap
                                                                                                                                      (x6 +
                                                                                                                                        n14) -
                                                                                                                                    n15) +
                                                                                                                                (1 :
                                                                                                                                  Int)))
                                                                                                                            (IntKind.i64.wrap
                                                                                                                              (x7 +
                                                                                                                                (1 :
                                                                                                                                  Int))) ∧
                                                                                                                          μ
                                                                                                                              n5
                                                                                                                              f5
                                                                                                                              s5
                                                                                                                              (IntKind.i64.wrap
                                                                                                                                (IntKind.i64.wrap
                                                                                                                                    (IntKind.i64.wrap
                                                                                                                                        (x6 +
                                                                                                                                          n14) -
                                                                                                                                      n15) +
                                                                                                                                  (1 :
                                                                                                                                    Int)))
                                                                                                                              (IntKind.i64.wrap
                                                                                                                                (x7 +
                                                                                                                                  (1 :
                                                                                                                                    Int))) <
                                                                                                                            μ
                                                                                                                              n5
                                                                                                                              f5
                                                                                                                              s5
                                                                                                                              x6
                                                                                                                              x7
                                                                                          else
                                                                                            idxOK s5 x7 4 ∧
                                                                                              ∃ (n14 : Int),
                                                                                                (List.drop 1
                                                                                                        (s5.getD
                                                                                                          x7.toNat
                                                                                                          [])).head? =
                                                                                                    some
                                                                                                      (PV.int
                                                                                                        IntKind.i64
                                                                                                        n14) ∧
                                                                                                  idxOK s5 x7
                                                                                                      4 ∧
                                                                                                    ∃ (n15 : Int),
                                                                                                      (List.drop
                                                                                                              (nat_lit
                                                                                                                0)
                                                                                                              (s5.getD
                                                                                                                x7.toNat
                                                                                                                [])).head? =
                                                                                                          some
                                                                                                            (PV.int
                                                                                                              IntKind.i64
                                                                                                              n15) ∧
                                                                                                        SameSt
                                                                                                            ([(nat_lit
                                                                                                                    5,
                                                                                                                  LV.pv
                                                                                                                    (PV.sl
                                                                                                                      n5
                                                                                                                      f5
                                                                                                                      s5)),
                                                                                                                (nat_lit
                                                                                                                    6,
                                                                                                                  LV.pv
                                                                                                                    (PV.int
                                                                                                                      IntKind.i64
                                                                                                                      (IntKind.i64.wrap
                                                                                                                        (IntKind.i64.wrap
                                                                                                                            (IntKind.i64.wrap
                                                                                                                                (x6 +
                                                                                                                                  n14) -
                                                                                                                              n15) +
                                                                                                                          (1 :
                                                                                                                            Int))))),
                                                                                                                (nat_lit
                                                                                                                    7,
                                                                                                                  LV.pv
                                                                                                                    (PV.int
                                                                                                                      IntKind.i64
                                                                                                                      (IntKind.i64.wrap
                                                                                                                        (x7 +
                                                                                                                          (1 :
                                                                                                                            Int)))))],
                                                                                                              [])
                                                                                                            ([(nat_lit
                                                                                                                    5,
                                                                                                                  LV.pv
                                                                                                                    (PV.sl
                                                                                                                      n5
                                                                                                                      f5
                                                                                                                      s5)),
                                                                                                                (nat_lit
                                                                                                                    6,
                                                                                                                  LV.pv
                                                                                                                    (PV.int
                                                                                                                      IntKind.i64
                                                                                                                      (IntKind.i64.wrap
                                                                                                                        (IntKind.i64.wrap
                                                                                                                            (IntKind.i64.wrap
                                                                                                                                (x6 +
                                                                                                                                  n14) -
                                                                                                                              n15) +
                                                                                                                          (1 :
                                                                                                                            Int))))),
                                                                                                                (nat_lit
                                                                                                                    7,
                                                                                                                  LV.pv
                                                                                                                    (PV.int
                                                                                                                      IntKind.i64
                                                                                                                      (IntKind.i64.wrap
                                                                                                                        (x7 +
                                                                                                                          (1 :
                                                                                                                            Int)))))],
                                                                                                              []) ∧
                                                                                                          J n5 f5 s5
                                                                                                              (IntKind.i64.wrap
                                                                                                                (IntKind.i64.wrap
                                                                                                                    (IntKind.i64.wrap
                                                                                                                        (x6 +
                                                                                                                          n14) -
                                                                                                                      n15) +
                                                                                                                  (1 :
                                                                                                                    Int)))
                                                                                                              (IntKind.i64.wrap
                                                                                                                (x7 +
                                                                                                                  (1 :
                                                                                                                    Int))) ∧
                                                                                                            μ n5 f5 s5
                                                                                                                (IntKind.i64.wrap
                                                                                                                  (IntKind.i64.wrap
                                                                                                                      (IntKind.i64.wrap
                                                                                                                          (x6 +
                                                                                                                            n14) -
                                                                                                                        n15) +
                                                                                                                    (1 :
                                                                                                                      Int)))
                                                                                                                (IntKind.i64.wrap
                                                                                                                  (x7 +
                                                                                                                    (1 :
                                                                                                                      Int))) <
                                                                                                              μ n5 f5 s5
                                                                                                                x6 x7
                                                                            else
                                                                              idxOK s5 x7 4 ∧
                                                                                ∃ (n14 : Int),
                                                                                  (List.drop 1
                                                                                          (s5.getD x7.toNat [])).head? =
                                                                                      some (PV.int IntKind.i64 n14) ∧
                                                                                    idxOK s5 x7 4 ∧
                                                                                      ∃ (n15 : Int),
                                                                                        (List.drop 0
                                                                                                (s5.getD x7.toNat
                                                                                                  [])).head? =
                                                                                            some
                                                                                              (PV.int IntKind.i64 n15) ∧
                                                                                          SameSt
                                                                                              ([(5,
                                                                                                    LV.pv
                                                                                                      (PV.sl n5 f5 s5)),
                                                                                                  (6,
                                                                                                    LV.pv
                                                                                                      (PV.int
                                                                                                        IntKind.i64
                                                                                                        (IntKind.i64.wrap
                                                                                                          (IntKind.i64.wrap
                                                                                                              (IntKind.i64.wrap
                                                                                                                  (x6 +
                                                                                                                    n14) -
                                                                                                                n15) +
                                                                                                            (1 :
                                                                                                              Int))))),
                                                                                                  (7,
                                                                                                    LV.pv
                                                                                                      (PV.int
                                                                                                        IntKind.i64
                                                                                                        (IntKind.i64.wrap
                                                                                                          (x7 +
                                                                                                            (1 :
                                                                                                              Int)))))],
                                                                                                [])
                                                                                              ([(5,
                                                                                                    LV.pv
                                                                                                      (PV.sl n5 f5 s5)),
                                                                                                  (6,
                                                                                                    LV.pv
                                                                                                      (PV.int
                                                                                                        IntKind.i64
                                                                                                        (IntKind.i64.wrap
                                                                                                          (IntKind.i64.wrap
                                                                                                              (IntKind.i64.wrap
                                                                                                                  (x6 +
                                                                                                                    n14) -
                                                                                                                n15) +
                                                                                                            (1 :
                                                                                                              Int))))),
                                                                                                  (7,
                                                                                                    LV.pv
                                                                                                      (PV.int
                                                                                                        IntKind.i64
                                                                                                        (IntKind.i64.wrap
                                                                                                          (x7 +
                                                                                                            (1 :
                                                                                                              Int)))))],
                                                                                                []) ∧
                                                                                            J n5 f5 s5
                                                                                                (IntKind.i64.wrap
                                                                                                  (IntKind.i64.wrap
                                                                                                      (IntKind.i64.wrap
                                                                                                          (x6 + n14) -
                                                                                                        n15) +
                                                                                                    (1 : Int)))
                                                                                                (IntKind.i64.wrap
                                                                                                  (x7 + (1 : Int))) ∧
                                                                                              μ n5 f5 s5
                                                                                                  (IntKind.i64.wrap
                                                                                                    (IntKind.i64.wrap
                                                                                                        (IntKind.i64.wrap
                                                                                                            (x6 + n14) -
                                                                                                          n15) +
                                                                                                      (1 : Int)))
                                                                                                  (IntKind.i64.wrap
                                                                                                    (x7 + (1 : Int))) <
                                                                                                μ n5 f5 s5 x6 x7
                                                            else
                                                              if decide (x7 > (0 : Int)) = true then
                                                                idxOK s5 (IntKind.i64.wrap (x7 - (1 : Int)))
                                                                    4 ∧
                                                                  ∃ (n8 : Int),
                                                                    (List.drop 1
                                                                            (s5.getD
                                                                              (IntKind.i64.wrap (x7 - (1 : Int))).toNat
                                                                              [])).head? =
                                                                        some (PV.int IntKind.i64 n8) ∧
                                                                      idxOK s5 x7 4 ∧
                                                                        ∃ (n9 : Int),
                                                                          (List.drop 0
                                                                                  (s5.getD x7.toNat [])).head? =
                                                                              some (PV.int IntKind.i64 n9) ∧
                                                                            if
                                                                                (IntKind.i64.wrap (n8 + (1 : Int)) ==
                                                                                    n9) =
                                                                                  true then
                                                                              idxOK s5
                                                                                  (IntKind.i64.wrap (x7 - (1 : Int)))
                                                                                  4 ∧
                                                                                ∃ (n10 : Int),
                                                                                  (List.drop 2
                                                                                          (s5.getD
                                                                                            (IntKind.i64.wrap
                                                                                                (x7 - (1 : Int))).toNat
                                                                                            [])).head? =
                                                                                      some (PV.int IntKind.i64 n10) ∧
                                                                                    idxOK s5 x7 4 ∧
                                                                                      ∃ (n11 : Int),
                                                                                        (List.drop 2
                                                                                                (s5.getD x7.toNat
                                                                                                  [])).head? =
                                                                                            some
                                                                                              (PV.int IntKind.i64 n11) ∧
                                                                                          if (n10 == n11) = true then
                                                                                            idxOK s5
                                                                                                (IntKind.i64.wrap
                                                                                                  (x7 - (1 : Int)))
                                                                                                4 ∧
                                                                                              ∃ (n12 : Int),
                                                                                                (List.drop 3
                                                                                                        (s5.getD
                                                                                                          (IntKind.i64.wrap
                                                                                                              (x7 -
                                                                                                                (1 :
                                                                                                                  Int))).toNat
                                                                                                          [])).head? =
                                                                                                    some
                                                                                                      (PV.int
                                                                                                        IntKind.i64
                                                                                                        n12) ∧
                                                                                                  idxOK s5 x7
                                                                                                      4 ∧
                                                                                                    ∃ (n13 : Int),
                                                                                                      (List.drop
                                                                                                              (nat_lit
                                                                                                                3)
                                                                                                              (s5.getD
                                                                                                                x7.toNat
                                                                                                                [])).head? =
                                                                                                          some
                                                                                                            (PV.int
                                                                                                              IntKind.i64
                                                                                                              n13) ∧
                                                                                                        if
                                                                                                            (n12 ==
                                                                                                                n13) =
                                                                                                              true then
                                                                                                          R
                                                                                                            (PV.bool
                                                                                                              false)
                                                                                                        else
                                                                                                          idxOK s5 x7
                                                                                                              (nat_lit
                                                                                                                4) ∧
                                                                                                            ∃ (n14 :
                                                                                                              Int),
                                                                                                              (List.drop
                                                                                                                      (nat_lit
                                                                                                                        1)
                                                                                                                      (s5.getD
                                                                                                                        x7.toNat
                                                                                                                        [])).head? =
                                                                                                                  some
                                                                                                                    (PV.int
                                                                                                                      IntKind.i64
                                                                                                                      n14) ∧
                                                                                                                idxOK s5
                                                                                                                    x7
                                                                                                                    (nat_lit
                                                                                                                      4) ∧
                                                                                                                  ∃ (n15
                                                                                                                    :
                                                                                                                    Int),
                                                                                                                    (List.drop
                                                                                                                            (nat_lit
                                                                                                                              0)
                                                                                                                            (s5.getD
                                                                                                                              x7.toNat
                                                                                                                              [])).head? =
                                                                                                                        some
                                                                                                                          (PV.int
                                                                                                                            IntKind.i64
                                                                                                                            n15) ∧
                                                                                                                      SameSt
                                                                                                                          ([(nat_lit
                                                                                                                                  5,
                                                                                                                                LV.pv
                                                                                                                                  (PV.sl
                                                                                                                                    n5
                                                                                                                                    f5
                                                                                                                                    s5)),
                                                                                                                              (nat_lit
                                                                                                                                  6,
                                                                                                                                LV.pv
                                                                                                                                  (PV.int
                                                                                                                                    IntKind.i64
                                                                                                                                    (IntKind.i64.wrap
                                                                                                                                      (IntKind.i64.wrap
                                                                                                                                          (IntKind.i64.wrap
                                                                                                                                              (x6 +
                                                                                                                                                n14) -
                                                                                                                                            n15) +
                                                                                                                                        (1 :
                                                                                                                                          Int))))),
                                                                                                                              (nat_lit
                                                                                                                                  7,
                                                                                                                                LV.pv
                                                                                                                                  (PV.int
                                                                                                                                    IntKind.i64
                                                                                                                                    (IntKind.i64.wrap
                                                                                                                                      (x7 +
                                                                                                                                        (1 :
                                                                                                                                          Int)))))],
                                                                                                                            [])
                                                                                                                          ([(nat_lit
                                                                                                                                  5,
                                                                                                                                LV.pv
                                                                                                                                  (PV.sl
                                                                                                                                    n5
                                                                                                                                    f5
                                                                                                                                    s5)),
                                                                                                                              (nat_lit
                                                                                                                                  6,
                                                                                                                                LV.pv
                                                                                                                                  (PV.int
                                                                                                                                    IntKind.i64
                                                                                                                                    (IntKind.i64.wrap
                                                                                                                                      (IntKind.i64.wrap
                                                                                                                                          (IntKind.i64.wrap
                                                                                                                                              (x6 +
                                                                                                                                                n14) -
                                                                                                                                            n15) +
                                                                                                                                        (1 :
                                                                                                                                          Int))))),
                                                                                                                              (nat_lit
                                                                                                                                  7,
                                                                                                                                LV.pv
                                                                                                                                  (PV.int
                                                                                                                                    IntKind.i64
                                                                                                                                    (IntKind.i64.wrap
                                                                                                                                      (x7 +
                                                                                                                                        (1 :
                                                                                                                                          Int)))))],
                                                                                                                            []) ∧
                                                                                                                        J
                                                                                                                            n5
                                                                                                                            f5
                                                                                                                            s5
                                                                                                                            (IntKind.i64.wrap
                                                                                                                              (IntKind.i64.wrap
                                                                                                                                  (IntKind.i64.wrap
                                                                                                                                      (x6 +
                                                                                                                                        n14) -
                                                                                                                                    n15) +
                                                                                                                                (1 :
                                                                                                                                  Int)))
                                                                                                                            (IntKind.i64.wrap
                                                                                                                              (x7 +
                                                                                                                                (1 :
                                                                                                                                  Int))) ∧
                                                                                                                          μ
                                                                                                                              n5
                                                                                                                              f5
                                                                                                                              s5
                                                                                                                              (IntKind.i64.wrap
                                                                                                                                (IntKind.i64.wrap
                                                                                                                                    (IntKind.i64.wrap
                                                                                                                                        (x6 +
                                                                                                                                          n14) -
                                                                                                                                      n15) +
                                                                                                                                  (1 :
                                                                                                                                    Int)))
                                                                                                                              (IntKind.i64.wrap
                                                                                                                                (x7 +
                                                                                                                                  (1 :
                                                                                                                                    Int))) <
                                                                                                                            μ
                                                                                                                              n5
                                                                                                                              f5
                                                                                                                              s5
                                                                                                                              x6
                                                                                                                              x7
                                                                                          else
                                                                                            idxOK s5 x7 4 ∧
                                                                                              ∃ (n12 : Int),
                                                                                                (List.drop 1
                                                                                                        (s5.getD
                                                                                                          x7.toNat
                                                                                                          [])).head? =
                                                                                                    some
                                                                                                      (PV.int
                                                                                                        IntKind.i64
                                                                                                        n12) ∧
                                                                                                  idxOK s5 x7
                                                                                                      4 ∧
                                                                                                    ∃ (n13 : Int),
                                                                                                      (List.drop
                                                                                                              (nat_lit
                                                                                                                0)
                                                                                                              (s5.getD
                                                                                                                x7.toNat
                                                                                                                [])).head? =
                                                                                                          some
                                                                                                            (PV.int
                                                                                                              IntKind.i64
                                                                                                              n13) ∧
                                                                                                        SameSt
                                                                                                            ([(nat_lit
                                                                                                                    5,
                                                                                                                  LV.pv
                                                                                                                    (PV.sl
                                                                                                                      n5
                                                                                                                      f5
                                                                                                                      s5)),
                                                                                                                (nat_lit
                                                                                                                    6,
                                                                                                                  LV.pv
                                                                                                                    (PV.int
                                                                                                                      IntKind.i64
                                                                                                                      (IntKind.i64.wrap
                                                                                                                        (IntKind.i64.wrap
                                                                                                                            (IntKind.i64.wrap
                                                                                                                                (x6 +
                                                                                                                                  n12) -
                                                                                                                              n13) +
                                                                                                                          (1 :
                                                                                                                            Int))))),
                                                                                                                (nat_lit
                                                                                                                    7,
                                                                                                                  LV.pv
                                                                                                                    (PV.int
                                                                                                                      IntKind.i64
                                                                                                                      (IntKind.i64.wrap
                                                                                                                        (x7 +
                                                                                                                          (1 :
                                                                                                                            Int)))))],
                                                                                                              [])
                                                                                                            ([(nat_lit
                                                                                                                    5,
                                                                                                                  LV.pv
                                                                                                                    (PV.sl
                                                                                                                      n5
                                                                                                                      f5
                                                                                                                      s5)),
                                                                                                                (nat_lit
                                                                                                                    6,
                                                                                                                  LV.pv
                                                                                                                    (PV.int
                                                                                                                      IntKind.i64
                                                                                                                      (IntKind.i64.wrap
                                                                                                                        (IntKind.i64.wrap
                                                                                                                            (IntKind.i64.wrap
                                                                                                                                (x6 +
                                                                                                                                  n12) -
                                                                                                                              n13) +
                                                                                                                          (1 :
                                                                                                                            Int))))),
                                                                                                                (nat_lit
                                                                                                                    7,
                                                                                                                  LV.pv
                                                                                                                    (PV.int
                                                                                                                      IntKind.i64
                                                                                                                      (IntKind.i64.wrap
                                                                                                                        (x7 +
                                                                                                                          (1 :
                                                                                                                            Int)))))],
                                                                                                              []) ∧
                                                                                                          J n5 f5 s5
                                                                                                              (IntKind.i64.wrap
                                                                                                                (IntKind.i64.wrap
                                                                                                                    (IntKind.i64.wrap
                                                                                                                        (x6 +
                                                                                                                          n12) -
                                                                                                                      n13) +
                                                                                                                  (1 :
                                                                                                                    Int)))
                                                                                                              (IntKind.i64.wrap
                                                                                                                (x7 +
                                                                                                                  (1 :
                                                                                                                    Int))) ∧
                                                                                                            μ n5 f5 s5
                                                                                                                (IntKind.i64.wrap
                                                                                                                  (IntKind.i64.wrap
                                                                                                                      (IntKind.i64.wrap
                                                                                                                          (x6 +
                                                                                                                            n12) -
                                                                                                                        n13) +
                                                                                                                    (1 :
                                                                                                                      Int)))
                                                                                                                (IntKind.i64.wrap
                                                                                                                  (x7 +
                                                                                                                    (1 :
                                                                                                                      Int))) <
                                                                                                              μ n5 f5 s5
                                                                                                                x6 x7
                                                                            else
                                                                              idxOK s5 x7 4 ∧
                                                                                ∃ (n12 : Int),
                                                                                  (List.drop 1
                                                                                          (s5.getD x7.toNat [])).head? =
                                                                                      some (PV.int IntKind.i64 n12) ∧
                                                                                    idxOK s5 x7 4 ∧
                                                                                      ∃ (n13 : Int),
                                                                                        (List.drop 0
                                                                                                (s5.getD x7.toNat
                                                                                                  [])).head? =
                                                                                            some
                                                                                              (PV.int IntKind.i64 n13) ∧
                                                                                          SameSt
                                                                                              ([(5,
                                                                                                    LV.pv
                                                                                                      (PV.sl n5 f5 s5)),
                                                                                                  (6,
                                                                                                    LV.pv
                                                                                                      (PV.int
                                                                                                        IntKind.i64
                                                                                                        (IntKind.i64.wrap
                                                                                                          (IntKind.i64.wrap
                                                                                                              (IntKind.i64.wrap
                                                                                                                  (x6 +
                                                                                                                    n12) -
                                                                                                                n13) +
                                                                                                            (1 :
                                                                                                              Int))))),
                                                                                                  (7,
                                                                                                    LV.pv
                                                                                                      (PV.int
                                                                                                        IntKind.i64
                                                                                                        (IntKind.i64.wrap
                                                                                                          (x7 +
                                                                                                            (1 :
                                                                                                              Int)))))],
                                                                                                [])
                                                                                              ([(5,
                                                                                                    LV.pv
                                                                                                      (PV.sl n5 f5 s5)),
                                                                                                  (6,
                                                                                                    LV.pv
                                                                                                      (PV.int
                                                                                                        IntKind.i64
                                                                                                        (IntKind.i64.wrap
                                                                                                          (IntKind.i64.wrap
                                                                                                              (IntKind.i64.wrap
                                                                                                                  (x6 +
                                                                                                                    n12) -
                                                                                                                n13) +
                                                                                                            (1 :
                                                                                                              Int))))),
                                                                                                  (7,
                                                                                                    LV.pv
                                                                                                      (PV.int
                                                                                                        IntKind.i64
                                                                                                        (IntKind.i64.wrap
                                                                                                          (x7 +
                                                                                                            (1 :
                                                                                                              Int)))))],
                                                                                                []) ∧
                                                                                            J n5 f5 s5
                                                                                                (IntKind.i64.wrap
                                                                                                  (IntKind.i64.wrap
                                                                                                      (IntKind.i64.wrap
                                                                                                          (x6 + n12) -
                                                                                                        n13) +
                                                                                                    (1 : Int)))
                                                                                                (IntKind.i64.wrap
                                                                                                  (x7 + (1 : Int))) ∧
                                                                                              μ n5 f5 s5
                                                                                                  (IntKind.i64.wrap
                                                                                                    (IntKind.i64.wrap
                                                                                                        (IntKind.i64.wrap
                                                                                                            (x6 + n12) -
                                                                                                          n13) +
                                                                                                      (1 : Int)))
                                                                                                  (IntKind.i64.wrap
                                                                                                    (x7 + (1 : Int))) <
                                                                                                μ n5 f5 s5 x6 x7
                                                              else
                                                                idxOK s5 x7 4 ∧
                                                                  ∃ (n12 : Int),
                                                                    (List.drop 1
                                                                            (s5.getD x7.toNat [])).head? =
                                                                        some (PV.int IntKind.i64 n12) ∧
                                                                      idxOK s5 x7 4 ∧
                                                                        ∃ (n13 : Int),
                                                                          (List.drop 0
                                                                                  (s5.getD x7.toNat [])).head? =
                                                                              some (PV.int IntKind.i64 n13) ∧
                                                                            SameSt
                                                                                ([(5, LV.pv (PV.sl n5 f5 s5)),
                                                                                    (6,
                                                                                      LV.pv
                                                                                        (PV.int IntKind.i64
                                                                                          (IntKind.i64.wrap
                                                                                            (IntKind.i64.wrap
                                                                                                (IntKind.i64.wrap
                                                                                                    (x6 + n12) -
                                                                                                  n13) +
                                                                                              (1 : Int))))),
                                                                                    (7,
                                                                                      LV.pv
                                                                                        (PV.int IntKind.i64
                                                                                          (IntKind.i64.wrap
                                                                                            (x7 + (1 : Int)))))],
                                                                                  [])
                                                                                ([(5, LV.pv (PV.sl n5 f5 s5)),
                                                                                    (6,
                                                                                      LV.pv
                                                                                        (PV.int IntKind.i64
                                                                                          (IntKind.i64.wrap
                                                                                            (IntKind.i64.wrap
                                                                                                (IntKind.i64.wrap
                                                                                                    (x6 + n12) -
                                                                                                  n13) +
                                                                                              (1 : Int))))),
                                                                                    (7,
                                                                                      LV.pv
                                                                                        (PV.int IntKind.i64
                                                                                          (IntKind.i64.wrap
                                                                                            (x7 + (1 : Int)))))],
                                                                                  []) ∧
                                                                              J n5 f5 s5
                                                                                  (IntKind.i64.wrap
                                                                                    (IntKind.i64.wrap
                                                                                        (IntKind.i64.wrap (x6 + n12) -
                                                                                          n13) +
                                                                                      (1 : Int)))
                                                                                  (IntKind.i64.wrap (x7 + (1 : Int))) ∧
                                                                                μ n5 f5 s5
                                                                                    (IntKind.i64.wrap
                                                                                      (IntKind.i64.wrap
                                                                                          (IntKind.i64.wrap (x6 + n12) -
                                                                                            n13) +
                                                                                        (1 : Int)))
                                                                                    (IntKind.i64.wrap
                                                                                      (x7 + (1 : Int))) <
                                                                                  μ n5 f5 s5 x6 x7
                            else
                              PCall Try.prog 30 [PV.sl n5 f5 s5] fun (v2 : PV) ↦
                                ∃ (n3 : Int),
                                  v2 = PV.int IntKind.i64 n3 ∧
                                    if (n3 == x6) = true then
                                      PCall Try.prog 31 [] fun (v3 : PV) ↦
                                        ∃ (b : Bool), v3 = PV.bool b ∧ R (PV.bool b)
                                    else R (PV.bool false)
theorem e_typebarlaw02_RowsOrder (n f : Bool) (es : List (List PV)) (k : Int) (J : (Bool) → (Bool) → (List (List PV)) → (Int) → (Int) → Prop) (μ : (Bool) → (Bool) → (List (List PV)) → (Int) → (Int) → Nat) (R : PV → Prop) : aFn Try.prog (fun _ => none) Try.f6 [0, 1, 4, 5, 6, 7, 16, 63, 108] (fun zz_ => match zz_ with | 5 => some ⟨Bool × Bool × (List (List PV)) × Int × Int, fun s => (fun (n5 : Bool) (f5 : Bool) (s5 : List (List PV)) (x6 : Int) (x7 : Int) => ([(5, .pv (.sl n5 f5 s5)), (6, .pv (.int IntKind.i64 x6)), (7, .pv (.int IntKind.i64 x7))], [])) s.1 s.2.1 s.2.2.1 s.2.2.2.1 s.2.2.2.2, fun _ s => J s.1 s.2.1 s.2.2.1 s.2.2.2.1 s.2.2.2.2, fun s => μ s.1 s.2.1 s.2.2.1 s.2.2.2.1 s.2.2.2.2, fun e h => (gN e 5, gF e 5, gS e 5, gI e 6, gI e 7), [], [5, 6, 7], [], fun p => ∀ (n5 : Bool) (f5 : Bool) (s5 : List (List PV)) (x6 : Int) (x7 : Int), p (n5, f5, s5, x6, x7), fun p h s => h s.1 s.2.1 s.2.2.1 s.2.2.2.1 s.2.2.2.2⟩ | _ => none) (Try.f6.body.getD .skip) [.sl n f es, .int .i64 k] R = r_typebarlaw02_RowsOrder n f es k J μ R := by kernel_rfl
theorem a_typebarlaw02_RowsOrder (n f : Bool) (es : List (List PV)) (k : Int) (J : (Bool) → (Bool) → (List (List PV)) → (Int) → (Int) → Prop) (μ : (Bool) → (Bool) → (List (List PV)) → (Int) → (Int) → Nat) {R : PV → Prop} (h : r_typebarlaw02_RowsOrder n f es k J μ R) : PCall Try.prog 6 [.sl n f es, .int .i64 k] R :=
  PCall.of Try.func6 (by kernel_rfl) (by kernel_rfl) (Nat.le_of_ble_eq_true (by kernel_rfl)) (Eq.mpr (e_typebarlaw02_RowsOrder n f es k J μ R) h)

def r_typebarlaw02_awake  (R : PV → Prop) : Prop :=

  PCall Try.prog 29
    [PV.sl false true
        [[PV.int IntKind.i64 (1 : Int), PV.int IntKind.i64 (5 : Int), PV.int IntKind.i64 (9 : Int),
            PV.int IntKind.i64 (7 : Int), PV.int IntKind.i64 (0 : Int)],
          [PV.int IntKind.i64 (1 : Int), PV.int IntKind.i64 (8 : Int), PV.int IntKind.i64 (12 : Int),
            PV.int IntKind.i64 (8 : Int), PV.int IntKind.i64 (0 : Int)]],
      PV.int IntKind.i64 (1 : Int)]
    fun (v : PV) ↦
    ∃ (n : Bool),
      ∃ (f : Bool),
        ∃ (es : List (List PV)),
          v = PV.sl n f es ∧
            if ((↑es.length : Int) == (2 : Int)) = true then
              idxOK es (0 : Int) 4 ∧
                ∃ (n1 : Int),
                  (es.getD 0 []).head? = some (PV.int IntKind.i64 n1) ∧
                    ∃ (n2 : Int),
                      (es.getD 0 []).tail.head? = some (PV.int IntKind.i64 n2) ∧
                        ∃ (n3 : Int),
                          (es.getD 0 []).tail.tail.head? = some (PV.int IntKind.i64 n3) ∧
                            ∃ (n4 : Int),
                              (es.getD 0 []).tail.tail.tail.head? = some (PV.int IntKind.i64 n4) ∧
                                if
                                    (bif true then
                                        n1 == (5 : Int) &&
                                          (n2 == (9 : Int) && (n3 == (7 : Int) && (n4 == (0 : Int) && true)))
                                      else
                                        !(n1 == (5 : Int) &&
                                            (n2 == (9 : Int) && (n3 == (7 : Int) && (n4 == (0 : Int) && true))))) =
                                      true then
                                  idxOK es (1 : Int) 4 ∧
                                    ∃ (n5 : Int),
                                      (es.getD 1 []).head? = some (PV.int IntKind.i64 n5) ∧
                                        ∃ (n6 : Int),
                                          (es.getD 1 []).tail.head? = some (PV.int IntKind.i64 n6) ∧
                                            ∃ (n7 : Int),
                                              (es.getD 1 []).tail.tail.head? = some (PV.int IntKind.i64 n7) ∧
                                                ∃ (n8 : Int),
                                                  (es.getD 1 []).tail.tail.tail.head? =
                                                      some (PV.int IntKind.i64 n8) ∧
                                                    R
                                                      (PV.bool
                                                        (bif true then
                                                          n5 == (10 : Int) &&
                                                            (n6 == (12 : Int) &&
                                                              (n7 == (8 : Int) && (n8 == (0 : Int) && true)))
                                                        else
                                                          !(n5 == (10 : Int) &&
                                                              (n6 == (12 : Int) &&
                                                                (n7 == (8 : Int) && (n8 == (0 : Int) && true))))))
                                else R (PV.bool false)
            else R (PV.bool false)
theorem e_typebarlaw02_awake  (R : PV → Prop) : aFn Try.prog (fun _ => none) Try.f31 [0, 1] (fun _ => none) (Try.f31.body.getD .skip) [] R = r_typebarlaw02_awake  R := by kernel_rfl
theorem a_typebarlaw02_awake  {R : PV → Prop} (h : r_typebarlaw02_awake  R) : PCall Try.prog 31 [] R :=
  PCall.of Try.func31 (by kernel_rfl) (by kernel_rfl) (Nat.le_of_ble_eq_true (by kernel_rfl)) (Eq.mpr (e_typebarlaw02_awake  R) h)

end Go.Eng
