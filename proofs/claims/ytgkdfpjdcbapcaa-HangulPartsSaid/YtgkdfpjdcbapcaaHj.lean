/- Joining. -/
import Derived.Test.YtgkdfpjdcbapcaaHp
set_option linter.unusedVariables false
set_option maxRecDepth 100000
set_option linter.constructorNameAsVariable false
namespace Go.Eng
open Go Go.Proofs
def sec (r : Int) : Bool := decide (r ≥ 4449) && decide (r < 4470) || decide (r > 4519) && decide (r < 4547)
theorem p15 (r : Int) : PCall Try.prog 15 [.int .i32 r] fun v => v = .bool (sec r) := a15 r rfl
theorem p16 (r : Int) : PCall Try.prog 16 [.int .i32 r] fun v => v = .bool (sec r) := a16 r (by
  unfold r_a16 sec
  have e1 : decide (r ≤ 4469) = decide (r < 4470) := by rw [decide_eq_decide]; omega
  have e2 : decide (r ≥ 4520) = decide (r > 4519) := by rw [decide_eq_decide]; omega
  have e3 : decide (r ≤ 4546) = decide (r < 4547) := by rw [decide_eq_decide]; omega
  rw [e1, e2, e3])
theorem splitL_two {x : Int} : (splitL x).length = 2 ↔ isSyl x = true ∧ (x - 44032) % 28 = 0 := by
  unfold splitL splitS
  split
  · rename_i h
    split
    · rename_i h2; simp [h, h2]
    · rename_i h2; simp [h, h2]
  · rename_i h; simp [h]
theorem p14 (x y : Int) (hx : -2147483648 ≤ x ∧ x ≤ 2147483647) (hy : -2147483648 ≤ y ∧ y ≤ 2147483647) : PCall Try.prog 14 [.int .i32 x, .int .i32 y] fun v => v = joinV x y := by
  refine a14 x y ?_
  unfold r_a14 joinV
  have eA : (decide (x ≥ 4352) && decide (x ≤ 4370) && decide (y ≥ 4449) && decide (y ≤ 4469)) = joinA x y := by
    have e1 : decide (x ≤ 4370) = decide (x < 4371) := by rw [decide_eq_decide]; omega
    have e2 : decide (y ≤ 4469) = decide (y < 4470) := by rw [decide_eq_decide]; omega
    rw [e1, e2]; rfl
  rw [eA]
  by_cases hA : joinA x y = true
  · rw [if_pos hA, if_pos hA]
    simp only [joinA, Bool.and_eq_true, decide_eq_true_eq] at hA
    rw [wrap_i64 (n := x) (by omega) (by omega), wrap_i64 (n := y) (by omega) (by omega), wrap_i64 (n := x - 4352) (by omega) (by omega), wrap_i64 (n := (x - 4352) * 588) (by omega) (by omega), wrap_i64 (n := 44032 + (x - 4352) * 588) (by omega) (by omega),
      wrap_i64 (n := y - 4449) (by omega) (by omega), wrap_i64 (n := (y - 4449) * 28) (by omega) (by omega), wrap_i64 (by omega) (by omega), wrap_i32 (by omega) (by omega)]
    rw [show 44032 + (x - 4352) * 588 + (y - 4449) * 28 = 44032 + ((x - 4352) * 21 + y - 4449) * 28 by omega]
  · rw [if_neg hA, if_neg hA]
    refine (p9 x).mono ?_
    rintro _ ⟨n, f, rfl⟩
    refine ⟨_, _, _, rfl, ?_⟩
    rw [i32s_length]
    have e : ((((splitL x).length : Int) == 2) && decide (y ≥ 4520) && decide (y ≤ 4546)) = joinB x y := by
      unfold joinB
      have e1 : decide (y ≥ 4520) = decide (y > 4519) := by rw [decide_eq_decide]; omega
      have e2 : decide (y ≤ 4546) = decide (y < 4547) := by rw [decide_eq_decide]; omega
      have e3 : (((splitL x).length : Int) == 2) = (isSyl x && (x - 44032) % 28 == 0) := by
        rw [Bool.eq_iff_iff]
        simp only [beq_iff_eq, Bool.and_eq_true]
        rw [← splitL_two]; omega
      rw [e1, e2, e3]
    rw [e]
    by_cases hB : joinB x y = true
    · rw [if_pos hB, if_pos hB]
      simp only [joinB, Bool.and_eq_true, decide_eq_true_eq, isSyl_iff] at hB
      rw [wrap_i32 (n := y - 4519) (by omega) (by omega), wrap_i32 (by omega) (by omega), show x + (y - 4519) = x + y - 4519 by omega]
    · rw [if_neg hB, if_neg hB]
def joinN (x y : Int) : Int := if joinA x y = true then 44032 + ((x - 4352) * 21 + y - 4449) * 28 else if joinB x y = true then x + y - 4519 else 0
def joinT (x y : Int) : Bool := joinA x y || joinB x y
theorem joinV_eq (x y : Int) : joinV x y = .tup [.int .i32 (joinN x y), .bool (joinT x y)] := by
  unfold joinV joinN joinT
  by_cases hA : joinA x y = true
  · simp [hA]
  · by_cases hB : joinB x y = true <;> simp [hA, hB]
theorem sec_of_join {x y : Int} (h : joinT x y = true) : sec y = true := by
  simp only [joinT, joinA, joinB, sec, Bool.or_eq_true, Bool.and_eq_true, decide_eq_true_eq] at h ⊢
  omega
theorem p6 (x y : Int) (hx : -2147483648 ≤ x ∧ x ≤ 2147483647) (hy : -2147483648 ≤ y ∧ y ≤ 2147483647) : PCall Try.prog 6 [.int .i32 x, .int .i32 y] fun v => v = .bool true := by
  refine a6 x y ?_
  unfold r_a6
  refine (p13 x y hx).mono fun v hv => ?_
  rw [joinV_eq] at hv; subst hv
  refine ⟨_, rfl, rfl, _, rfl, _, rfl, _, rfl, _, rfl, ?_⟩
  refine (p14 x y hx hy).mono fun v hv => ?_
  rw [joinV_eq] at hv; subst hv
  refine ⟨_, rfl, rfl, _, rfl, _, rfl, _, rfl, _, rfl, ?_⟩
  rw [if_pos (by simp)]
  refine (p15 y).mono ?_
  rintro _ rfl
  refine ⟨_, rfl, (p16 y).mono ?_⟩
  rintro _ rfl
  refine ⟨_, rfl, ?_⟩
  rw [if_pos (by simp)]
  by_cases hT : joinT x y = true
  · rw [if_neg (by simp [hT])]
    refine (p15 y).mono ?_
    rintro _ rfl
    refine ⟨_, rfl, ?_⟩
    rw [if_pos (sec_of_join hT)]
    refine p12.mono ?_
    rintro _ rfl
    exact ⟨_, rfl, rfl⟩
  · rw [if_pos (by simp [hT])]
    refine p12.mono ?_
    rintro _ rfl
    exact ⟨_, rfl, rfl⟩
end Go.Eng
