/- What the functions of hangul compute. -/
import Derived.Test.YtgkdfpjdcbapcaaHg
set_option linter.unusedVariables false
set_option maxRecDepth 100000
set_option linter.constructorNameAsVariable false
namespace Go.Eng
open Go Go.Proofs
def isSyl (r : Int) : Bool := decide (r ≥ 44032) && decide (r < 55204)
theorem isSyl_iff {r : Int} : isSyl r = true ↔ 44032 ≤ r ∧ r < 55204 := by simp [isSyl]
theorem p10 (r : Int) : PCall Try.prog 10 [.int .i32 r] fun v => v = .bool (isSyl r) := a10 r rfl
theorem p11 (r : Int) : PCall Try.prog 11 [.int .i32 r] fun v => v = .bool (isSyl r) := a11 r (by
  unfold r_a11
  have : (decide (r ≥ 44032) && decide (r ≤ 55203)) = isSyl r := by
    unfold isSyl; congr 1; simp only [decide_eq_decide]; omega
  rw [this])
def splitS (s : Int) : List Int := if s % 28 = 0 then [4352 + s / 588, 4449 + s / 28 % 21] else [4352 + s / 588, 4449 + s / 28 % 21, 4519 + s % 28]
def splitL (r : Int) : List Int := if isSyl r = true then splitS (r - 44032) else []
theorem splitL_len (r : Int) : (splitL r).length ≤ 3 := by unfold splitL splitS; split <;> (try split) <;> simp
theorem p8 (r : Int) : PCall Try.prog 8 [.int .i32 r] fun v => ∃ n f, v = .sl n f (i32s (splitL r)) := by
  refine a8 r ((p10 r).mono ?_)
  rintro _ rfl
  refine ⟨_, rfl, ?_⟩
  by_cases h : isSyl r = true
  · have hr := isSyl_iff.1 h
    rw [if_neg (by simp [h])]
    generalize hs : r - 44032 = s
    have h0 : 0 ≤ s := by omega
    have h1 : s < 11172 := by omega
    rw [wrap_i32 (n := s) (by omega) (by omega), Int.tdiv_eq_ediv_of_nonneg h0, Int.tdiv_eq_ediv_of_nonneg h0, Int.tmod_eq_emod_of_nonneg h0, Int.tmod_eq_emod_of_nonneg (a := IntKind.i32.wrap (s / 28))]
    rw [wrap_i32 (n := s / 588) (by omega) (by omega), wrap_i32 (n := s / 28) (by omega) (by omega), wrap_i32 (n := 4352 + s / 588) (by omega) (by omega), wrap_i32 (n := 4449 + s / 28 % 21) (by omega) (by omega), wrap_i32 (n := 4519 + s % 28) (by omega) (by omega)]
    refine ⟨⟨rfl, by omega⟩, by omega, _, rfl, ?_⟩
    by_cases h2 : s % 28 = 0
    · rw [if_pos (by simp; omega)]
      refine ⟨⟨by unfold slOK; simp, rfl⟩, false, true, ?_⟩
      simp [splitL, h, hs, splitS, h2, i32s]
    · rw [if_neg (by simp; omega)]
      refine ⟨⟨by unfold slOK; simp, rfl⟩, false, true, ?_⟩
      simp [splitL, h, hs, splitS, h2, i32s]
    · rw [wrap_i32 (by omega) (by omega)]; omega
  · rw [if_pos (by simp [h])]
    exact ⟨true, true, by simp [splitL, h, i32s]⟩
end Go.Eng
set_option linter.unusedVariables false
set_option maxRecDepth 100000
set_option linter.constructorNameAsVariable false
namespace Go.Eng
open Go Go.Proofs
theorem p9 (r : Int) : PCall Try.prog 9 [.int .i32 r] fun v => ∃ n f, v = .sl n f (i32s (splitL r)) := by
  refine a9 r ((p11 r).mono ?_)
  rintro _ rfl
  refine ⟨_, rfl, ?_⟩
  by_cases h : isSyl r = true
  · have hr := isSyl_iff.1 h
    rw [if_neg (by simp [h])]
    rw [wrap_i64 (n := r) (by omega) (by omega)]
    generalize hs : r - 44032 = s
    have h0 : 0 ≤ s := by omega
    have h1 : s < 11172 := by omega
    rw [wrap_i64 (n := s) (by omega) (by omega), Int.tdiv_eq_ediv_of_nonneg h0, Int.tdiv_eq_ediv_of_nonneg h0, Int.tmod_eq_emod_of_nonneg h0, Int.tmod_eq_emod_of_nonneg (a := IntKind.i64.wrap (s / 28)) (by rw [wrap_i64 (by omega) (by omega)]; omega)]
    rw [wrap_i64 (n := s / 588) (by omega) (by omega), wrap_i64 (n := s / 28) (by omega) (by omega), wrap_i64 (n := 4352 + s / 588) (by omega) (by omega), wrap_i64 (n := 4449 + s / 28 % 21) (by omega) (by omega), wrap_i64 (n := 4519 + s % 28) (by omega) (by omega),
      wrap_i32 (n := 4352 + s / 588) (by omega) (by omega), wrap_i32 (n := 4449 + s / 28 % 21) (by omega) (by omega), wrap_i32 (n := 4519 + s % 28) (by omega) (by omega)]
    by_cases h2 : s % 28 = 0
    · rw [if_neg (by simp; omega)]
      exact ⟨false, true, by simp [splitL, h, hs, splitS, h2, i32s]⟩
    · rw [if_pos (by simp; omega)]
      refine ⟨⟨rfl, .inr (by simp), by simp [szOK], by simp [szOK], by simp⟩, false, false, ?_⟩
      simp [splitL, h, hs, splitS, h2, i32s]
  · rw [if_pos (by simp [h])]
    exact ⟨true, true, by simp [splitL, h, i32s]⟩

theorem idxOK_i32s {l : List Int} {i : Int} (h0 : 0 ≤ i) (h : i < l.length) : idxOK (i32s l) i 1 := by
  refine ⟨h0, by simpa using h, ?_⟩
  rw [i32s_get (by omega)]; rfl
theorem p7 (a1 a2 b1 b2 : Bool) (l m : List Int) (hl : l.length < 1000000) : PCall Try.prog 7 [.sl a1 a2 (i32s l), .sl b1 b2 (i32s m)] fun v => v = .bool (decide (l = m)) := by
  refine a7 a1 a2 (i32s l) b1 b2 (i32s m) (fun i => 0 ≤ i ∧ i ≤ l.length ∧ l.length = m.length ∧ ∀ j : Nat, j < i → l.getD j 0 = m.getD j 0) (fun i => (l.length - i).toNat) ?_
  unfold r_a7
  simp only [i32s_length]
  by_cases hlen : l.length = m.length
  · rw [if_neg (by simp [hlen])]
    refine ⟨0, ⟨[], [], [0, 1, 5], rfl, rfl, rfl⟩, ⟨Int.le_refl _, by omega, hlen, fun j hj => by omega⟩, fun s ⟨h0, h1, _, h3⟩ => ?_⟩
    by_cases hs : s < l.length
    · rw [if_pos (by simpa using hs)]
      refine ⟨idxOK_i32s h0 hs, l.getD s.toNat 0, by rw [i32s_get (by omega)]; rfl, idxOK_i32s h0 (by omega), m.getD s.toNat 0, by rw [i32s_get (by omega)]; rfl, ?_⟩
      by_cases he : l.getD s.toNat 0 = m.getD s.toNat 0
      · rw [if_neg (by simp only [he]; simp)]
        refine ⟨_, ⟨[], [], [0, 1, 5], rfl, rfl, rfl⟩, ?_⟩
        rw [wrap_i64 (by omega) (by omega)]
        refine ⟨⟨by omega, by omega, hlen, fun j hj => ?_⟩, by omega⟩
        by_cases hj' : (j : Int) < s
        · exact h3 j hj'
        · have : j = s.toNat := by omega
          subst this; exact he
      · rw [if_pos (by simpa using he)]
        have : l ≠ m := fun e => he (by rw [e])
        simp [this]
    · rw [if_neg (by simpa using hs)]
      have : l = m := List.ext_getElem hlen fun j hj hj' => by
        have := h3 j (by omega)
        simpa [List.getD, hj, hj'] using this
      simp [this]
  · rw [if_pos (by simpa using fun h => hlen (by omega))]
    have : l ≠ m := fun e => hlen (by rw [e])
    simp [this]
end Go.Eng
set_option linter.unusedVariables false
set_option maxRecDepth 100000
set_option linter.constructorNameAsVariable false
namespace Go.Eng
open Go Go.Proofs
def joinA (x y : Int) : Bool := decide (x ≥ 4352) && decide (x < 4371) && decide (y ≥ 4449) && decide (y < 4470)
def joinB (x y : Int) : Bool := isSyl x && (x - 44032) % 28 == 0 && decide (y > 4519) && decide (y < 4547)
def joinV (x y : Int) : PV :=
  if joinA x y = true then .tup [.int .i32 (44032 + ((x - 4352) * 21 + y - 4449) * 28), .bool true]
  else if joinB x y = true then .tup [.int .i32 (x + y - 4519), .bool true] else .tup [.int .i32 0, .bool false]
theorem p13 (x y : Int) (hx : -2147483648 ≤ x ∧ x ≤ 2147483647) : PCall Try.prog 13 [.int .i32 x, .int .i32 y] fun v => v = joinV x y := by
  refine a13 x y ?_
  unfold r_a13 joinV
  rw [show (decide (x ≥ 4352) && decide (x < 4371) && decide (y ≥ 4449) && decide (y < 4470)) = joinA x y from rfl]
  by_cases hA : joinA x y = true
  · rw [if_pos hA, if_pos hA]
    simp only [joinA, Bool.and_eq_true, decide_eq_true_eq] at hA
    rw [wrap_i32 (n := x - 4352) (by omega) (by omega), wrap_i32 (n := (x - 4352) * 21) (by omega) (by omega), wrap_i32 (n := (x - 4352) * 21 + y) (by omega) (by omega), wrap_i32 (n := (x - 4352) * 21 + y - 4449) (by omega) (by omega),
      wrap_i32 (n := ((x - 4352) * 21 + y - 4449) * 28) (by omega) (by omega), wrap_i32 (by omega) (by omega)]
  · rw [if_neg hA, if_neg hA]
    refine (p10 x).mono ?_
    rintro _ rfl
    refine ⟨_, rfl, ?_⟩
    have e : (isSyl x && (IntKind.i32.wrap (x - 44032)).tmod 28 == 0 && decide (y > 4519) && decide (y < 4547)) = joinB x y := by
      unfold joinB
      cases hS : isSyl x with
      | false => rfl
      | true =>
        have := isSyl_iff.1 hS
        rw [wrap_i32 (by omega) (by omega), Int.tmod_eq_emod_of_nonneg (by omega)]
    rw [e]
    by_cases hB : joinB x y = true
    · rw [if_pos hB, if_pos hB]
      simp only [joinB, Bool.and_eq_true, decide_eq_true_eq, isSyl_iff] at hB
      rw [wrap_i32 (n := x + y) (by omega) (by omega), wrap_i32 (by omega) (by omega)]
    · rw [if_neg hB, if_neg hB]
theorem p12 : PCall Try.prog 12 [] fun v => v = .bool true := by
  refine a12 ?_
  unfold r_a12
  refine (p13 4352 4449 (by omega)).mono fun v hv => ?_
  rw [show joinV 4352 4449 = .tup [.int .i32 44032, .bool true] from by kernel_rfl] at hv
  subst hv
  refine ⟨_, rfl, rfl, _, rfl, _, rfl, _, rfl, _, rfl, ?_⟩
  refine (p13 44032 4520 (by omega)).mono fun v hv => ?_
  rw [show joinV 44032 4520 = .tup [.int .i32 44033, .bool true] from by kernel_rfl] at hv
  subst hv
  refine ⟨_, rfl, rfl, _, rfl, _, rfl, _, rfl, _, rfl, ?_⟩
  rw [if_pos (by decide)]
  refine (p8 44033).mono ?_
  rintro _ ⟨n, f, rfl⟩
  refine ⟨_, _, _, rfl, (p7 n f false true (splitL 44033) [4352, 4449, 4520] (by have := splitL_len 44033; omega)).mono ?_⟩
  rintro _ rfl
  exact ⟨_, rfl, by rw [show splitL 44033 = [4352, 4449, 4520] from by kernel_rfl]; rfl⟩
theorem p3 (r : Int) : PCall Try.prog 3 [.int .i32 r] fun v => v = .bool true := by
  refine a3 r ?_
  unfold r_a3
  refine (p8 r).mono ?_
  rintro _ ⟨n, f, rfl⟩
  refine ⟨_, _, _, rfl, (p9 r).mono ?_⟩
  rintro _ ⟨n2, f2, rfl⟩
  refine ⟨_, _, _, rfl, (p7 n f n2 f2 _ _ (by have := splitL_len r; omega)).mono ?_⟩
  rintro _ rfl
  refine ⟨_, rfl, ?_⟩
  rw [if_pos (by simp)]
  refine (p10 r).mono ?_
  rintro _ rfl
  refine ⟨_, rfl, (p11 r).mono ?_⟩
  rintro _ rfl
  refine ⟨_, rfl, ?_⟩
  rw [if_pos (by simp)]
  refine p12.mono ?_
  rintro _ rfl
  exact ⟨_, rfl, rfl⟩
end Go.Eng
