/- There and back. -/
import Derived.Test.YtgkdfpjdcbapcaaHj
set_option linter.unusedVariables false
set_option maxRecDepth 100000
set_option linter.constructorNameAsVariable false
namespace Go.Eng
open Go Go.Proofs
theorem md (x k : Int) (h : 0 < k) (h2 : k ≤ 100000) : 0 ≤ (IntKind.i64.wrap (x.tmod k + k)).tmod k ∧ (IntKind.i64.wrap (x.tmod k + k)).tmod k < k := by
  have h3 := Int.tmod_lt_of_pos x h
  have h4 := Int.lt_tmod_of_pos x h
  rw [wrap_i64 (by omega) (by omega)]
  exact ⟨Int.tmod_nonneg _ (by omega), Int.tmod_lt_of_pos _ h⟩
theorem joinV_first {l v : Int} (h0 : 0 ≤ l) (h1 : l < 19) (h2 : 0 ≤ v) (h3 : v < 21) : joinV (4352 + l) (4449 + v) = .tup [.int .i32 (44032 + (l * 21 + v) * 28), .bool true] := by
  unfold joinV
  rw [if_pos (by simp only [joinA, Bool.and_eq_true, decide_eq_true_eq]; omega)]
  rw [show (4352 + l - 4352) * 21 + (4449 + v) - 4449 = l * 21 + v by omega]
theorem joinV_second {n t : Int} (h0 : 44032 ≤ n) (h1 : n < 55204) (h2 : (n - 44032) % 28 = 0) (h3 : 0 < t) (h4 : t < 28) : joinV n (4519 + t) = .tup [.int .i32 (n + t), .bool true] := by
  unfold joinV
  rw [if_neg (by simp only [joinA, Bool.and_eq_true, decide_eq_true_eq]; omega), if_pos (by simp only [joinB, Bool.and_eq_true, decide_eq_true_eq, isSyl_iff, beq_iff_eq]; omega)]
  rw [show n + (4519 + t) - 4519 = n + t by omega]
theorem splitL_at {l v t : Int} (h0 : 0 ≤ l) (h1 : l < 19) (h2 : 0 ≤ v) (h3 : v < 21) (h4 : 0 ≤ t) (h5 : t < 28) :
    splitL (44032 + (l * 21 + v) * 28 + t) = if t = 0 then [4352 + l, 4449 + v] else [4352 + l, 4449 + v, 4519 + t] := by
  unfold splitL splitS
  rw [if_pos (by rw [isSyl_iff]; omega)]
  rw [show 44032 + (l * 21 + v) * 28 + t - 44032 = (l * 21 + v) * 28 + t by omega, show ((l * 21 + v) * 28 + t) % 28 = t by omega, show ((l * 21 + v) * 28 + t) / 588 = l by omega, show ((l * 21 + v) * 28 + t) / 28 = l * 21 + v by omega, show (l * 21 + v) % 21 = v by omega]
theorem p5 (x y z : Int) (hx : -9223372036854775808 ≤ x ∧ x ≤ 9223372036854775807) (hy : -9223372036854775808 ≤ y ∧ y ≤ 9223372036854775807) (hz : -9223372036854775808 ≤ z ∧ z ≤ 9223372036854775807) :
    PCall Try.prog 5 [.int .i64 x, .int .i64 y, .int .i64 z] fun v => v = .bool true := by
  refine a5 x y z ?_
  unfold r_a5
  obtain ⟨l0, l1⟩ := md x 19 (by omega) (by omega)
  obtain ⟨v0, v1⟩ := md y 21 (by omega) (by omega)
  obtain ⟨t0, t1⟩ := md z 28 (by omega) (by omega)
  generalize (IntKind.i64.wrap (x.tmod 19 + 19)).tmod 19 = l at *
  generalize (IntKind.i64.wrap (y.tmod 21 + 21)).tmod 21 = v at *
  generalize (IntKind.i64.wrap (z.tmod 28 + 28)).tmod 28 = t at *
  rw [wrap_i64 (n := 4352 + l) (by omega) (by omega), wrap_i32 (n := 4352 + l) (by omega) (by omega), wrap_i64 (n := 4449 + v) (by omega) (by omega), wrap_i32 (n := 4449 + v) (by omega) (by omega),
    wrap_i64 (n := 4519 + t) (by omega) (by omega), wrap_i32 (n := 4519 + t) (by omega) (by omega), wrap_i64 (n := l * 21) (by omega) (by omega), wrap_i64 (n := l * 21 + v) (by omega) (by omega), wrap_i64 (n := (l * 21 + v) * 28) (by omega) (by omega),
    wrap_i64 (n := 44032 + (l * 21 + v) * 28) (by omega) (by omega), wrap_i64 (n := 44032 + (l * 21 + v) * 28 + t) (by omega) (by omega)]
  refine (p13 _ _ (by omega)).mono fun u hu => ?_
  rw [joinV_first l0 l1 v0 v1] at hu; subst hu
  refine ⟨_, rfl, rfl, _, rfl, _, rfl, _, rfl, _, rfl, ?_⟩
  have hsp := splitL_at l0 l1 v0 v1 t0 t1
  by_cases ht : t > 0
  · rw [if_pos (by simpa using ht)]
    refine (p13 _ _ (by omega)).mono fun u hu => ?_
    rw [joinV_second (by omega) (by omega) (by omega) ht t1] at hu; subst hu
    refine ⟨_, rfl, rfl, _, rfl, _, rfl, _, rfl, _, rfl, ?_⟩
    rw [if_neg (by simp)]
    refine ⟨⟨rfl, .inr (by simp), by simp [szOK], by simp [szOK], by simp⟩, ?_⟩
    rw [wrap_i64 (by omega) (by omega), if_pos (by simp)]
    refine (p8 _).mono ?_
    rintro _ ⟨n, f, rfl⟩
    refine ⟨_, _, _, rfl, (p7 n f false false _ [4352 + l, 4449 + v, 4519 + t] (by have := splitL_len (44032 + (l * 21 + v) * 28 + t); omega)).mono ?_⟩
    rintro _ rfl
    refine ⟨_, rfl, ?_⟩
    rw [if_neg (by omega)] at hsp
    refine ⟨rfl, ?_⟩
    rw [if_pos (by simp [hsp])]
    refine p12.mono ?_
    rintro _ rfl
    exact ⟨_, rfl, rfl⟩
  · rw [if_neg (by simpa using ht)]
    have ht0 : t = 0 := by omega
    subst ht0
    rw [wrap_i64 (by omega) (by omega), if_pos (by simp)]
    refine (p8 _).mono ?_
    rintro _ ⟨n, f, rfl⟩
    refine ⟨_, _, _, rfl, (p7 n f false true _ [4352 + l, 4449 + v] (by have := splitL_len (44032 + (l * 21 + v) * 28); omega)).mono ?_⟩
    rintro _ rfl
    refine ⟨_, rfl, ?_⟩
    rw [if_pos rfl, Int.add_zero] at hsp
    rw [if_pos (by simp [hsp])]
    refine p12.mono ?_
    rintro _ rfl
    exact ⟨_, rfl, rfl⟩
theorem p4 (x : Int) (hx : -9223372036854775808 ≤ x ∧ x ≤ 9223372036854775807) : PCall Try.prog 4 [.int .i64 x] fun v => v = .bool true := by
  refine a4 x ?_
  unfold r_a4
  obtain ⟨m0, m1⟩ := md x 11172 (by omega) (by omega)
  generalize (IntKind.i64.wrap (x.tmod 11172 + 11172)).tmod 11172 = m at *
  rw [wrap_i64 (n := 44032 + m) (by omega) (by omega), wrap_i32 (n := 44032 + m) (by omega) (by omega)]
  obtain ⟨l, v, t, rfl, l0, l1, v0, v1, t0, t1⟩ : ∃ l v t : Int, m = (l * 21 + v) * 28 + t ∧ 0 ≤ l ∧ l < 19 ∧ 0 ≤ v ∧ v < 21 ∧ 0 ≤ t ∧ t < 28 := ⟨m / 588, m / 28 % 21, m % 28, by omega, by omega, by omega, by omega, by omega, by omega, by omega⟩
  have hsp := splitL_at l0 l1 v0 v1 t0 t1
  rw [show 44032 + ((l * 21 + v) * 28 + t) = 44032 + (l * 21 + v) * 28 + t by omega]
  refine (p8 _).mono ?_
  rintro _ ⟨n, f, rfl⟩
  refine ⟨_, _, _, rfl, ?_⟩
  by_cases ht : t = 0
  · rw [if_pos ht] at hsp
    rw [hsp, if_neg (by simp)]
    refine ⟨idxOK_i32s (by simp) (by simp), _, rfl, idxOK_i32s (by simp) (by simp), _, rfl, (p13 _ _ (by omega)).mono fun u hu => ?_⟩
    rw [joinV_first l0 l1 v0 v1] at hu; subst hu
    refine ⟨_, rfl, rfl, _, rfl, _, rfl, _, rfl, _, rfl, ?_⟩
    rw [if_neg (by simp), if_pos (by simp [ht])]
    refine p12.mono ?_
    rintro _ rfl
    exact ⟨_, rfl, rfl⟩
  · rw [if_neg ht] at hsp
    rw [hsp, if_neg (by simp)]
    refine ⟨idxOK_i32s (by simp) (by simp), _, rfl, idxOK_i32s (by simp) (by simp), _, rfl, (p13 _ _ (by omega)).mono fun u hu => ?_⟩
    rw [joinV_first l0 l1 v0 v1] at hu; subst hu
    refine ⟨_, rfl, rfl, _, rfl, _, rfl, _, rfl, _, rfl, ?_⟩
    rw [if_pos (by simp)]
    refine ⟨idxOK_i32s (by simp) (by simp), _, rfl, (p13 _ _ (by omega)).mono fun u hu => ?_⟩
    rw [show (4519 + t : Int) = 4519 + t from rfl, joinV_second (by omega) (by omega) (by omega) (by omega) t1] at hu; subst hu
    refine ⟨_, rfl, rfl, _, rfl, _, rfl, _, rfl, _, rfl, ?_⟩
    rw [if_pos (by simp)]
    refine p12.mono ?_
    rintro _ rfl
    exact ⟨_, rfl, rfl⟩
end Go.Eng
