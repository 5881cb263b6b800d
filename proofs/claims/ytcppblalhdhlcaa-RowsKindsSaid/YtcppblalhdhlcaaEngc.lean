/- Abstract states run over the code; what each function gives, printed by program and checked by the kernel; and what follows of it. -/
import Derived.Test.YtcppblalhdhlcaaEngb
set_option linter.unusedVariables false
set_option linter.unusedSimpArgs false
namespace Go.Eng
open Go
/-- Rows of a slice as the image of a list. -/
theorem szOK_map {α : Type} {enc : α → List PV} {sz : Nat} (hs : ∀ x, (enc x).length = sz) (l : List α) : szOK (l.map enc) sz := by
  intro e he
  cases l with
  | nil => simp at he
  | cons x l => simp only [List.map_cons, List.head?_cons, Option.some.injEq] at he; subst he; exact hs x
theorem getD_map {α : Type} {enc : α → List PV} {l : List α} {i : Nat} (h : i < l.length) : (l.map enc).getD i [] = enc l[i] := by
  simp [List.getD, h]
theorem idxOK_map {α : Type} {enc : α → List PV} {sz : Nat} (hs : ∀ x, (enc x).length = sz) {l : List α} {i : Int} (h0 : 0 ≤ i) (h : i < l.length) : idxOK (l.map enc) i sz := by
  refine ⟨h0, by simpa using h, ?_⟩
  rw [getD_map (by omega)]
  exact hs _
theorem drop_cons {α : Type} {l : List α} {i : Nat} (h : i < l.length) : l.drop i = l[i] :: l.drop (i + 1) := List.drop_eq_getElem_cons h
theorem iteT {c : Prop} [Decidable c] {a b : Prop} (h : c) (ha : a) : if c then a else b := by rw [if_pos h]; exact ha
theorem iteF {c : Prop} [Decidable c] {a b : Prop} (h : ¬ c) (hb : b) : if c then a else b := by rw [if_neg h]; exact hb
theorem iteD {c : Prop} [Decidable c] {a b : Prop} (ha : c → a) (hb : ¬ c → b) : if c then a else b := by
  by_cases h : c
  · rw [if_pos h]; exact ha h
  · rw [if_neg h]; exact hb h
end Go.Eng
set_option linter.unusedVariables false
set_option linter.unusedSimpArgs false
namespace Go.Eng
open Go
/-! ### Maps as lists of pairs -/
def encM {α β : Type} (ek : α → PV) (ev : β → PV) (M : List (α × β)) : List (PV × PV) := M.map fun p => (ek p.1, ev p.2)
def aget {α β : Type} [DecidableEq α] (a : α) : List (α × β) → Option β
  | [] => none
  | (x, y) :: r => if a = x then some y else aget a r
def aset {α β : Type} [DecidableEq α] (a : α) (b : β) : List (α × β) → List (α × β)
  | [] => [(a, b)]
  | (x, y) :: r => if a = x then (a, b) :: r else (x, y) :: aset a b r
section
variable {α β : Type} [DecidableEq α] {ek : α → PV} {ev : β → PV}
theorem encM_len (M : List (α × β)) : (encM ek ev M).length = M.length := by simp [encM]
theorem mapPos_enc (hk : ∀ a b, eqKey (ek a) (ek b) = decide (a = b)) (a : α) : ∀ (M : List (α × β)), (mapPos (ek a) (encM ek ev M) = none ∧ aget a M = none ∧ ∀ b, aset a b M = M ++ [(a, b)]) ∨
    ∃ j y, mapPos (ek a) (encM ek ev M) = some j ∧ M[j]? = some (a, y) ∧ aget a M = some y ∧ ∀ b, aset a b M = M.set j (a, b)
  | [] => .inl ⟨rfl, rfl, fun _ => rfl⟩
  | (x, y) :: r => by
    simp only [encM, List.map_cons, mapPos, hk, aget, aset]
    by_cases h : a = x
    · subst h
      simp only [decide_true, cond_true, if_true]
      exact .inr ⟨0, y, rfl, rfl, rfl, fun b => rfl⟩
    · simp only [h, decide_false, cond_false, if_false]
      rcases mapPos_enc hk a r with ⟨h1, h2, h3⟩ | ⟨j, z, h1, h2, h3, h4⟩
      · refine .inl ⟨?_, h2, fun b => by rw [h3]; rfl⟩
        show (mapPos (ek a) (encM ek ev r)).map _ = none
        rw [h1]; rfl
      · refine .inr ⟨j + 1, z, ?_, by simpa using h2, h3, fun b => by rw [h4]; rfl⟩
        show (mapPos (ek a) (encM ek ev r)).map _ = _
        rw [h1]; rfl
theorem mapGet_enc (hk : ∀ a b, eqKey (ek a) (ek b) = decide (a = b)) (a : α) (M : List (α × β)) : mapGet (ek a) (encM ek ev M) = (aget a M).map ev := by
  unfold mapGet
  rcases mapPos_enc (ev := ev) hk a M with ⟨h1, h2, h3⟩ | ⟨j, z, h1, h2, h3, h4⟩
  · rw [h1, h2]; rfl
  · rw [h1, h3]
    simp only [Option.map_some, encM, List.getD, List.getElem?_map, h2, Option.getD_some]
theorem mapSet_enc (hk : ∀ a b, eqKey (ek a) (ek b) = decide (a = b)) (a : α) (b : β) (M : List (α × β)) : mapSet (ek a) (ev b) (encM ek ev M) = encM ek ev (aset a b M) := by
  unfold mapSet
  rcases mapPos_enc (ev := ev) hk a M with ⟨h1, h2, h3⟩ | ⟨j, z, h1, h2, h3, h4⟩
  · rw [h1, h3]; simp [encM]
  · rw [h1, h4]
    simp only [encM, List.map_set]
theorem aget_aset (x a : α) (b : β) : ∀ (M : List (α × β)), aget x (aset a b M) = if x = a then some b else aget x M
  | [] => rfl
  | (u, v) :: r => by
    simp only [aset]
    by_cases h : a = u
    · subst h
      simp only [if_true, aget]
      by_cases h2 : x = a <;> simp [h2]
    · simp only [h, if_false, aget, aget_aset x a b r]
      by_cases h2 : x = u
      · subst h2; have : ¬ x = a := fun e => h e.symm; simp [this]
      · simp [h2]
theorem aget_none {a : α} : ∀ {M : List (α × β)}, aget a M = none ↔ a ∉ M.map (·.1)
  | [] => by simp [aget]
  | (u, v) :: r => by
    simp only [aget, List.map_cons, List.mem_cons, not_or]
    by_cases h : a = u
    · simp [h]
    · simp [h, aget_none]
theorem aset_keys (a : α) (b : β) (M : List (α × β)) : (aset a b M).map (·.1) = if a ∈ M.map (·.1) then M.map (·.1) else M.map (·.1) ++ [a] := by
  induction M with
  | nil => simp [aset]
  | cons p r ih =>
    obtain ⟨u, v⟩ := p
    simp only [aset]
    by_cases h : a = u
    · subst h; simp
    · simp only [h, if_false, List.map_cons, ih, List.mem_cons, false_or]
      split <;> simp
theorem aset_nodup {a : α} {b : β} {M : List (α × β)} (h : (M.map (·.1)).Nodup) : ((aset a b M).map (·.1)).Nodup := by
  rw [aset_keys]
  split
  · exact h
  · rename_i hn
    refine List.nodup_append.2 ⟨h, by simp, fun x hx y hy => ?_⟩
    simp only [List.mem_singleton] at hy
    subst hy
    exact fun e => hn (e ▸ hx)
theorem mem_aset_keys {x a : α} {b : β} {M : List (α × β)} : x ∈ (aset a b M).map (·.1) ↔ x ∈ M.map (·.1) ∨ x = a := by
  rw [aset_keys]
  split
  · rename_i h; exact ⟨.inl, fun h' => h'.elim id fun e => e ▸ h⟩
  · simp
theorem aset_len (a : α) (b : β) (M : List (α × β)) : (aset a b M).length ≤ M.length + 1 := by
  have := congrArg List.length (aset_keys a b M)
  rw [List.length_map] at this
  rw [this]
  split <;> simp
end
theorem eqKey_int (q : IntKind) (a b : Int) : eqKey (.int q a) (.int q b) = decide (a = b) := by
  show (a == b) = _
  by_cases h : a = b <;> simp [h]
theorem keysInt_enc {q : IntKind} {β : Type} {ev : β → PV} (M : List (Int × β)) : keysInt q (encM (fun n => .int q n) ev M) := by
  intro kv h
  simp only [encM, List.mem_map] at h
  obtain ⟨p, _, rfl⟩ := h
  exact ⟨_, rfl⟩
theorem perm_erase {α : Type} : ∀ {M : List α} {j : Nat} (hj : j < M.length), (M[j] :: M.eraseIdx j).Perm M
  | x :: M, 0, _ => List.Perm.refl _
  | x :: M, j + 1, hj => by
    simp only [List.getElem_cons_succ, List.eraseIdx_cons_succ]
    exact (List.Perm.swap _ _ _).trans ((perm_erase (by simpa using hj)).cons x)
theorem map_erase {α β : Type} (f : α → β) : ∀ (M : List α) (j : Nat), (M.map f).eraseIdx j = (M.eraseIdx j).map f
  | [], _ => by simp
  | x :: M, 0 => rfl
  | x :: M, j + 1 => by simp [map_erase f M j]
theorem enc_at {α β : Type} {ek : α → PV} {ev : β → PV} {M : List (α × β)} {j : Nat} {k v : PV} (h : (encM ek ev M)[j]? = some (k, v)) : ∃ (hj : j < M.length), k = ek M[j].1 ∧ v = ev M[j].2 ∧ (M[j] :: M.eraseIdx j).Perm M ∧ (encM ek ev M).eraseIdx j = encM ek ev (M.eraseIdx j) := by
  simp only [encM, List.getElem?_map] at h
  cases hq : M[j]? with
  | none => rw [hq] at h; cases h
  | some p =>
    rw [hq] at h; cases h
    obtain ⟨hj, hp⟩ := List.getElem?_eq_some_iff.1 hq
    refine ⟨hj, by rw [hp], by rw [hp], perm_erase hj, ?_⟩
    exact map_erase _ _ _
end Go.Eng
