/- Abstract states run over the code; what each function gives, printed by program and checked by the kernel; and what follows of it. -/
import Derived.Test.YthlnameambnmeaaUh7Ta
set_option maxRecDepth 100000
set_option linter.unusedVariables false
set_option linter.unusedSimpArgs false
namespace Go.Eng
open Go Go.Proofs Go.Eng.Rows
theorem foldJ_len (l : List Sp) : ∀ acc, (l.foldl joinS acc).length ≤ acc.length + l.length := by
  induction l with
  | nil => intro acc; simp
  | cons x xs ih => intro acc; have := ih (joinS acc x); have := joinS_len acc x; simp only [List.foldl_cons, List.length_cons]; omega
theorem good_take {l : List Sp} (h : Rows.Good l) (i : Nat) : Rows.Good (l.take i) := ⟨h.1.sublist (List.take_sublist i l), fun x hx => h.2 x (List.mem_of_mem_take hx)⟩
theorem take_snoc {α : Type} {l : List α} {i : Nat} (h : i < l.length) : l.take (i + 1) = l.take i ++ [l[i]] := by
  rw [List.take_add_one, List.getElem?_eq_getElem h]; rfl
theorem sps_len (l : List Sp) : (sps l).length = l.length := by simp [sps]
theorem rws_len (l : List Row) : (rws l).length = l.length := by simp [rws]
theorem p64 (n f : Bool) (l : List Sp) (hl : Rows.Good l) : PCall Try.prog 77 [.sl n f (sps l)] fun v => ∃ n f, v = .sl n f (sps (joinL l)) := by
  refine a_rows_joined _ _ _ (fun i _ acc => 0 ≤ i ∧ i ≤ l.length ∧ acc = sps (joinL (l.take i.toNat))) (fun i _ _ => l.length - i.toNat) ?_
  unfold r_rows_joined
  refine ⟨⟨rfl, Int.le_refl _, by omega, by simp [joinL, sps]⟩, ?_⟩
  rintro i m acc ⟨i0, i1, rfl⟩
  have hlen : (sps l).length = l.length := by simp [sps]
  have hll := hl.len
  split
  next hc =>
    simp only [decide_eq_true_eq, hlen] at hc
    have hi : i.toNat < l.length := by omega
    have hx := hl.2 l[i.toNat] (List.getElem_mem hi)
    have hw : IntKind.i64.wrap (i + 1) = i + 1 := wrap_i64 (by omega) (by omega)
    have hn : (i + 1).toNat = i.toNat + 1 := by omega
    have hg : (sps l).getD i.toNat [] = encS l[i.toNat] := getD_map hi
    have hst : joinL (l.take (i + 1).toNat) = joinS (joinL (l.take i.toNat)) l[i.toNat] := by rw [hn, take_snoc hi]; simp only [joinL, List.foldl_append, List.foldl_cons, List.foldl_nil]
    have hga := (joinL_ok (good_take hl i.toNat)).1
    have hgl := foldJ_len (l.take i.toNat) []
    rw [← joinL] at hgl
    simp only [List.length_nil, List.length_take] at hgl
    have hmu : l.length - (i + 1).toNat < l.length - i.toNat := by omega
    refine ⟨idxOK_map encS_len i0 hc, l[i.toNat].fr, by rw [hg]; rfl, l[i.toNat].to, by rw [hg]; rfl, l[i.toNat].a, by rw [hg]; rfl, l[i.toNat].b, by rw [hg]; rfl, ?_⟩
    rw [hw]
    simp only [hst]
    generalize joinL (l.take i.toNat) = acc at *
    generalize l[i.toNat] = x at *
    have hal : (sps acc).length = acc.length := by simp [sps]
    have hw2 : IntKind.i64.wrap (((sps acc).length : Int) - 1) = (acc.length : Int) - 1 := by rw [hal]; exact wrap_i64 (by omega) (by omega)
    have hsz : szOK [[.int .i64 x.fr, .int .i64 x.to, .int .i64 x.a, .int .i64 x.b]] 4 ∧ ((sps acc).length + 1) * 32 ≤ 2^47 := ⟨fun e he => by simp at he; subst he; rfl, by rw [hal]; omega⟩
    have hno : acc ++ [x] = joinS acc x → sps acc ++ [[.int .i64 x.fr, .int .i64 x.to, .int .i64 x.a, .int .i64 x.b]] = sps (joinS acc x) := fun h => by rw [← h]; simp [sps, encS]
    rw [hw2]
    rcases List.eq_nil_or_concat acc with rfl | ⟨k, y, rfl⟩
    · rw [if_neg (by simp)]
      exact ⟨hsz, rfl, ⟨by omega, by omega, hno rfl⟩, hmu⟩
    · simp only [List.concat_eq_append] at *
      have hy := hga.2 y (by simp)
      have hkl : ((k ++ [y]).length : Int) - 1 = k.length := by simp
      rw [hkl]
      have hgk : (sps (k ++ [y])).getD ((k.length : Int)).toNat [] = encS y := by
        have : k.length < (k ++ [y]).length := by simp
        rw [show ((k.length : Int)).toNat = k.length by omega, sps, getD_map this]; simp
      have hix : idxOK (sps (k ++ [y])) (k.length : Int) 4 := idxOK_map encS_len (by omega) (by simp; omega)
      have hJ : joinS (k ++ [y]) x = if y.to + 1 = x.fr ∧ y.a = x.a ∧ y.b = x.b then k ++ [{ y with to := x.to }] else k ++ [y] ++ [x] := by
        unfold joinS; rw [List.getLast?_concat]; simp only [List.dropLast_concat]
      have hw3 : IntKind.i64.wrap (y.to + 1) = y.to + 1 := wrap_i64 (by omega) (by omega)
      have hfin : ¬ (y.to + 1 = x.fr ∧ y.a = x.a ∧ y.b = x.b) → sps (k ++ [y]) ++ [[.int .i64 x.fr, .int .i64 x.to, .int .i64 x.a, .int .i64 x.b]] = sps (joinS (k ++ [y]) x) := fun h => hno (by rw [hJ, if_neg h])
      rw [if_pos (by simp)]
      refine ⟨hix, y.to, by rw [hgk]; rfl, ?_⟩
      rw [hw3]
      by_cases c1 : y.to + 1 = x.fr
      · rw [if_pos (by simpa using c1)]
        refine ⟨hix, y.a, by rw [hgk]; rfl, ?_⟩
        by_cases c2 : y.a = x.a
        · rw [if_pos (by simpa using c2)]
          refine ⟨hix, y.b, by rw [hgk]; rfl, ?_⟩
          by_cases c3 : y.b = x.b
          · rw [if_pos (by simpa using c3), hgk]
            refine ⟨hix, ⟨trivial, by show 2 ≤ 4; omega⟩, rfl, ⟨by omega, by omega, ?_⟩, hmu⟩
            rw [hJ, if_pos ⟨c1, c2, c3⟩, show ((k.length : Int)).toNat = k.length by omega]
            simp [sps, encS, spl]
          · rw [if_neg (by simpa using c3)]
            exact ⟨hsz, rfl, ⟨by omega, by omega, hfin fun h => c3 h.2.2⟩, hmu⟩
        · rw [if_neg (by simpa using c2)]
          exact ⟨hsz, rfl, ⟨by omega, by omega, hfin fun h => c2 h.2.1⟩, hmu⟩
      · rw [if_neg (by simpa using c1)]
        exact ⟨hsz, rfl, ⟨by omega, by omega, hfin fun h => c1 h.1⟩, hmu⟩
  next hc =>
    simp only [decide_eq_true_eq, hlen] at hc
    rw [List.take_of_length_le (by omega)]
    exact ⟨_, _, rfl⟩
/-- The spans of rows. -/
theorem p29 (n f : Bool) (rows : List Row) (k : Int) (hlr : rows.length < 4611686018427387904) : PCall Try.prog 47 [.sl n f (rws rows), .int .i64 k] fun v => ∃ n f, v = .sl n f (sps (ofL k rows)) := by
  refine a_rows_Of _ _ _ _ (fun i n acc => 0 ≤ i ∧ i ≤ rows.length ∧ acc = sps (allL k (rows.take i.toNat)) ∧ (n = true → acc = [])) (fun i _ _ => rows.length - i.toNat) ?_
  unfold r_rows_Of
  refine ⟨⟨rfl, Int.le_refl _, by omega, by simp [allL, sps], fun _ => rfl⟩, ?_⟩
  rintro i m acc ⟨i0, i1, rfl, hnil⟩
  have hlen : (rws rows).length = rows.length := by simp [rws]
  have hga := allL_good k (rows.take i.toNat)
  have hll := hga.len
  split
  next hc =>
    simp only [decide_eq_true_eq, hlen] at hc
    have hi : i.toNat < rows.length := by omega
    have hw : IntKind.i64.wrap (i + 1) = i + 1 := wrap_i64 (by omega) (by omega)
    have hn : (i + 1).toNat = i.toNat + 1 := by omega
    have hg : (rws rows).getD i.toNat [] = encR rows[i.toNat] := getD_map hi
    have hst : allL k (rows.take (i + 1).toNat) = stepL k (allL k (rows.take i.toNat)) rows[i.toNat] := by rw [hn, take_snoc hi, allL_snoc]
    have hmu : rows.length - (i + 1).toNat < rows.length - i.toNat := by omega
    refine ⟨idxOK_map encR_len i0 hc, rows[i.toNat].kind, by rw [hg]; rfl, rows[i.toNat].fr, by rw [hg]; rfl, rows[i.toNat].to, by rw [hg]; rfl, rows[i.toNat].a, by rw [hg]; rfl, rows[i.toNat].b, by rw [hg]; rfl, ?_⟩
    rw [hw]
    simp only [hst]
    generalize allL k (rows.take i.toNat) = acc at *
    generalize rows[i.toNat] = x at *
    have hal : (sps acc).length = acc.length := by simp [sps]
    by_cases hk : x.kind = k
    · rw [if_neg (by simpa using hk)]
      have h62 := p62 x.sp m acc hga x.sp_lo x.sp_hi
      simp only [encS, Row.sp] at h62
      refine h62.mono ?_
      rintro _ _ ⟨m1, rfl, rfl⟩
      have hrl := restL_len acc x.sp
      refine ⟨(m1, sps (restL acc x.sp)), ⟨rfl, rfl⟩, ⟨by simp, trivial⟩, ⟨szOK_map encS_len _, by simp only [sps, List.length_map]; omega⟩, ?_⟩
      have happ : sps acc ++ sps (restL acc x.sp) = sps (acc ++ restL acc x.sp) := by simp [sps]
      simp only [happ]
      refine (p63 _ (acc ++ restL acc x.sp) (fun h => ?_) (by simp only [List.length_append]; omega)).mono ?_
      · simp only [Bool.and_eq_true, List.isEmpty_iff] at h
        have h1 := hnil h.1
        have h2 := h.2
        simp only [sps, List.map_eq_nil_iff] at h1 h2
        simp [h1, h2]
        simpa [h1] using h2
      · rintro _ _ ⟨t, rfl, rfl, hp, hs⟩
        have ht := step_eq hga hk hp hs
        refine ⟨sps t, ⟨rfl, rfl⟩, ⟨⟨trivial, trivial, by simp only [sps, List.length_map]; exact hp.length_eq.symm⟩, trivial⟩, rfl, ⟨by omega, by omega, by rw [ht], fun h => ?_⟩, hmu⟩
        simp only [Bool.and_eq_true, List.isEmpty_iff] at h
        have h1 := hnil h.1
        have h2 := h.2
        simp only [sps, List.map_eq_nil_iff] at h1 h2 ⊢
        rw [h2, h1] at hp
        simpa using hp
    · rw [if_pos (by simpa using hk)]
      refine ⟨rfl, ⟨by omega, by omega, by rw [stepL, if_neg hk], hnil⟩, hmu⟩
  next hc =>
    simp only [decide_eq_true_eq, hlen] at hc
    rw [List.take_of_length_le (by omega)] at hga ⊢
    refine (p64 _ _ _ hga).mono ?_
    rintro _ ⟨n, f, rfl⟩
    exact ⟨_, _, _, rfl, _, _, rfl⟩
end Go.Eng
namespace Go.Eng.Rows
/-- The edges. -/
def Asc (l : List Int) : Prop := l.Pairwise (· < ·)
theorem first_same {rows : List Row} {k r r' : Int} (h : ∀ x ∈ rows, x.has k r = x.has k r') : first rows k r = first rows k r' := by
  unfold first
  congr 1
  induction rows with
  | nil => rfl
  | cons x xs ih =>
    simp only [List.find?_cons, h x List.mem_cons_self]
    rw [ih fun y hy => h y (List.mem_cons_of_mem _ hy)]
structure EdgeOK (k : Int) (rows : List Row) (e : List Int) : Prop where
  asc : Asc e
  lo : 0 ∈ e
  hi : 1114112 ∈ e
  rng : ∀ x ∈ e, 0 ≤ x ∧ x ≤ 1114112
  fr : ∀ x ∈ rows, x.kind = k → 0 ≤ x.fr → x.fr ≤ 1114111 → x.fr ∈ e
  to : ∀ x ∈ rows, x.kind = k → -1 ≤ x.to → x.to < 1114111 → x.to + 1 ∈ e
theorem EdgeOK.gap {k : Int} {rows : List Row} {e : List Int} (h : EdgeOK k rows e) {i : Nat} (hi : i + 1 < e.length) : first rows k e[i] = first rows k (e[i+1] - 1) := by
  have hlt : e[i] < e[i+1] := (List.pairwise_iff_getElem.1 h.asc) i (i+1) (by omega) hi (by omega)
  have hr0 := h.rng e[i] (List.getElem_mem _)
  have hr1 := h.rng e[i+1] (List.getElem_mem _)
  have hno : ∀ y ∈ e, y ≤ e[i] ∨ e[i+1] ≤ y := fun y hy => by
    obtain ⟨j, hj, rfl⟩ := List.getElem_of_mem hy
    by_cases c : j ≤ i
    · left
      by_cases c' : j = i
      · subst c'; exact Int.le_refl _
      · have := (List.pairwise_iff_getElem.1 h.asc) j i hj (by omega) (by omega); omega
    · right
      by_cases c' : j = i + 1
      · subst c'; exact Int.le_refl _
      · have := (List.pairwise_iff_getElem.1 h.asc) (i+1) j hi hj (by omega); omega
  refine first_same fun x hx => ?_
  simp only [Row.has]
  by_cases hk : x.kind = k
  · have h1 := h.fr x hx hk
    have h2 := h.to x hx hk
    have h3 := fun a b => hno _ (h1 a b)
    have h4 := fun a b => hno _ (h2 a b)
    simp only [hk, decide_true, Bool.true_and]
    have e1 : (x.fr ≤ e[i]) ↔ (x.fr ≤ e[i+1] - 1) := by
      constructor
      · intro; omega
      · intro hh
        by_cases c : 0 ≤ x.fr
        · rcases h3 c (by omega) with h | h <;> omega
        · omega
    have e2 : (e[i] ≤ x.to) ↔ (e[i+1] - 1 ≤ x.to) := by
      constructor
      · intro hh
        by_cases c : x.to < 1114111
        · rcases h4 (by omega) c with h | h <;> omega
        · omega
      · intro; omega
    rw [decide_eq_decide.2 e1, decide_eq_decide.2 e2]
  · simp [hk]
/-- One number more, in order. -/
structure AddOK (l : List Int) (n : Int) (i : Nat) (done : Bool) (out : List Int) : Prop where
  asc : Asc out
  mem : ∀ x, x ∈ out ↔ x ∈ l.take i ∨ (done = true ∧ x = n)
  len : out.length ≤ i + 1
  fresh : done = false → ∀ x ∈ l.take i, x < n
  past : done = true → ∀ x ∈ l.drop i, n < x
theorem asc_snoc {l : List Int} {x : Int} (h : Asc l) (hx : ∀ y ∈ l, y < x) : Asc (l ++ [x]) :=
  List.pairwise_append.2 ⟨h, by simp, fun y hy z hz => by simp at hz; subst hz; exact hx y hy⟩
theorem take_one {α : Type} {l : List α} {i : Nat} (h : i < l.length) : l.take (i + 1) = l.take i ++ [l[i]] := by
  rw [List.take_add_one, List.getElem?_eq_getElem h]; rfl
theorem asc_split {l : List Int} (h : Asc l) {i : Nat} (hi : i < l.length) : (∀ y ∈ l.take i, y < l[i]) ∧ ∀ y ∈ l.drop (i + 1), l[i] < y := by
  have e : l = l.take i ++ l[i] :: l.drop (i + 1) := by rw [List.getElem_cons_drop]; simp
  have h' : Asc (l.take i ++ l[i] :: l.drop (i + 1)) := e ▸ h
  have := List.pairwise_append.1 h'
  exact ⟨fun y hy => this.2.2 y hy _ List.mem_cons_self, fun y hy => List.rel_of_pairwise_cons this.2.1 hy⟩
theorem AddOK.both {l : List Int} {n : Int} {i : Nat} {out : List Int} (hl : Asc l) (hi : i < l.length) (h : AddOK l n i false out) (hn : n < l[i]) : AddOK l n (i + 1) true (out ++ [n] ++ [l[i]]) := by
  obtain ⟨s1, s2⟩ := asc_split hl hi
  have hm : ∀ y ∈ out, y < n := fun y hy => by
    rcases (h.mem y).1 hy with h1 | h1
    · exact h.fresh rfl y h1
    · cases h1.1
  refine ⟨asc_snoc (asc_snoc h.asc hm) fun y hy => ?_, fun x => ?_, ?_, fun h => (by cases h), fun _ x hx => by have := s2 x hx; omega⟩
  · rcases List.mem_append.1 hy with hy | hy
    · have := hm y hy; omega
    · simp at hy; subst hy; exact hn
  · rw [take_one hi]
    simp only [List.mem_append, List.mem_singleton, h.mem, Bool.false_eq_true, false_and, or_false, true_and]
    constructor
    · rintro ((a | a) | a)
      · exact .inl (.inl a)
      · exact .inr a
      · exact .inl (.inr a)
    · rintro ((a | a) | a)
      · exact .inl (.inl a)
      · exact .inr a
      · exact .inl (.inr a)
  · have hnd : out.length = (l.take i).length := by
      have h1 : ∀ x, x ∈ out ↔ x ∈ l.take i := fun x => by rw [h.mem]; simp
      have h2 : out.Nodup := h.asc.imp fun h => by omega
      have h3 : (l.take i).Nodup := (hl.sublist (List.take_sublist i l)).imp fun h => by omega
      exact (List.perm_iff_count.2 fun a => by rw [h2.count, h3.count]; simp [h1]).length_eq
    simp at hnd ⊢; omega
theorem AddOK.one {l : List Int} {n : Int} {i : Nat} {done : Bool} {out : List Int} (hl : Asc l) (hi : i < l.length) (h : AddOK l n i done out) (hn : done = false → l[i] < n) : AddOK l n (i + 1) done (out ++ [l[i]]) := by
  obtain ⟨s1, s2⟩ := asc_split hl hi
  refine ⟨asc_snoc h.asc fun y hy => ?_, fun x => ?_, by have := h.len; simp; omega, fun hd x hx => ?_, fun hd x hx => ?_⟩
  · rcases (h.mem y).1 hy with hy | ⟨hd, rfl⟩
    · exact s1 y hy
    · exact h.past hd _ (by rw [List.drop_eq_getElem_cons hi]; exact List.mem_cons_self)
  · rw [take_one hi]
    simp only [List.mem_append, List.mem_singleton, h.mem]
    constructor
    · rintro ((a | a) | a)
      · exact .inl (.inl a)
      · exact .inr a
      · exact .inl (.inr a)
    · rintro ((a | a) | a)
      · exact .inl (.inl a)
      · exact .inr a
      · exact .inl (.inr a)
  · rw [take_one hi] at hx
    rcases List.mem_append.1 hx with hx | hx
    · exact h.fresh hd x hx
    · simp at hx; subst hx; exact hn hd
  · exact h.past hd x (by rw [List.drop_eq_getElem_cons hi]; exact List.mem_cons_of_mem _ hx)
theorem EdgeOK.add {k : Int} {rows : List Row} {e : List Int} (h : EdgeOK k rows e) {n : Int} {e' : List Int} (ha : Asc e') (hm : ∀ x, x ∈ e' ↔ x ∈ e ∨ (x = n ∧ 0 ≤ n ∧ n ≤ 1114111)) : EdgeOK k rows e' :=
  ⟨ha, (hm 0).2 (.inl h.lo), (hm _).2 (.inl h.hi), fun x hx => by
    rcases (hm x).1 hx with h1 | h1
    · exact h.rng x h1
    · omega, fun x hx a b c => (hm _).2 (.inl (h.fr x hx a b c)), fun x hx a b c => (hm _).2 (.inl (h.to x hx a b c))⟩
end Go.Eng.Rows
set_option linter.unusedVariables false
set_option linter.unusedSimpArgs false
set_option maxRecDepth 100000
set_option linter.constructorNameAsVariable false
namespace Go.Eng
open Go Go.Proofs Go.Eng.Rows
/-- Where the first row is that has a number. -/
def FindOK (rows : List Row) (k r m : Int) : Prop :=
  (m = -1 ∧ (0 ≤ r → r ≤ 1114111 → first rows k r = none)) ∨ (0 ≤ m ∧ ∃ h : m.toNat < rows.length, (0 ≤ r ∧ r ≤ 1114111) ∧ first rows k r = some (rows[m.toNat].a, rows[m.toNat].b))
theorem first_none {rows : List Row} {k r : Int} (h : ∀ x ∈ rows, x.has k r = false) : first rows k r = none := by
  unfold first
  rw [List.find?_eq_none.2 fun x hx => by simp [h x hx]]
  rfl
theorem first_at {rows : List Row} {k r : Int} {i : Nat} (hi : i < rows.length) (hb : ∀ x ∈ rows.take i, x.has k r = false) (h : rows[i].has k r = true) : first rows k r = some (rows[i].a, rows[i].b) := by
  unfold first
  have e : rows = rows.take i ++ rows[i] :: rows.drop (i + 1) := by rw [List.getElem_cons_drop]; simp
  rw [show (rows.find? fun x => x.has k r) = some rows[i] by
    conv => lhs; rw [e]
    rw [List.find?_append, List.find?_eq_none.2 fun x hx => by simp [hb x hx]]
    simp only [List.find?_cons, h, Option.none_or]]
  rfl
theorem p33 (n f : Bool) (rows : List Row) (k r : Int) (hl : rows.length < 4611686018427387904) : PCall Try.prog 85 [.sl n f (rws rows), .int .i64 k, .int .i64 r] fun v => ∃ m, v = .int .i64 m ∧ FindOK rows k r m := by
  refine a_typebarref02_Find _ _ _ _ _ (fun i => 0 ≤ i ∧ i ≤ rows.length ∧ ∀ x ∈ rows.take i.toNat, x.has k r = false) (fun i => rows.length - i.toNat) ?_
  unfold r_typebarref02_Find
  refine iteD (fun h => ?_) (fun h => ?_)
  · simp only [Bool.or_eq_true, decide_eq_true_eq, gt_iff_lt] at h
    exact ⟨_, rfl, .inl ⟨rfl, fun a b => by omega⟩⟩
  · simp only [Bool.or_eq_true, decide_eq_true_eq, gt_iff_lt] at h
    refine ⟨⟨rfl, Int.le_refl _, by omega, fun x hx => by simp at hx⟩, ?_⟩
    rintro i ⟨i0, i1, hb⟩
    refine iteD (fun hc => ?_) (fun hc => ?_)
    · simp only [decide_eq_true_eq, rws_len] at hc
      have hi : i.toNat < rows.length := by omega
      have hw : IntKind.i64.wrap (i + 1) = i + 1 := wrap_i64 (by omega) (by omega)
      have hn : (i + 1).toNat = i.toNat + 1 := by omega
      have hg : (rws rows).getD i.toNat [] = encR rows[i.toNat] := getD_map hi
      have hix : idxOK (rws rows) i 5 := idxOK_map encR_len i0 hc
      have hmu : rows.length - (i + 1).toNat < rows.length - i.toNat := by omega
      have hnx : rows[i.toNat].has k r = false → 0 ≤ i + 1 ∧ i + 1 ≤ rows.length ∧ ∀ x ∈ rows.take (i + 1).toNat, x.has k r = false := fun hh => by
        refine ⟨by omega, by omega, fun x hx => ?_⟩
        rw [hn, take_snoc hi] at hx
        rcases List.mem_append.1 hx with hx | hx
        · exact hb x hx
        · simp only [List.mem_singleton] at hx; subst hx; exact hh
      simp only [hw]
      refine ⟨hix, rows[i.toNat].kind, by rw [hg]; rfl, ?_⟩
      refine iteD (fun h1 => ?_) (fun h1 => ⟨rfl, hnx (by simp [Row.has]; intro a; simp [a] at h1), hmu⟩)
      simp only [beq_iff_eq] at h1
      refine ⟨hix, rows[i.toNat].fr, by rw [hg]; rfl, ?_⟩
      refine iteD (fun h2 => ?_) (fun h2 => ⟨rfl, hnx (by simp only [decide_eq_true_eq] at h2; simp [Row.has, h2]), hmu⟩)
      simp only [decide_eq_true_eq] at h2
      refine ⟨hix, rows[i.toNat].to, by rw [hg]; rfl, ?_⟩
      refine iteD (fun h3 => ?_) (fun h3 => ⟨rfl, hnx (by simp only [decide_eq_true_eq] at h3; simp [Row.has, h3]), hmu⟩)
      simp only [decide_eq_true_eq] at h3
      exact ⟨_, rfl, .inr ⟨i0, hi, ⟨by omega, by omega⟩, first_at hi hb (by simp [Row.has, h1, h2, h3])⟩⟩
    · simp only [decide_eq_true_eq, rws_len] at hc
      rw [List.take_of_length_le (by omega)] at hb
      exact ⟨_, rfl, .inl ⟨rfl, fun _ _ => first_none hb⟩⟩
def cmpAt (x : Sp) (t : Int) : Int := if x.to < t then -1 else if t < x.fr then 1 else 0
theorem p67 (x : Sp) (t : Int) : PCall Try.prog 95 [.agg (encS x), .int .i64 t] fun v => v = .int .i64 (cmpAt x t) := by
  refine a_rows_At_1 _ _ _ _ _ ?_; unfold r_rows_At_1
  refine iteD (fun h => ?_) (fun h => iteD (fun h' => ?_) (fun h' => ?_)) <;> simp only [decide_eq_true_eq, gt_iff_lt] at *
  · simp [cmpAt, h]
  · simp [cmpAt, h, h']
  · simp [cmpAt, h, h']
theorem mid_ok {i j : Int} (h0 : 0 ≤ i) (h1 : i ≤ j) (h2 : j ≤ 4611686018427387904 - 1) : IntKind.i64.wrap ((IntKind.u64.wrap (IntKind.i64.wrap (i + j))).fdiv (2 ^ 1)) = (i + j) / 2 := by
  have e1 : IntKind.i64.wrap (i + j) = i + j := wrap_i64 (by omega) (by omega)
  have e2 : IntKind.u64.wrap (i + j) = i + j := by
    unfold IntKind.wrap
    simp only [IntKind.bits, IntKind.signed, Bool.false_and, Bool.false_eq_true, if_false]
    exact Int.emod_eq_of_lt (by omega) (by omega)
  rw [e1, e2, Int.fdiv_eq_ediv_of_nonneg _ (by decide)]
  exact wrap_i64 (by omega) (by omega)
theorem p66 (n f : Bool) (l : List Sp) (t : Int) (hl : Rows.Good l) : PCall Try.prog 94 [.sl n f (sps l), .int .i64 t, .fn 95 []] fun v => ∃ m q, v = .tup [.int .i64 m, .bool q] ∧ (q = true → 0 ≤ m ∧ ∃ h : m.toNat < l.length, l[m.toNat].has t) ∧ (q = false → ∀ x ∈ l, ¬ x.has t) := by
  refine a_slices_BinarySearchFunc_rows_Span_rows_Span_int _ _ _ _ (fun i j => 0 ≤ i ∧ i ≤ j ∧ j ≤ l.length ∧ (∀ k (h : k < l.length), (k : Int) < i → l[k].to < t) ∧ (∀ k (h : k < l.length), j ≤ (k : Int) → ¬ l[k].to < t)) (fun i j => (j - i).toNat) ?_
  unfold r_slices_BinarySearchFunc_rows_Span_rows_Span_int
  have hll := hl.len
  have hmono : ∀ a b (ha : a < l.length) (hb : b < l.length), a ≤ b → l[a].to ≤ l[b].to := fun a b ha hb h => by
    by_cases e : a = b
    · subst e; exact Int.le_refl _
    · have := (List.pairwise_iff_getElem.1 hl.1) a b ha hb (by omega)
      have := hl.2 l[b] (List.getElem_mem hb)
      omega
  refine ⟨⟨by simp only [sps_len]; rfl, Int.le_refl _, by simp only [sps_len]; omega, by simp only [sps_len]; omega, fun k h hk => by omega, fun k h hk => by simp only [sps_len] at hk; omega⟩, ?_⟩
  rintro i j ⟨i0, ij, jn, hlo, hhi⟩
  refine iteD (fun hc => ?_) (fun hc => ?_)
  · simp only [decide_eq_true_eq] at hc
    have hm := mid_ok i0 ij (by omega)
    simp only [hm]
    have hmi : ((i + j) / 2).toNat < l.length := by omega
    have hg : (sps l).getD ((i + j) / 2).toNat [] = encS l[((i + j) / 2).toNat] := getD_map hmi
    have hw : IntKind.i64.wrap ((i + j) / 2 + 1) = (i + j) / 2 + 1 := wrap_i64 (by omega) (by omega)
    refine ⟨idxOK_map encS_len (by omega) (by omega), l[((i + j) / 2).toNat].fr, by rw [hg]; rfl, l[((i + j) / 2).toNat].to, by rw [hg]; rfl, l[((i + j) / 2).toNat].a, by rw [hg]; rfl, l[((i + j) / 2).toNat].b, by rw [hg]; rfl, ?_⟩
    refine (p67 l[((i + j) / 2).toNat] t).mono ?_
    rintro _ rfl
    refine ⟨_, rfl, ?_⟩
    simp only [hw]
    refine iteD (fun hq => ?_) (fun hq => ?_)
    · simp only [decide_eq_true_eq] at hq
      have hlt : l[((i + j) / 2).toNat].to < t := by
        unfold cmpAt at hq
        split at hq
        · assumption
        · split at hq <;> omega
      refine ⟨rfl, ⟨by omega, by omega, jn, fun k h hk => ?_, hhi⟩, by omega⟩
      have := hmono k ((i + j) / 2).toNat h hmi (by omega)
      omega
    · simp only [decide_eq_true_eq] at hq
      have hlt : ¬ l[((i + j) / 2).toNat].to < t := by
        intro h
        unfold cmpAt at hq
        rw [if_pos h] at hq
        omega
      refine ⟨rfl, ⟨i0, by omega, by omega, hlo, fun k h hk => ?_⟩, by omega⟩
      have := hmono ((i + j) / 2).toNat k hmi h (by omega)
      omega
  · simp only [decide_eq_true_eq] at hc
    have e : i = j := by omega
    subst e
    have hno : (∀ h : i.toNat < l.length, ¬ l[i.toNat].has t) → ∀ x ∈ l, ¬ x.has t := fun hn x hx => by
      obtain ⟨k, hk, rfl⟩ := List.getElem_of_mem hx
      by_cases c : (k : Int) < i
      · have := hlo k hk c
        intro hh; have := hh.2; omega
      · by_cases c' : (k : Int) = i
        · have e : k = i.toNat := by omega
          subst e; exact hn hk
        · have h1 := hhi i.toNat (by omega) (by omega)
          have h2 := (List.pairwise_iff_getElem.1 hl.1) i.toNat k (by omega) hk (by omega)
          intro hh; have := hh.1; omega
    refine iteD (fun hq => ?_) (fun hq => ?_)
    · simp only [decide_eq_true_eq, sps_len] at hq
      have hi : i.toNat < l.length := by omega
      have hg : (sps l).getD i.toNat [] = encS l[i.toNat] := getD_map hi
      have h1 := hhi i.toNat hi (by omega)
      refine ⟨idxOK_map encS_len i0 hq, l[i.toNat].fr, by rw [hg]; rfl, l[i.toNat].to, by rw [hg]; rfl, l[i.toNat].a, by rw [hg]; rfl, l[i.toNat].b, by rw [hg]; rfl, ?_⟩
      refine (p67 l[i.toNat] t).mono ?_
      rintro _ rfl
      refine ⟨_, rfl, _, _, rfl, fun hq => ?_, fun hq => hno fun hi' => ?_⟩
      · simp only [cmpAt, if_neg h1, beq_iff_eq] at hq
        refine ⟨i0, hi, ?_, by omega⟩
        by_cases c : t < l[i.toNat].fr
        · rw [if_pos c] at hq; cases hq
        · omega
      · intro hh
        have h2 := hh.1
        simp only [cmpAt, if_neg h1, if_neg (show ¬ t < l[i.toNat].fr by omega)] at hq
        simp at hq
    · simp only [decide_eq_true_eq, sps_len] at hq
      exact ⟨_, _, rfl, fun h => (by cases h), fun _ => hno fun hi => absurd hi (by omega)⟩
theorem p34 (n f : Bool) (l : List Sp) (r : Int) (hl : Rows.Good l) (hr : -2147483648 ≤ r ∧ r ≤ 2147483647) : PCall Try.prog 71 [.sl n f (sps l), .int .i32 r] fun v => ∃ x q, v = .tup [.agg (encS x), .bool q] ∧ (q = true → x ∈ l ∧ x.has r) ∧ (q = false → x = ⟨0, 0, 0, 0⟩ ∧ ∀ x ∈ l, ¬ x.has r) := by
  refine a_rows_At _ _ _ _ ?_; unfold r_rows_At
  have hw : IntKind.i64.wrap r = r := wrap_i64 (by omega) (by omega)
  rw [hw]
  refine (p66 n f l r hl).mono ?_
  rintro _ ⟨m, q, rfl, h1, h2⟩
  refine ⟨_, rfl, rfl, _, rfl, _, rfl, _, rfl, _, rfl, ?_⟩
  cases q with
  | false => exact ⟨⟨0, 0, 0, 0⟩, false, rfl, fun h => (by cases h), fun _ => ⟨rfl, h2 rfl⟩⟩
  | true =>
    obtain ⟨m0, hm, hh⟩ := h1 rfl
    have hg : (sps l).getD m.toNat [] = encS l[m.toNat] := getD_map hm
    exact ⟨idxOK_map encS_len m0 (by omega), l[m.toNat].fr, by rw [hg]; rfl, l[m.toNat].to, by rw [hg]; rfl, l[m.toNat].a, by rw [hg]; rfl, l[m.toNat].b, by rw [hg]; rfl, l[m.toNat], true, rfl, fun _ => ⟨List.getElem_mem _, hh⟩, fun h => (by cases h)⟩
end Go.Eng
set_option linter.unusedVariables false
set_option linter.unusedSimpArgs false
set_option maxRecDepth 100000
set_option linter.constructorNameAsVariable false
namespace Go.Eng
open Go Go.Proofs Go.Eng.Rows
def tab72 : List Row := [⟨1, 768, 788, 230, 0⟩, ⟨1, 789, 789, 232, 0⟩, ⟨1, 790, 793, 220, 0⟩, ⟨1, 794, 794, 232, 0⟩, ⟨1, 795, 795, 216, 0⟩, ⟨1, 796, 800, 220, 0⟩, ⟨1, 801, 802, 202, 0⟩, ⟨1, 803, 806, 220, 0⟩, ⟨1, 807, 808, 202, 0⟩, ⟨1, 809, 819, 220, 0⟩, ⟨1, 820, 824, 1, 0⟩, ⟨1, 825, 828, 220, 0⟩, ⟨1, 829, 836, 230, 0⟩, ⟨1, 837, 837, 240, 0⟩, ⟨1, 838, 838, 230, 0⟩, ⟨1, 839, 841, 220, 0⟩, ⟨1, 842, 844, 230, 0⟩, ⟨1, 845, 846, 220, 0⟩, ⟨1, 848, 850, 230, 0⟩, ⟨1, 851, 854, 220, 0⟩, ⟨1, 855, 855, 230, 0⟩, ⟨1, 856, 856, 232, 0⟩, ⟨1, 857, 858, 220, 0⟩, ⟨1, 859, 859, 230, 0⟩, ⟨1, 860, 860, 233, 0⟩, ⟨1, 861, 862, 234, 0⟩, ⟨1, 863, 863, 233, 0⟩, ⟨1, 864, 865, 234, 0⟩, ⟨1, 866, 866, 233, 0⟩, ⟨1, 867, 879, 230, 0⟩, ⟨1, 1155, 1159, 230, 0⟩, ⟨1, 1456, 1456, 10, 0⟩, ⟨1, 1457, 1457, 11, 0⟩, ⟨1, 1458, 1458, 12, 0⟩, ⟨1, 1459, 1459, 13, 0⟩, ⟨1, 1460, 1460, 14, 0⟩, ⟨1, 1461, 1461, 15, 0⟩, ⟨1, 1462, 1462, 16, 0⟩, ⟨1, 1463, 1463, 17, 0⟩, ⟨1, 1464, 1464, 18, 0⟩, ⟨1, 1465, 1466, 19, 0⟩, ⟨1, 1467, 1467, 20, 0⟩, ⟨1, 1468, 1468, 21, 0⟩, ⟨1, 1469, 1469, 22, 0⟩, ⟨1, 1471, 1471, 23, 0⟩, ⟨1, 1473, 1473, 24, 0⟩, ⟨1, 1474, 1474, 25, 0⟩, ⟨1, 1479, 1479, 18, 0⟩, ⟨1, 1611, 1611, 27, 0⟩, ⟨1, 1612, 1612, 28, 0⟩, ⟨1, 1613, 1613, 29, 0⟩, ⟨1, 1614, 1614, 30, 0⟩, ⟨1, 1615, 1615, 31, 0⟩, ⟨1, 1616, 1616, 32, 0⟩, ⟨1, 1617, 1617, 33, 0⟩, ⟨1, 1618, 1618, 34, 0⟩, ⟨1, 1619, 1620, 230, 0⟩, ⟨1, 1621, 1622, 220, 0⟩, ⟨1, 1648, 1648, 35, 0⟩, ⟨1, 2364, 2364, 7, 0⟩, ⟨1, 2381, 2381, 9, 0⟩, ⟨1, 2385, 2385, 230, 0⟩, ⟨1, 2386, 2386, 220, 0⟩, ⟨1, 2387, 2388, 230, 0⟩, ⟨1, 2492, 2492, 7, 0⟩, ⟨1, 2509, 2509, 9, 0⟩, ⟨1, 3021, 3021, 9, 0⟩, ⟨1, 3640, 3641, 103, 0⟩, ⟨1, 3642, 3642, 9, 0⟩, ⟨1, 3656, 3659, 107, 0⟩, ⟨1, 3953, 3953, 129, 0⟩, ⟨1, 3954, 3954, 130, 0⟩, ⟨1, 3956, 3956, 132, 0⟩, ⟨1, 8400, 8401, 230, 0⟩, ⟨1, 8402, 8403, 1, 0⟩, ⟨1, 8404, 8407, 230, 0⟩, ⟨1, 8411, 8412, 230, 0⟩, ⟨1, 8417, 8417, 230, 0⟩, ⟨1, 8424, 8424, 220, 0⟩, ⟨1, 12441, 12442, 8, 0⟩, ⟨1, 65056, 65062, 230, 0⟩, ⟨1, 119141, 119141, 216, 0⟩]
theorem p72 : PCall Try.prog 37 [] fun v => v = .sl false true (rws tab72) := by
  refine a_api_classes ?_; unfold r_api_classes; rfl
def tab73 : List Row := [⟨2, 192, 192, 65, 768⟩, ⟨2, 193, 193, 65, 769⟩, ⟨2, 194, 194, 65, 770⟩, ⟨2, 195, 195, 65, 771⟩, ⟨2, 196, 196, 65, 776⟩, ⟨2, 197, 197, 65, 778⟩, ⟨2, 199, 199, 67, 807⟩, ⟨2, 200, 200, 69, 768⟩, ⟨2, 201, 201, 69, 769⟩, ⟨2, 202, 202, 69, 770⟩, ⟨2, 203, 203, 69, 776⟩, ⟨2, 204, 204, 73, 768⟩, ⟨2, 205, 205, 73, 769⟩, ⟨2, 206, 206, 73, 770⟩, ⟨2, 207, 207, 73, 776⟩, ⟨2, 209, 209, 78, 771⟩, ⟨2, 210, 210, 79, 768⟩, ⟨2, 211, 211, 79, 769⟩, ⟨2, 212, 212, 79, 770⟩, ⟨2, 213, 213, 79, 771⟩, ⟨2, 214, 214, 79, 776⟩, ⟨2, 217, 217, 85, 768⟩, ⟨2, 218, 218, 85, 769⟩, ⟨2, 219, 219, 85, 770⟩, ⟨2, 220, 220, 85, 776⟩, ⟨2, 221, 221, 89, 769⟩, ⟨2, 224, 224, 97, 768⟩, ⟨2, 225, 225, 97, 769⟩, ⟨2, 226, 226, 97, 770⟩, ⟨2, 227, 227, 97, 771⟩, ⟨2, 228, 228, 97, 776⟩, ⟨2, 229, 229, 97, 778⟩, ⟨2, 231, 231, 99, 807⟩, ⟨2, 232, 232, 101, 768⟩, ⟨2, 233, 233, 101, 769⟩, ⟨2, 234, 234, 101, 770⟩, ⟨2, 235, 235, 101, 776⟩, ⟨2, 236, 236, 105, 768⟩, ⟨2, 237, 237, 105, 769⟩, ⟨2, 238, 238, 105, 770⟩, ⟨2, 239, 239, 105, 776⟩, ⟨2, 241, 241, 110, 771⟩, ⟨2, 242, 242, 111, 768⟩, ⟨2, 243, 243, 111, 769⟩, ⟨2, 244, 244, 111, 770⟩, ⟨2, 245, 245, 111, 771⟩, ⟨2, 246, 246, 111, 776⟩, ⟨2, 249, 249, 117, 768⟩, ⟨2, 250, 250, 117, 769⟩, ⟨2, 251, 251, 117, 770⟩, ⟨2, 252, 252, 117, 776⟩, ⟨2, 253, 253, 121, 769⟩, ⟨2, 255, 255, 121, 776⟩, ⟨2, 256, 256, 65, 772⟩, ⟨2, 257, 257, 97, 772⟩, ⟨2, 258, 258, 65, 774⟩, ⟨2, 259, 259, 97, 774⟩, ⟨2, 260, 260, 65, 808⟩, ⟨2, 261, 261, 97, 808⟩, ⟨2, 262, 262, 67, 769⟩, ⟨2, 263, 263, 99, 769⟩, ⟨2, 268, 268, 67, 780⟩, ⟨2, 269, 269, 99, 780⟩, ⟨2, 274, 274, 69, 772⟩, ⟨2, 275, 275, 101, 772⟩, ⟨2, 280, 280, 69, 808⟩, ⟨2, 281, 281, 101, 808⟩, ⟨2, 304, 304, 73, 775⟩, ⟨2, 323, 323, 78, 769⟩, ⟨2, 324, 324, 110, 769⟩, ⟨2, 352, 352, 83, 780⟩, ⟨2, 353, 353, 115, 780⟩, ⟨2, 381, 381, 90, 780⟩, ⟨2, 382, 382, 122, 780⟩, ⟨2, 416, 416, 79, 795⟩, ⟨2, 417, 417, 111, 795⟩, ⟨2, 431, 431, 85, 795⟩, ⟨2, 432, 432, 117, 795⟩, ⟨2, 469, 469, 220, 772⟩, ⟨2, 470, 470, 252, 772⟩, ⟨2, 471, 471, 220, 769⟩, ⟨2, 472, 472, 252, 769⟩, ⟨2, 480, 480, 550, 772⟩, ⟨2, 481, 481, 551, 772⟩, ⟨2, 550, 550, 65, 775⟩, ⟨2, 551, 551, 97, 775⟩, ⟨2, 832, 832, 768, 0⟩, ⟨2, 833, 833, 769, 0⟩, ⟨2, 835, 835, 787, 0⟩, ⟨2, 836, 836, 776, 769⟩, ⟨2, 884, 884, 697, 0⟩, ⟨2, 894, 894, 59, 0⟩, ⟨2, 901, 901, 168, 769⟩, ⟨2, 902, 902, 913, 769⟩, ⟨2, 903, 903, 183, 0⟩, ⟨2, 904, 904, 917, 769⟩, ⟨2, 912, 912, 970, 769⟩, ⟨2, 940, 940, 945, 769⟩, ⟨2, 941, 941, 949, 769⟩, ⟨2, 944, 944, 971, 769⟩, ⟨2, 970, 970, 953, 776⟩, ⟨2, 971, 971, 965, 776⟩, ⟨2, 2345, 2345, 2344, 2364⟩, ⟨2, 2353, 2353, 2352, 2364⟩, ⟨2, 2356, 2356, 2355, 2364⟩, ⟨2, 2392, 2392, 2325, 2364⟩, ⟨2, 2393, 2393, 2326, 2364⟩, ⟨2, 2396, 2396, 2337, 2364⟩, ⟨2, 2507, 2507, 2503, 2494⟩, ⟨2, 2508, 2508, 2503, 2519⟩, ⟨2, 3018, 3018, 3014, 3006⟩, ⟨2, 3955, 3955, 3953, 3954⟩, ⟨2, 3957, 3957, 3953, 3956⟩, ⟨2, 7692, 7692, 68, 803⟩, ⟨2, 7693, 7693, 100, 803⟩, ⟨2, 7776, 7776, 83, 775⟩, ⟨2, 7777, 7777, 115, 775⟩, ⟨2, 7778, 7778, 83, 803⟩, ⟨2, 7779, 7779, 115, 803⟩, ⟨2, 7784, 7784, 7778, 775⟩, ⟨2, 7785, 7785, 7779, 775⟩, ⟨2, 7840, 7840, 65, 803⟩, ⟨2, 7841, 7841, 97, 803⟩, ⟨2, 7842, 7842, 65, 777⟩, ⟨2, 7843, 7843, 97, 777⟩, ⟨2, 7844, 7844, 194, 769⟩, ⟨2, 7845, 7845, 226, 769⟩, ⟨2, 7846, 7846, 194, 768⟩, ⟨2, 7847, 7847, 226, 768⟩, ⟨2, 7848, 7848, 194, 777⟩, ⟨2, 7849, 7849, 226, 777⟩, ⟨2, 7850, 7850, 194, 771⟩, ⟨2, 7851, 7851, 226, 771⟩, ⟨2, 7852, 7852, 7840, 770⟩, ⟨2, 7853, 7853, 7841, 770⟩, ⟨2, 7854, 7854, 258, 769⟩, ⟨2, 7855, 7855, 259, 769⟩, ⟨2, 7856, 7856, 258, 768⟩, ⟨2, 7857, 7857, 259, 768⟩, ⟨2, 7858, 7858, 258, 777⟩, ⟨2, 7859, 7859, 259, 777⟩, ⟨2, 7860, 7860, 258, 771⟩, ⟨2, 7861, 7861, 259, 771⟩, ⟨2, 7862, 7862, 7840, 774⟩, ⟨2, 7863, 7863, 7841, 774⟩, ⟨2, 7884, 7884, 79, 803⟩, ⟨2, 7885, 7885, 111, 803⟩, ⟨2, 7896, 7896, 7884, 770⟩, ⟨2, 7897, 7897, 7885, 770⟩, ⟨2, 7936, 7936, 945, 787⟩, ⟨2, 7937, 7937, 945, 788⟩, ⟨2, 7938, 7938, 7936, 768⟩, ⟨2, 7939, 7939, 7937, 768⟩, ⟨2, 8049, 8049, 940, 0⟩, ⟨2, 8064, 8064, 7936, 837⟩, ⟨2, 8115, 8115, 945, 837⟩, ⟨2, 8486, 8486, 937, 0⟩, ⟨2, 8490, 8490, 75, 0⟩, ⟨2, 8491, 8491, 197, 0⟩, ⟨2, 8800, 8800, 61, 824⟩, ⟨2, 8814, 8814, 60, 824⟩, ⟨2, 10972, 10972, 10973, 824⟩, ⟨2, 12364, 12364, 12363, 12441⟩, ⟨2, 12366, 12366, 12365, 12441⟩, ⟨2, 12400, 12400, 12399, 12441⟩, ⟨2, 12401, 12401, 12399, 12442⟩, ⟨2, 12460, 12460, 12459, 12441⟩, ⟨2, 12497, 12497, 12495, 12442⟩, ⟨2, 12532, 12532, 12454, 12441⟩, ⟨2, 63744, 63744, 35912, 0⟩, ⟨2, 63745, 63745, 26356, 0⟩, ⟨2, 64285, 64285, 1497, 1460⟩, ⟨2, 64287, 64287, 1522, 1463⟩, ⟨2, 64298, 64298, 1513, 1473⟩, ⟨2, 64299, 64299, 1513, 1474⟩, ⟨2, 64300, 64300, 64329, 1473⟩, ⟨2, 64329, 64329, 1513, 1468⟩, ⟨2, 119134, 119134, 119127, 119141⟩]
theorem p73 : PCall Try.prog 38 [] fun v => v = .sl false true (rws tab73) := by
  refine a_api_pairs ?_; unfold r_api_pairs; rfl
def tab74 : List Row := [⟨3, 2392, 2393, 1, 0⟩, ⟨3, 2396, 2396, 1, 0⟩, ⟨3, 10972, 10972, 1, 0⟩, ⟨3, 64285, 64285, 1, 0⟩, ⟨3, 64287, 64287, 1, 0⟩, ⟨3, 64298, 64300, 1, 0⟩, ⟨3, 64329, 64329, 1, 0⟩, ⟨3, 119134, 119134, 1, 0⟩]
theorem p74 : PCall Try.prog 39 [] fun v => v = .sl false true (rws tab74) := by
  refine a_api_outs ?_; unfold r_api_outs; rfl
def tab75 : List Row := [⟨4, 0, 9, 3, 0⟩, ⟨4, 10, 10, 2, 0⟩, ⟨4, 11, 12, 3, 0⟩, ⟨4, 13, 13, 1, 0⟩, ⟨4, 14, 31, 3, 0⟩, ⟨4, 127, 159, 3, 0⟩, ⟨4, 173, 173, 3, 0⟩, ⟨4, 768, 879, 4, 0⟩, ⟨4, 1155, 1161, 4, 0⟩, ⟨4, 1425, 1469, 4, 0⟩, ⟨4, 1471, 1471, 4, 0⟩, ⟨4, 1473, 1474, 4, 0⟩, ⟨4, 1479, 1479, 4, 0⟩, ⟨4, 1536, 1541, 7, 0⟩, ⟨4, 1611, 1631, 4, 0⟩, ⟨4, 1648, 1648, 4, 0⟩, ⟨4, 1757, 1757, 7, 0⟩, ⟨4, 1807, 1807, 7, 0⟩, ⟨4, 2307, 2307, 8, 0⟩, ⟨4, 2362, 2362, 4, 0⟩, ⟨4, 2363, 2363, 8, 0⟩, ⟨4, 2364, 2364, 4, 0⟩, ⟨4, 2366, 2368, 8, 0⟩, ⟨4, 2369, 2376, 4, 0⟩, ⟨4, 2377, 2380, 8, 0⟩, ⟨4, 2381, 2381, 4, 0⟩, ⟨4, 2385, 2391, 4, 0⟩, ⟨4, 2434, 2435, 8, 0⟩, ⟨4, 2492, 2492, 4, 0⟩, ⟨4, 2494, 2494, 4, 0⟩, ⟨4, 2495, 2496, 8, 0⟩, ⟨4, 2503, 2504, 8, 0⟩, ⟨4, 2507, 2508, 8, 0⟩, ⟨4, 2509, 2509, 4, 0⟩, ⟨4, 2519, 2519, 4, 0⟩, ⟨4, 3006, 3006, 4, 0⟩, ⟨4, 3007, 3007, 8, 0⟩, ⟨4, 3014, 3016, 8, 0⟩, ⟨4, 3018, 3020, 8, 0⟩, ⟨4, 3021, 3021, 4, 0⟩, ⟨4, 3633, 3633, 4, 0⟩, ⟨4, 3635, 3635, 8, 0⟩, ⟨4, 3636, 3642, 4, 0⟩, ⟨4, 3655, 3662, 4, 0⟩, ⟨4, 3953, 3966, 4, 0⟩, ⟨4, 4352, 4447, 9, 0⟩, ⟨4, 4448, 4519, 10, 0⟩, ⟨4, 4520, 4607, 11, 0⟩, ⟨4, 8203, 8203, 3, 0⟩, ⟨4, 8204, 8204, 4, 0⟩, ⟨4, 8205, 8205, 5, 0⟩, ⟨4, 8206, 8207, 3, 0⟩, ⟨4, 8232, 8238, 3, 0⟩, ⟨4, 8288, 8303, 3, 0⟩, ⟨4, 8400, 8432, 4, 0⟩, ⟨4, 12330, 12335, 4, 0⟩, ⟨4, 12441, 12442, 4, 0⟩, ⟨4, 43360, 43388, 9, 0⟩, ⟨4, 55216, 55238, 10, 0⟩, ⟨4, 55243, 55291, 11, 0⟩, ⟨4, 65024, 65039, 4, 0⟩, ⟨4, 65056, 65071, 4, 0⟩, ⟨4, 65279, 65279, 3, 0⟩, ⟨4, 119141, 119141, 4, 0⟩, ⟨4, 127462, 127487, 6, 0⟩, ⟨4, 127995, 127999, 4, 0⟩, ⟨4, 917505, 917535, 3, 0⟩, ⟨4, 917536, 917631, 4, 0⟩, ⟨4, 917760, 917999, 4, 0⟩]
theorem p75 : PCall Try.prog 40 [] fun v => v = .sl false true (rws tab75) := by
  refine a_api_breaks ?_; unfold r_api_breaks; rfl
def tab76 : List Row := [⟨5, 169, 169, 1, 0⟩, ⟨5, 174, 174, 1, 0⟩, ⟨5, 8252, 8252, 1, 0⟩, ⟨5, 8265, 8265, 1, 0⟩, ⟨5, 8482, 8482, 1, 0⟩, ⟨5, 8505, 8505, 1, 0⟩, ⟨5, 8596, 8601, 1, 0⟩, ⟨5, 8617, 8618, 1, 0⟩, ⟨5, 8986, 8987, 1, 0⟩, ⟨5, 9193, 9203, 1, 0⟩, ⟨5, 9728, 9733, 1, 0⟩, ⟨5, 9735, 9746, 1, 0⟩, ⟨5, 9748, 9861, 1, 0⟩, ⟨5, 9872, 9989, 1, 0⟩, ⟨5, 9992, 10002, 1, 0⟩, ⟨5, 10084, 10087, 1, 0⟩, ⟨5, 127744, 127994, 1, 0⟩, ⟨5, 128000, 128317, 1, 0⟩, ⟨5, 128326, 128591, 1, 0⟩, ⟨5, 128640, 128767, 1, 0⟩, ⟨5, 129292, 129338, 1, 0⟩, ⟨5, 129351, 129791, 1, 0⟩]
theorem p76 : PCall Try.prog 41 [] fun v => v = .sl false true (rws tab76) := by
  refine a_api_picts ?_; unfold r_api_picts; rfl
def tab77 : List Row := [⟨6, 2325, 2361, 2, 0⟩, ⟨6, 2381, 2381, 1, 0⟩, ⟨6, 2392, 2399, 2, 0⟩, ⟨6, 2453, 2472, 2, 0⟩, ⟨6, 2509, 2509, 1, 0⟩]
theorem p77 : PCall Try.prog 42 [] fun v => v = .sl false true (rws tab77) := by
  refine a_api_conjs ?_; unfold r_api_conjs; rfl
def tab78 : List Row := [⟨7, 4352, 4447, 1, 0⟩, ⟨7, 8986, 8987, 1, 0⟩, ⟨7, 9193, 9196, 1, 0⟩, ⟨7, 9748, 9749, 1, 0⟩, ⟨7, 11904, 12350, 1, 0⟩, ⟨7, 12353, 13311, 1, 0⟩, ⟨7, 13312, 19903, 1, 0⟩, ⟨7, 19968, 40959, 1, 0⟩, ⟨7, 43360, 43388, 1, 0⟩, ⟨7, 44032, 55203, 1, 0⟩, ⟨7, 63744, 64255, 1, 0⟩, ⟨7, 65072, 65135, 1, 0⟩, ⟨7, 65281, 65376, 1, 0⟩, ⟨7, 65504, 65510, 1, 0⟩, ⟨7, 127744, 127994, 1, 0⟩, ⟨7, 128000, 128317, 1, 0⟩, ⟨7, 128326, 128591, 1, 0⟩, ⟨7, 128640, 128767, 1, 0⟩, ⟨7, 129292, 129338, 1, 0⟩, ⟨7, 129351, 129791, 1, 0⟩, ⟨7, 131072, 262141, 1, 0⟩]
theorem p78 : PCall Try.prog 43 [] fun v => v = .sl false true (rws tab78) := by
  refine a_api_wides ?_; unfold r_api_wides; rfl
def tab79 : List Row := [⟨8, 48, 57, 1, 0⟩, ⟨8, 65, 90, 1, 0⟩, ⟨8, 95, 95, 1, 0⟩, ⟨8, 97, 122, 1, 0⟩, ⟨8, 170, 170, 1, 0⟩, ⟨8, 181, 181, 1, 0⟩, ⟨8, 186, 186, 1, 0⟩, ⟨8, 192, 214, 1, 0⟩, ⟨8, 216, 246, 1, 0⟩, ⟨8, 248, 705, 1, 0⟩, ⟨8, 880, 883, 1, 0⟩, ⟨8, 886, 887, 1, 0⟩, ⟨8, 902, 902, 1, 0⟩, ⟨8, 904, 1023, 1, 0⟩, ⟨8, 1024, 1153, 1, 0⟩, ⟨8, 1162, 1327, 1, 0⟩, ⟨8, 1329, 1366, 1, 0⟩, ⟨8, 1488, 1514, 1, 0⟩, ⟨8, 1568, 1610, 1, 0⟩, ⟨8, 2308, 2361, 1, 0⟩, ⟨8, 2392, 2401, 1, 0⟩, ⟨8, 2437, 2489, 1, 0⟩, ⟨8, 3585, 3632, 1, 0⟩, ⟨8, 4352, 4607, 1, 0⟩, ⟨8, 7680, 8191, 1, 0⟩, ⟨8, 8486, 8486, 1, 0⟩, ⟨8, 8490, 8491, 1, 0⟩, ⟨8, 12353, 12438, 1, 0⟩, ⟨8, 12449, 12538, 1, 0⟩, ⟨8, 13312, 19903, 1, 0⟩, ⟨8, 19968, 40959, 1, 0⟩, ⟨8, 44032, 55203, 1, 0⟩, ⟨8, 63744, 64255, 1, 0⟩, ⟨8, 131072, 262141, 1, 0⟩]
theorem p79 : PCall Try.prog 44 [] fun v => v = .sl false true (rws tab79) := by
  refine a_api_letters ?_; unfold r_api_letters; rfl
def tab : List Row := tab72 ++ tab73 ++ tab74 ++ tab75 ++ tab76 ++ tab77 ++ tab78 ++ tab79
theorem rws_app (a b : List Row) : rws a ++ rws b = rws (a ++ b) := by simp [rws]
theorem p42 : PCall Try.prog 13 [] fun v => ∃ n f, v = .sl n f (rws tab) := by
  refine a_api_Rows ?_; unfold r_api_Rows
  have sz : ∀ l : List Row, szOK (rws l) 5 := fun l => szOK_map encR_len l
  refine p72.mono ?_; rintro _ rfl
  refine ⟨_, _, _, rfl, ⟨rfl, .inl rfl, by intro e he; simp at he, sz _, by simp [rws_len]; decide⟩, ?_⟩
  refine p73.mono ?_; rintro _ rfl
  refine ⟨_, _, _, rfl, ⟨sz _, by simp only [List.nil_append, rws_app, rws_len]; decide⟩, ?_⟩
  refine p74.mono ?_; rintro _ rfl
  refine ⟨_, _, _, rfl, ⟨sz _, by simp only [List.nil_append, rws_app, rws_len]; decide⟩, ?_⟩
  refine p75.mono ?_; rintro _ rfl
  refine ⟨_, _, _, rfl, ⟨sz _, by simp only [List.nil_append, rws_app, rws_len]; decide⟩, ?_⟩
  refine p76.mono ?_; rintro _ rfl
  refine ⟨_, _, _, rfl, ⟨sz _, by simp only [List.nil_append, rws_app, rws_len]; decide⟩, ?_⟩
  refine p77.mono ?_; rintro _ rfl
  refine ⟨_, _, _, rfl, ⟨sz _, by simp only [List.nil_append, rws_app, rws_len]; decide⟩, ?_⟩
  refine p78.mono ?_; rintro _ rfl
  refine ⟨_, _, _, rfl, ⟨sz _, by simp only [List.nil_append, rws_app, rws_len]; decide⟩, ?_⟩
  refine p79.mono ?_; rintro _ rfl
  refine ⟨_, _, _, rfl, ⟨sz _, by simp only [List.nil_append, rws_app, rws_len]; decide⟩, ?_⟩
  simp only [List.nil_append, rws_app]
  exact ⟨_, _, rfl⟩
theorem tab_len : tab.length < 1000 := by decide
end Go.Eng
set_option linter.unusedVariables false
set_option linter.unusedSimpArgs false
namespace Go.Eng.Trie
open Go Go.Eng
structure Pc (α : Type) where
  fr : Int
  to : Int
  v : α
variable {α : Type}
def findL : List (Pc α) → α → Int → Int → α × Int
  | [], z, _, last => (z, last)
  | p :: r, z, i, last => if p.fr ≤ i ∧ i ≤ p.to then (p.v, if last < p.to then last else p.to) else if i < p.fr ∧ p.fr ≤ last then findL r z i (p.fr - 1) else findL r z i last
theorem findL_cons (p : Pc α) (r : List (Pc α)) (z : α) (i last : Int) : findL (p :: r) z i last = if p.fr ≤ i ∧ i ≤ p.to then (p.v, if last < p.to then last else p.to) else if i < p.fr ∧ p.fr ≤ last then findL r z i (p.fr - 1) else findL r z i last := rfl
def valL : List (Pc α) → α → Int → α
  | [], z, _ => z
  | p :: r, z, i => if p.fr ≤ i ∧ i ≤ p.to then p.v else valL r z i
theorem findL_ok : ∀ (l : List (Pc α)) (z : α) (i last : Int), i ≤ last → (findL l z i last).1 = valL l z i ∧ i ≤ (findL l z i last).2 ∧ (findL l z i last).2 ≤ last ∧ ∀ j, i ≤ j → j ≤ (findL l z i last).2 → valL l z j = (findL l z i last).1
  | [], z, i, last, h => ⟨rfl, h, Int.le_refl _, fun _ _ _ => rfl⟩
  | p :: r, z, i, last, h => by
    unfold findL valL
    by_cases h1 : p.fr ≤ i ∧ i ≤ p.to
    · rw [if_pos h1, if_pos h1]
      dsimp only
      have : (if last < p.to then last else p.to) ≤ last ∧ (if last < p.to then last else p.to) ≤ p.to ∧ i ≤ (if last < p.to then last else p.to) := by split <;> omega
      refine ⟨rfl, this.2.2, this.1, fun j hj hj2 => ?_⟩
      rw [if_pos (by omega)]
    · rw [if_neg h1, if_neg h1]
      by_cases h2 : i < p.fr ∧ p.fr ≤ last
      · rw [if_pos h2]
        obtain ⟨a, b, c, d⟩ := findL_ok r z i (p.fr - 1) (by omega)
        refine ⟨a, b, by omega, fun j hj hj2 => ?_⟩
        rw [if_neg (by omega)]
        exact d j hj hj2
      · rw [if_neg h2]
        obtain ⟨a, b, c, d⟩ := findL_ok r z i last h
        refine ⟨a, b, c, fun j hj hj2 => ?_⟩
        rw [if_neg (by omega)]
        exact d j hj hj2
/-- A block. -/
def Blk (α : Type) := { l : List α // l.length = 128 }
instance [DecidableEq α] : DecidableEq (Blk α) := fun a b => if h : a.1 = b.1 then isTrue (Subtype.ext h) else isFalse fun e => h (by rw [e])
def rep (v : α) : Blk α := ⟨List.replicate 128 v, by simp⟩
variable {sz : Int} {F : Int → α} {idx : List Int} {blk : List (Blk α)}
/-- What a trie holds. -/
structure TOK (sz : Int) (F : Int → α) (idx : List Int) (blk : List (Blk α)) : Prop where
  len : sz ≤ 128 * idx.length
  ok : ∀ (q : Nat) k, idx[q]? = some k → 0 ≤ k ∧ ∃ b : Blk α, blk[k.toNat]? = some b ∧ ∀ (j : Nat) u, b.1[j]? = some u → (128 * q + j : Int) < sz → u = F (128 * q + j)
theorem TOK.get (h : TOK sz F idx blk) {i : Int} (h0 : 0 ≤ i) (h1 : i < sz) : ∃ (hq : (i / 128).toNat < idx.length), 0 ≤ idx[(i / 128).toNat] ∧ ∃ (hk : idx[(i / 128).toNat].toNat < blk.length), ∃ (hj : (i % 128).toNat < (blk[idx[(i / 128).toNat].toNat]).1.length), (blk[idx[(i / 128).toNat].toNat]).1[(i % 128).toNat] = F i := by
  have hl := h.len
  have hq : (i / 128).toNat < idx.length := by omega
  obtain ⟨g0, b, g1, g2⟩ := h.ok (i / 128).toNat _ (List.getElem?_eq_getElem hq)
  obtain ⟨hk, hb⟩ := List.getElem?_eq_some_iff.1 g1
  have hj : (i % 128).toNat < (blk[idx[(i / 128).toNat].toNat]).1.length := by rw [(blk[idx[(i / 128).toNat].toNat]).2]; omega
  refine ⟨hq, g0, hk, hj, ?_⟩
  have hj' : (i % 128).toNat < b.1.length := by rw [b.2]; omega
  have := g2 (i % 128).toNat _ (List.getElem?_eq_getElem hj') (by omega)
  have e : (128 * ((i / 128).toNat : Int) + ((i % 128).toNat : Int)) = i := by omega
  rw [e] at this
  simp only [hb]
  exact this
theorem more {b c : Blk α} {k : Nat} (h : blk[k]? = some b) : (blk ++ [c])[k]? = some b := by
  have := (List.getElem?_eq_some_iff.1 h).1
  rw [List.getElem?_append_left this]; exact h
variable [DecidableEq α]
structure TInv (sz : Int) (F : Int → α) (idx : List Int) (blk : List (Blk α)) (kn : List (Blk α × Int)) (ev : List (α × Int)) : Prop where
  kn_ok : ∀ b k, aget b kn = some k → 0 ≤ k ∧ blk[k.toNat]? = some b
  ev_ok : ∀ v k, aget v ev = some k → 0 ≤ k ∧ blk[k.toNat]? = some (rep v)
  idx_ok : ∀ (q : Nat) k, idx[q]? = some k → 0 ≤ k ∧ ∃ b : Blk α, blk[k.toNat]? = some b ∧ ∀ (j : Nat) u, b.1[j]? = some u → (128 * q + j : Int) < sz → u = F (128 * q + j)
variable {kn : List (Blk α × Int)} {ev : List (α × Int)}
theorem TInv.nil : TInv sz F [] [] [] [] := ⟨fun _ _ h => (by cases h), fun _ _ h => (by cases h), fun _ _ h => (by simp at h)⟩
theorem TInv.place (h : TInv sz F idx blk kn ev) (b : Blk α) : TInv sz F idx (blk ++ [b]) (aset b (blk.length : Int) kn) ev := by
  refine ⟨fun c k hc => ?_, fun v k hv => ?_, fun q k hq => ?_⟩
  · rw [aget_aset] at hc
    split at hc
    · rename_i e
      cases hc
      exact ⟨by omega, by simp [e]⟩
    · exact ⟨(h.kn_ok c k hc).1, more (h.kn_ok c k hc).2⟩
  · exact ⟨(h.ev_ok v k hv).1, more (h.ev_ok v k hv).2⟩
  · obtain ⟨h1, c, h2, h3⟩ := h.idx_ok q k hq
    exact ⟨h1, c, more h2, h3⟩
theorem TInv.even (h : TInv sz F idx blk kn ev) {v : α} {k : Int} (h0 : 0 ≤ k) (hk : blk[k.toNat]? = some (rep v)) : TInv sz F idx blk kn (aset v k ev) := by
  refine ⟨h.kn_ok, fun c k' hc => ?_, h.idx_ok⟩
  rw [aget_aset] at hc
  split at hc
  · rename_i e
    cases hc
    exact ⟨h0, by rw [e]; exact hk⟩
  · exact h.ev_ok c k' hc
theorem TInv.push (h : TInv sz F idx blk kn ev) {b : Blk α} {k : Int} (h0 : 0 ≤ k) (hk : blk[k.toNat]? = some b) (hb : ∀ (j : Nat) u, b.1[j]? = some u → (128 * idx.length + j : Int) < sz → u = F (128 * idx.length + j)) : TInv sz F (idx ++ [k]) blk kn ev := by
  refine ⟨h.kn_ok, h.ev_ok, fun q k' hq => ?_⟩
  rcases Nat.lt_trichotomy q idx.length with hl | hl | hl
  · rw [List.getElem?_append_left hl] at hq
    exact h.idx_ok q k' hq
  · subst hl
    simp at hq
    subst hq
    exact ⟨h0, b, hk, hb⟩
  · rw [List.getElem?_eq_none (by simp; omega)] at hq; cases hq
end Go.Eng.Trie
set_option linter.unusedVariables false
set_option linter.unusedSimpArgs false
namespace Go.Eng.Rows
open Go Go.Eng Go.Eng.Trie
/-! ### What a table says of a number -/
def firstG (rows : List Row) (k r : Int) : Option (Int × Int) := if 0 ≤ r ∧ r ≤ 1114111 then first rows k r else none
def numG (rows : List Row) (k r : Int) : Int := match firstG rows k r with | some p => p.1 | none => 0
def trueG (rows : List Row) (k r : Int) : Bool := match firstG rows k r with | some p => decide (p.1 = 1) | none => false
def pairG (rows : List Row) (r : Int) : Int × Int := match firstG rows 2 r with | some p => p | none => (0, 0)
def flagG (rows : List Row) (r : Int) : Bool × Bool × Bool × Bool := (trueG rows 5 r, trueG rows 7 r, trueG rows 8 r, trueG rows 3 r)
def outG (rows : List Row) (r : Int) : Bool :=
  !decide (pairG rows r = (0, 0)) && (decide ((pairG rows r).2 = 0) || (trueG rows 3 r || (!decide (numG rows 1 r = 0) || !decide (numG rows 1 (pairG rows r).1 = 0))))
theorem has_firstG {rows : List Row} {k r a b : Int} : Has (ofL k rows) r a b ↔ firstG rows k r = some (a, b) := by
  rw [ofL_has]
  unfold firstG
  by_cases h : 0 ≤ r ∧ r ≤ 1114111
  · rw [if_pos h]; exact ⟨fun h => h.2, fun h2 => ⟨h, h2⟩⟩
  · rw [if_neg h]; exact ⟨fun h2 => absurd h2.1 h, fun h2 => by cases h2⟩
/-- The span that has a number. -/
theorem span_of {rows : List Row} {k r : Int} {p : Int × Int} (h : firstG rows k r = some p) : ∃ s ∈ ofL k rows, s.has r ∧ s.a = p.1 ∧ s.b = p.2 := by
  obtain ⟨s, h1, h2, h3, h4⟩ := has_firstG.2 (show firstG rows k r = some (p.1, p.2) from h)
  exact ⟨s, h1, h2, h3, h4⟩
theorem of_span {rows : List Row} {k r : Int} {s : Sp} (hs : s ∈ ofL k rows) (h : s.has r) : firstG rows k r = some (s.a, s.b) := has_firstG.1 ⟨s, hs, h, rfl, rfl⟩
theorem no_span {rows : List Row} {k r : Int} (h : firstG rows k r = none) : ∀ s ∈ ofL k rows, ¬ s.has r := fun s hs h2 => by rw [of_span hs h2] at h; cases h
theorem none_of {rows : List Row} {k r : Int} (h : ∀ s ∈ ofL k rows, ¬ s.has r) : firstG rows k r = none := by
  cases hf : firstG rows k r with
  | none => rfl
  | some p => obtain ⟨s, h1, h2, _⟩ := span_of hf; exact absurd h2 (h s h1)
/-- Pieces of which the first one that has a number tells what a function says. -/
theorem valL_ok {α : Type} {F : Int → α} {z : α} {i : Int} : ∀ {l : List (Pc α)}, (∀ p ∈ l, p.fr ≤ i → i ≤ p.to → p.v = F i) → ((∀ p ∈ l, ¬ (p.fr ≤ i ∧ i ≤ p.to)) → F i = z) → valL l z i = F i
  | [], _, h2 => (h2 (fun p hp => by cases hp)).symm
  | p :: r, h1, h2 => by
    unfold valL
    by_cases h : p.fr ≤ i ∧ i ≤ p.to
    · rw [if_pos h]; exact h1 p List.mem_cons_self h.1 h.2
    · rw [if_neg h]
      refine valL_ok (fun q hq => h1 q (List.mem_cons_of_mem _ hq)) fun h3 => h2 fun q hq => ?_
      rcases List.mem_cons.1 hq with rfl | hq
      · exact h
      · exact h3 q hq
theorem valL_num (rows : List Row) (k i : Int) : valL ((ofL k rows).map fun s => (⟨s.fr, s.to, s.a⟩ : Pc Int)) 0 i = numG rows k i := by
  refine valL_ok (F := numG rows k) (fun p hp h1 h2 => ?_) (fun h => ?_)
  · obtain ⟨s, hs, rfl⟩ := List.mem_map.1 hp
    unfold numG; rw [of_span hs ⟨h1, h2⟩]
  · unfold numG; rw [none_of fun s hs h2 => h _ (List.mem_map_of_mem hs) ⟨h2.1, h2.2⟩]
theorem valL_pair (rows : List Row) (i : Int) : valL ((ofL 2 rows).map fun s => (⟨s.fr, s.to, (s.a, s.b)⟩ : Pc (Int × Int))) (0, 0) i = pairG rows i := by
  refine valL_ok (F := pairG rows) (fun p hp h1 h2 => ?_) (fun h => ?_)
  · obtain ⟨s, hs, rfl⟩ := List.mem_map.1 hp
    unfold pairG; rw [of_span hs ⟨h1, h2⟩]
  · unfold pairG; rw [none_of fun s hs h2 => h _ (List.mem_map_of_mem hs) ⟨h2.1, h2.2⟩]
/-! ### Truths -/
/-- Up to where no span begins behind a place. -/
def uptoL (at' last : Int) : List Sp → Int
  | [] => last
  | s :: r => if s.fr > at' ∧ s.fr ≤ last then uptoL at' (s.fr - 1) r else uptoL at' last r
theorem uptoL_le {a : Int} : ∀ {l : List Sp} {last : Int}, uptoL a last l ≤ last
  | [], last => Int.le_refl _
  | s :: r, last => by
    unfold uptoL
    split
    · have := uptoL_le (a := a) (l := r) (last := s.fr - 1); omega
    · exact uptoL_le
theorem uptoL_no {a : Int} : ∀ {l : List Sp} {last : Int}, ∀ s ∈ l, s.fr > a → s.fr > uptoL a last l
  | s :: r, last, x, hx, h => by
    unfold uptoL
    have hle1 := uptoL_le (a := a) (l := r) (last := s.fr - 1)
    have hle2 := uptoL_le (a := a) (l := r) (last := last)
    rcases List.mem_cons.1 hx with rfl | hx
    · split <;> omega
    · split
      · exact uptoL_no x hx h
      · exact uptoL_no x hx h
theorem uptoL_ge {a i : Int} : ∀ {l : List Sp} {last : Int}, i ≤ last → (∀ s ∈ l, s.fr > a → s.fr > i) → i ≤ uptoL a last l
  | [], last, h, _ => h
  | s :: r, last, h, h2 => by
    unfold uptoL
    split
    · rename_i hc
      exact uptoL_ge (by have := h2 s List.mem_cons_self hc.1; omega) fun x hx => h2 x (List.mem_cons_of_mem _ hx)
    · exact uptoL_ge h fun x hx => h2 x (List.mem_cons_of_mem _ hx)
theorem uptoL_app (a : Int) : ∀ (l m : List Sp) (last : Int), uptoL a last (l ++ m) = uptoL a (uptoL a last l) m
  | [], m, last => rfl
  | s :: r, m, last => by
    simp only [List.cons_append, uptoL]
    split <;> exact uptoL_app a r m _
theorem uptoL_lo {a : Int} : ∀ {l : List Sp} {last lo : Int}, lo ≤ last → lo ≤ a → lo ≤ uptoL a last l
  | [], last, lo, h, _ => h
  | s :: r, last, lo, h, h2 => by
    unfold uptoL
    split
    · rename_i hc; exact uptoL_lo (by omega) h2
    · exact uptoL_lo h h2
/-- A place where something may change. -/
def CutP (ll : List (List Sp)) (x : Int) : Prop := x = 0 ∨ ∃ l ∈ ll, ∃ s ∈ l, x = s.fr ∨ x = s.to + 1
/-- Spans that have a number have the place ahead of it, too. -/
theorem has_same {ll : List (List Sp)} {a i : Int} (h1 : a ≤ i) (h2 : ∀ x, CutP ll x → x ≤ a ∨ i < x) {l : List Sp} (hl : l ∈ ll) {s : Sp} (hs : s ∈ l) : s.has i ↔ s.has a := by
  have c1 := h2 s.fr (.inr ⟨l, hl, s, hs, .inl rfl⟩)
  have c2 := h2 (s.to + 1) (.inr ⟨l, hl, s, hs, .inr rfl⟩)
  unfold Sp.has
  omega
/-- The last place at or ahead of a number. -/
theorem last_cut {t : List Int} {i : Int} (h0 : ∃ x ∈ t, x ≤ i) : ∃ a ∈ t, a ≤ i ∧ ∀ x ∈ t, x ≤ a ∨ i < x := by
  induction t with
  | nil => obtain ⟨x, hx, _⟩ := h0; cases hx
  | cons y r ih =>
    by_cases hr : ∃ x ∈ r, x ≤ i
    · obtain ⟨a, h1, h2, h3⟩ := ih hr
      by_cases hy : y ≤ i ∧ a < y
      · refine ⟨y, List.mem_cons_self, hy.1, fun x hx => ?_⟩
        rcases List.mem_cons.1 hx with rfl | hx
        · exact .inl (Int.le_refl _)
        · have := h3 x hx; omega
      · refine ⟨a, List.mem_cons_of_mem _ h1, h2, fun x hx => ?_⟩
        rcases List.mem_cons.1 hx with rfl | hx
        · omega
        · exact h3 x hx
    · obtain ⟨x, hx, hxi⟩ := h0
      rcases List.mem_cons.1 hx with rfl | hx
      · refine ⟨x, List.mem_cons_self, hxi, fun z hz => ?_⟩
        rcases List.mem_cons.1 hz with rfl | hz
        · exact .inl (Int.le_refl _)
        · exact .inr (Int.not_le.1 fun hle => hr ⟨z, hz, hle⟩)
      · exact absurd ⟨x, hx, hxi⟩ hr
end Go.Eng.Rows
set_option linter.unusedVariables false
set_option linter.unusedSimpArgs false
namespace Go.Eng.Rows
open Go Go.Eng Go.Eng.Trie
abbrev Fl := Bool × Bool × Bool × Bool
def l4 (rows : List Row) : List (List Sp) := [ofL 5 rows, ofL 7 rows, ofL 8 rows, ofL 3 rows]
theorem firstG_same {rows : List Row} {k a i : Int} (h : ∀ s ∈ ofL k rows, s.has i ↔ s.has a) : firstG rows k i = firstG rows k a := by
  cases hf : firstG rows k a with
  | none => exact none_of fun s hs h2 => no_span hf s hs ((h s hs).1 h2)
  | some p =>
    obtain ⟨s, h1, h2, h3, h4⟩ := span_of hf
    rw [of_span h1 ((h s h1).2 h2), h3, h4]
theorem flagG_same {rows : List Row} {a i : Int} (h : ∀ l ∈ l4 rows, ∀ s ∈ l, s.has i ↔ s.has a) : flagG rows i = flagG rows a := by
  unfold flagG trueG
  rw [firstG_same (h _ (by simp [l4]) : ∀ s ∈ ofL 5 rows, _), firstG_same (h _ (by simp [l4]) : ∀ s ∈ ofL 7 rows, _), firstG_same (h _ (by simp [l4]) : ∀ s ∈ ofL 8 rows, _), firstG_same (h _ (by simp [l4]) : ∀ s ∈ ofL 3 rows, _)]
/-- How far spans that have a place reach. -/
structure LastOK (ll : List (List Sp)) (a x : Int) : Prop where
  top : x ≤ 1114111
  le : ∀ l ∈ ll, ∀ s ∈ l, s.has a → x ≤ s.to
  ge : ∀ i, i ≤ 1114111 → (∀ l ∈ ll, ∀ s ∈ l, s.has a → i ≤ s.to) → i ≤ x
theorem LastOK.nil (a : Int) : LastOK [] a 1114111 := ⟨Int.le_refl _, fun l hl => (by cases hl), fun i hi _ => hi⟩
/-- A span that has it. -/
theorem LastOK.some {ll : List (List Sp)} {l : List Sp} {a x : Int} (h : LastOK ll a x) {s : Sp} (hs : s ∈ l) (ha : s.has a) (hg : Good l) : LastOK (ll ++ [l]) a (if s.to < x then s.to else x) := by
  have uniq : ∀ y ∈ l, y.has a → y.to = s.to := fun y hy hya => by
    obtain ⟨i, hi, rfl⟩ := List.getElem_of_mem hy
    obtain ⟨j, hj, rfl⟩ := List.getElem_of_mem hs
    have hr := List.pairwise_iff_getElem.1 hg.1
    unfold Sp.has at hya ha
    rcases Nat.lt_trichotomy i j with hij | hij | hij
    · have := hr i j hi hj hij; omega
    · subst hij; rfl
    · have := hr j i hj hi hij; omega
  have h1 := h.top
  refine ⟨by split <;> omega, fun m hm y hy hya => ?_, fun i hi h2 => ?_⟩
  · rcases List.mem_append.1 hm with hm | hm
    · have := h.le m hm y hy hya; split <;> omega
    · simp only [List.mem_singleton] at hm; subst hm
      have := uniq y hy hya; split <;> omega
  · have g1 := h.ge i hi fun m hm => h2 m (List.mem_append_left _ hm)
    have g2 := h2 l (by simp) s hs ha
    split <;> omega
theorem LastOK.none {ll : List (List Sp)} {l : List Sp} {a x : Int} (h : LastOK ll a x) (hn : ∀ s ∈ l, ¬ s.has a) : LastOK (ll ++ [l]) a x := by
  refine ⟨h.top, fun m hm y hy hya => ?_, fun i hi h2 => h.ge i hi fun m hm => h2 m (List.mem_append_left _ hm)⟩
  rcases List.mem_append.1 hm with hm | hm
  · exact h.le m hm y hy hya
  · simp only [List.mem_singleton] at hm; subst hm; exact absurd hya (hn y hy)
/-- The pieces that are made of some places. -/
structure PiecesOK (rows : List Row) (done : List Int) (P : List (Pc Fl)) : Prop where
  sound : ∀ p ∈ P, (0 ≤ p.fr ∧ p.fr ≤ 1114112) ∧ ∀ i, p.fr ≤ i → i ≤ p.to → p.v = flagG rows i
  all : ∀ a ∈ done, flagG rows a ≠ (false, false, false, false) → ∃ p ∈ P, p.fr = a ∧ ∀ i, a ≤ i → i ≤ 1114111 → (∀ l ∈ l4 rows, ∀ s ∈ l, (s.has i ↔ s.has a) ∧ (s.fr > a → s.fr > i)) → i ≤ p.to
theorem PiecesOK.nil (rows : List Row) : PiecesOK rows [] [] := ⟨fun p hp => (by cases hp), fun a ha => (by cases ha)⟩
theorem PiecesOK.skip {rows : List Row} {done : List Int} {P : List (Pc Fl)} (h : PiecesOK rows done P) {a : Int} (ha : flagG rows a = (false, false, false, false)) : PiecesOK rows (done ++ [a]) P := by
  refine ⟨h.sound, fun b hb hne => ?_⟩
  rcases List.mem_append.1 hb with hb | hb
  · exact h.all b hb hne
  · simp only [List.mem_singleton] at hb; subst hb; exact absurd ha hne
theorem PiecesOK.put {rows : List Row} {done : List Int} {P : List (Pc Fl)} (h : PiecesOK rows done P) {a x : Int} (h0 : 0 ≤ a) (h1 : a ≤ 1114112) (hx : LastOK (l4 rows) a x) : PiecesOK rows (done ++ [a]) (P ++ [⟨a, uptoL a x (l4 rows).flatten, flagG rows a⟩]) := by
  refine ⟨fun p hp => ?_, fun b hb hne => ?_⟩
  · rcases List.mem_append.1 hp with hp | hp
    · exact h.sound p hp
    · simp only [List.mem_singleton] at hp; subst hp
      refine ⟨⟨h0, h1⟩, fun i hi1 hi2 => (flagG_same fun l hl s hs => ?_).symm⟩
      have e1 := uptoL_le (a := a) (l := (l4 rows).flatten) (last := x)
      have e2 := uptoL_no (a := a) (l := (l4 rows).flatten) (last := x) s (List.mem_flatten.2 ⟨l, hl, hs⟩)
      have e3 := hx.le l hl s hs
      simp only at hi1 hi2
      unfold Sp.has at e3 ⊢
      constructor
      · rintro ⟨q1, q2⟩
        by_cases hc : s.fr > a
        · have := e2 hc; omega
        · omega
      · rintro ⟨q1, q2⟩
        have := e3 ⟨q1, q2⟩
        omega
  · rcases List.mem_append.1 hb with hb | hb
    · obtain ⟨p, hp, q⟩ := h.all b hb hne
      exact ⟨p, List.mem_append_left _ hp, q⟩
    · simp only [List.mem_singleton] at hb; subst hb
      refine ⟨_, List.mem_append_right _ (List.mem_singleton.2 rfl), rfl, fun i hi1 hi2 hc => ?_⟩
      refine uptoL_ge (hx.ge i hi2 fun l hl s hs hsb => ?_) fun s hs hgt => ?_
      · exact (((hc l hl s hs).1).2 hsb).2
      · obtain ⟨l, hl, hs⟩ := List.mem_flatten.1 hs
        exact (hc l hl s hs).2 hgt
theorem PiecesOK.val {rows : List Row} {t : List Int} {P : List (Pc Fl)} (h : PiecesOK rows t P) (ht : ∀ x, x ∈ t ↔ CutP (l4 rows) x) {i : Int} (h0 : 0 ≤ i) (h1 : i ≤ 1114111) : valL P (false, false, false, false) i = flagG rows i := by
  refine valL_ok (F := flagG rows) (fun p hp q1 q2 => (h.sound p hp).2 i q1 q2) fun hn => ?_
  obtain ⟨a, ha, hai, hcut⟩ := last_cut (t := t) (i := i) ⟨0, (ht 0).2 (.inl rfl), h0⟩
  have hcut' : ∀ x, CutP (l4 rows) x → x ≤ a ∨ i < x := fun x hx => hcut x ((ht x).2 hx)
  have hsame : ∀ l ∈ l4 rows, ∀ s ∈ l, s.has i ↔ s.has a := fun l hl s hs => has_same hai hcut' hl hs
  by_cases hz : flagG rows a = (false, false, false, false)
  · rw [flagG_same hsame, hz]
  · obtain ⟨p, hp, q1, q2⟩ := h.all a ha hz
    refine absurd ⟨by omega, q2 i hai h1 fun l hl s hs => ⟨hsame l hl s hs, fun hg => ?_⟩⟩ (hn p hp)
    have := hcut' s.fr (.inr ⟨l, hl, s, hs, .inl rfl⟩)
    omega
end Go.Eng.Rows
set_option linter.unusedVariables false
set_option maxRecDepth 100000
set_option linter.constructorNameAsVariable false
namespace Go.Eng
open Go Go.Proofs
def r_trie_find_int (n f : Bool) (es : List (List PV)) (z i last : Int) (J : (Int) → (Int) → Prop) (μ : (Int) → (Int) → Nat) (R : PV → Prop) : Prop :=
 (Same1 ([(1, LV.pv (PV.int .i64 z)), (2, LV.pv (PV.int .i64 i)), (3, LV.pv (PV.int .i64 last)), (12, LV.pv (PV.sl n f es)), (13, LV.pv (PV.int .i64 (↑es.length : Int))), (14, LV.pv (PV.int .i64 (0 : Int)))], []) ∧ J last (0 : Int)) ∧ ∀ (x3
 x14 : Int), J x3 x14 → if decide (x14 < (↑es.length : Int)) = true then idxOK es x14 3 ∧ ∃ (n1 : Int), (es.getD x14.toNat []).head? = some (PV.int .i64 n1) ∧ ∃ (n2 : Int), (es.getD x14.toNat []).tail.head? = some (PV.int .i64 n2) ∧ ∃ (n3 :
 Int), (es.getD x14.toNat []).tail.tail.head? = some (PV.int .i64 n3) ∧ if decide (n1 ≤ i) = true then if decide (i ≤ n2) = true then R (PV.tup [PV.int .i64 n3, PV.int .i64 (if x3 < n2 then x3 else n2)]) else if decide (i < n1) = true then
 if decide (n1 ≤ x3) = true then Same1 ([(1, LV.pv (PV.int .i64 z)), (2, LV.pv (PV.int .i64 i)), (3, LV.pv (PV.int .i64 (IntKind.i64.wrap (n1 - (1 : Int))))), (12, LV.pv (PV.sl n f es)), (13, LV.pv (PV.int .i64 (↑es.length : Int))), (14,
 LV.pv (PV.int .i64 (IntKind.i64.wrap (x14 + (1 : Int)))))], []) ∧ J (IntKind.i64.wrap (n1 - (1 : Int))) (IntKind.i64.wrap (x14 + (1 : Int))) ∧ μ (IntKind.i64.wrap (n1 - (1 : Int))) (IntKind.i64.wrap (x14 + (1 : Int))) < μ x3 x14 else Same1
 ([(1, LV.pv (PV.int .i64 z)), (2, LV.pv (PV.int .i64 i)), (3, LV.pv (PV.int .i64 x3)), (12, LV.pv (PV.sl n f es)), (13, LV.pv (PV.int .i64 (↑es.length : Int))), (14, LV.pv (PV.int .i64 (IntKind.i64.wrap (x14 + (1 : Int)))))], []) ∧ J x3
 (IntKind.i64.wrap (x14 + (1 : Int))) ∧ μ x3 (IntKind.i64.wrap (x14 + (1 : Int))) < μ x3 x14 else Same1 ([(1, LV.pv (PV.int .i64 z)), (2, LV.pv (PV.int .i64 i)), (3, LV.pv (PV.int .i64 x3)), (12, LV.pv (PV.sl n f es)), (13, LV.pv (PV.int
 .i64 (↑es.length : Int))), (14, LV.pv (PV.int .i64 (IntKind.i64.wrap (x14 + (1 : Int)))))], []) ∧ J x3 (IntKind.i64.wrap (x14 + (1 : Int))) ∧ μ x3 (IntKind.i64.wrap (x14 + (1 : Int))) < μ x3 x14 else if decide (i < n1) = true then if decide
 (n1 ≤ x3) = true then Same1 ([(1, LV.pv (PV.int .i64 z)), (2, LV.pv (PV.int .i64 i)), (3, LV.pv (PV.int .i64 (IntKind.i64.wrap (n1 - (1 : Int))))), (12, LV.pv (PV.sl n f es)), (13, LV.pv (PV.int .i64 (↑es.length : Int))), (14, LV.pv (PV.int
 .i64 (IntKind.i64.wrap (x14 + (1 : Int)))))], []) ∧ J (IntKind.i64.wrap (n1 - (1 : Int))) (IntKind.i64.wrap (x14 + (1 : Int))) ∧ μ (IntKind.i64.wrap (n1 - (1 : Int))) (IntKind.i64.wrap (x14 + (1 : Int))) < μ x3 x14 else Same1 ([(1, LV.pv
 (PV.int .i64 z)), (2, LV.pv (PV.int .i64 i)), (3, LV.pv (PV.int .i64 x3)), (12, LV.pv (PV.sl n f es)), (13, LV.pv (PV.int .i64 (↑es.length : Int))), (14, LV.pv (PV.int .i64 (IntKind.i64.wrap (x14 + (1 : Int)))))], []) ∧ J x3
 (IntKind.i64.wrap (x14 + (1 : Int))) ∧ μ x3 (IntKind.i64.wrap (x14 + (1 : Int))) < μ x3 x14 else Same1 ([(1, LV.pv (PV.int .i64 z)), (2, LV.pv (PV.int .i64 i)), (3, LV.pv (PV.int .i64 x3)), (12, LV.pv (PV.sl n f es)), (13, LV.pv (PV.int
 .i64 (↑es.length : Int))), (14, LV.pv (PV.int .i64 (IntKind.i64.wrap (x14 + (1 : Int)))))], []) ∧ J x3 (IntKind.i64.wrap (x14 + (1 : Int))) ∧ μ x3 (IntKind.i64.wrap (x14 + (1 : Int))) < μ x3 x14 else R (PV.tup [PV.int .i64 z, PV.int .i64
 x3])
theorem e_trie_find_int (n f : Bool) (es : List (List PV)) (z i last : Int) (J : (Int) → (Int) → Prop) (μ : (Int) → (Int) → Nat) (R : PV → Prop) : aFn Try.prog (fun _ => none) Try.f91 [0, 1, 2, 3, 8, 9, 11, 12, 13, 14, 15, 18, 35] (fun zz_ => match zz_ with | 2 => some ⟨Int × Int, fun s => (fun (x3 : Int) (x14 : Int) => ([(1, LV.pv (PV.int IntKind.i64 z)), (2, LV.pv (PV.int IntKind.i64 i)), (3, .pv (.int IntKind.i64 x3)), (12, LV.pv (PV.sl n f es)), (13, LV.pv (PV.int IntKind.i64 ↑es.length)), (14, .pv (.int IntKind.i64 x14))], [])) s.1 s.2, fun _ s => J s.1 s.2, fun s => μ s.1 s.2, fun e h => (gI e 3, gI e 14), [], [1, 2, 3, 12, 13, 14], [], fun p => ∀ (x3 : Int) (x14 : Int), p (x3, x14), fun p h s => h s.1 s.2⟩ | _ => none) (Try.f91.body.getD .skip) [.sl n f es, .int .i64 z, .int .i64 i, .int .i64 last] R = r_trie_find_int n f es z i last J μ R := by kernel_rfl
theorem a_trie_find_int (n f : Bool) (es : List (List PV)) (z i last : Int) (J : (Int) → (Int) → Prop) (μ : (Int) → (Int) → Nat) {R : PV → Prop} (h : r_trie_find_int n f es z i last J μ R) : PCall Try.prog 91 [.sl n f es, .int .i64 z, .int .i64 i, .int .i64 last] R :=
  PCall.of Try.func91 (by kernel_rfl) (by kernel_rfl) (Nat.le_of_ble_eq_true (by kernel_rfl)) (Eq.mpr (e_trie_find_int n f es z i last J μ R) h)

def r_trie_Trie_int_Get (s : Int) (n f n2 f2 : Bool) (es bs : List (List PV)) (i : Int) (R : PV → Prop) : Prop :=
 if decide (i < (0 : Int)) = true then R (PV.int .i64 (0 : Int)) else ∃ (n1 : Int), some (PV.int .i64 s) = some (PV.int .i64 n1) ∧ if decide (i ≥ n1) = true then R (PV.int .i64 (0 : Int)) else ∃ (n3 : Bool), ∃ (f1 : Bool), ∃ (es1 : List
 (List PV)), some (PV.sl n2 f2 bs) = some (PV.sl n3 f1 es1) ∧ ∃ (n4 : Bool), ∃ (f3 : Bool), ∃ (es2 : List (List PV)), some (PV.sl n f es) = some (PV.sl n4 f3 es2) ∧ idxOK es2 (IntKind.i64.wrap (i.tdiv (128 : Int))) 1 ∧ ∃ (n5 : Int),
 (es2.getD (IntKind.i64.wrap (i.tdiv (128 : Int))).toNat []).head? = some (PV.int .i64 n5) ∧ idxOK es1 n5 128 ∧ ((0 : Int) ≤ i.tmod (128 : Int) ∧ i.tmod (128 : Int) < (↑128 : Int)) ∧ ∃ (n6 : Int), (List.drop ((i.tmod (128 : Int)).toNat * 1)
 (es1.getD n5.toNat [])).head? = some (PV.int .i64 n6) ∧ R (PV.int .i64 n6)
theorem e_trie_Trie_int_Get (s : Int) (n f n2 f2 : Bool) (es bs : List (List PV)) (i : Int) (R : PV → Prop) : aFn Try.prog (fun _ => none) Try.f83 [0, 1, 4, 5, 19] (fun _ => none) (Try.f83.body.getD .skip) [.ptr [.int .i64 s, .sl n f es, .sl n2 f2 bs], .int .i64 i] R = r_trie_Trie_int_Get s n f n2 f2 es bs i R := by kernel_rfl
theorem a_trie_Trie_int_Get (s : Int) (n f n2 f2 : Bool) (es bs : List (List PV)) (i : Int) {R : PV → Prop} (h : r_trie_Trie_int_Get s n f n2 f2 es bs i R) : PCall Try.prog 83 [.ptr [.int .i64 s, .sl n f es, .sl n2 f2 bs], .int .i64 i] R :=
  PCall.of Try.func83 (by kernel_rfl) (by kernel_rfl) (Nat.le_of_ble_eq_true (by kernel_rfl)) (Eq.mpr (e_trie_Trie_int_Get s n f n2 f2 es bs i R) h)

def r_trie_maker_int_place (sz : Int) (kn ev : List (PV × PV)) (ixm ixn bkm bkn : Bool) (ix bk : List (List PV)) (b : List PV) (R : LV → Hp → Prop) : Prop :=
 128 ≤ (List.drop 0 b).length ∧ keysOk Try.prog 139 kn ∧ keyOk Try.prog 139 (PV.agg (List.take 128 (List.drop 0 b))) = true ∧ (∀ (v : PV), mapGet (PV.agg (List.take 128 (List.drop 0 b))) kn = some v → ∃ (n : Int), v = PV.int .i64 n ∧ R
 (LV.pv (PV.int .i64 n)) [Ob.box [LV.box 1 0, LV.mp 2, LV.mp 3], Ob.box [LV.pv (PV.int .i64 sz), LV.own 4, LV.own 5], Ob.mp kn, Ob.mp ev, Ob.sl (3, 1) ixm ixn ix, Ob.sl (139, 128) bkm bkn bk]) ∧ (mapGet (PV.agg (List.take 128 (List.drop 0
 b))) kn = none → 128 ≤ (List.drop 0 b).length ∧ keysOk Try.prog 139 kn ∧ keyOk Try.prog 139 (PV.agg (List.take 128 (List.drop 0 b))) = true ∧ 128 ≤ (List.drop 0 b).length ∧ ((List.take 128 (List.drop 0 b)).length = 128 ∧ (szOK [List.take
 128 (List.drop 0 b)] 128 ∧ (bk.length + 1) * 1024 ≤ 140737488355328) ∧ R (LV.pv (PV.int .i64 (↑bk.length : Int))) [Ob.box [LV.box 1 0, LV.mp 2, LV.mp 3], Ob.box [LV.pv (PV.int .i64 sz), LV.own 4, LV.own 5], Ob.mp (mapSet (PV.agg (List.take
 128 (List.drop 0 b))) (PV.int .i64 (↑bk.length : Int)) kn), Ob.mp ev, Ob.sl (3, (1 : Nat)) ixm ixn ix, Ob.sl (139, 128) true (bkn && false) (bk ++ [List.take 128 (List.drop 0 b)])]) ∧ (List.take 128 (List.drop 0 b)).length = 128 ∧ ((szOK
 [List.take 128 (List.drop 0 b)] 128 ∧ (bk.length + 1) * 1024 ≤ 140737488355328) ∧ R (LV.pv (PV.int .i64 (↑bk.length : Int))) [Ob.box [LV.box 1 0, LV.mp 2, LV.mp 3], Ob.box [LV.pv (PV.int .i64 sz), LV.own 4, LV.own 5], Ob.mp (mapSet (PV.agg
 (List.take 128 (List.drop 0 b))) (PV.int .i64 (↑bk.length : Int)) kn), Ob.mp ev, Ob.sl ((3 : Nat), 1) ixm ixn ix, Ob.sl (139, 128) true (bkn && false) (bk ++ [List.take 128 (List.drop 0 b)])]) ∧ (szOK [List.take 128 (List.drop 0 b)] 128 ∧
 (bk.length + 1) * 1024 ≤ 140737488355328) ∧ R (LV.pv (PV.int .i64 (↑bk.length : Int))) [Ob.box [LV.box 1 0, LV.mp 2, LV.mp 3], Ob.box [LV.pv (PV.int .i64 sz), LV.own 4, LV.own 5], Ob.mp (mapSet (PV.agg (List.take 128 (List.drop 0 b)))
 (PV.int .i64 (↑bk.length : Int)) kn), Ob.mp ev, Ob.sl (3, 1) ixm ixn ix, Ob.sl (139, 128) true (bkn && false) (bk ++ [List.take 128 (List.drop 0 b)])])
theorem e_trie_maker_int_place (sz : Int) (kn ev : List (PV × PV)) (ixm ixn bkm bkn : Bool) (ix bk : List (List PV)) (b : List PV) (R : LV → Hp → Prop) : aFnH Try.prog (fun _ => none) Try.f93 [0, 1, 3, 4, 5, 6, 17] (fun _ => none) [0,1,2,3,4,5] (Try.f93.body.getD .skip) [.box 0 0, .pv (.agg b)] [.box [.box 1 0, .mp 2, .mp 3], .box [.pv (.int .i64 sz), .own 4, .own 5], .mp kn, .mp ev, .sl (3, 1) ixm ixn ix, .sl (139, 128) bkm bkn bk] R = r_trie_maker_int_place sz kn ev ixm ixn bkm bkn ix bk b R := by kernel_rfl
theorem a_trie_maker_int_place (sz : Int) (kn ev : List (PV × PV)) (ixm ixn bkm bkn : Bool) (ix bk : List (List PV)) (b : List PV) {R : LV → Hp → Prop} (h : r_trie_maker_int_place sz kn ev ixm ixn bkm bkn ix bk b R) : ACall Try.prog 93 [.box 0 0, .pv (.agg b)] [.box [.box 1 0, .mp 2, .mp 3], .box [.pv (.int .i64 sz), .own 4, .own 5], .mp kn, .mp ev, .sl (3, 1) ixm ixn ix, .sl (139, 128) bkm bkn bk] R :=
  ACall.of Try.func93 (by kernel_rfl) (by kernel_rfl) (Nat.le_of_ble_eq_true (by kernel_rfl)) (Eq.mpr (e_trie_maker_int_place sz kn ev ixm ixn bkm bkn ix bk b R) h)

def r_trie_maker_int_plain (sz : Int) (kn ev : List (PV × PV)) (ixm ixn bkm bkn : Bool) (ix bk : List (List PV)) (v : Int) (J : (Int) → (List (PV × PV)) → (List (PV × PV)) → (List PV) → Prop) (μ : (Int) → (List (PV × PV)) → (List (PV × PV)) → (List PV) → Nat) (R : LV → Hp → Prop) : Prop :=
 keysInt .i64 ev ∧ (∀ (v1 : PV), mapGet (PV.int .i64 v) ev = some v1 → ∃ (n : Int), v1 = PV.int .i64 n ∧ R (LV.pv (PV.int .i64 n)) [Ob.box [LV.box 1 0, LV.mp 2, LV.mp 3], Ob.box [LV.pv (PV.int .i64 sz), LV.own 4, LV.own 5], Ob.mp kn, Ob.mp
 ev, Ob.sl (3, 1) ixm ixn ix, Ob.sl (139, 128) bkm bkn bk]) ∧ (mapGet (PV.int .i64 v) ev = none → (SameSt ([((0 : Nat), LV.box 0 0), (1, LV.pv (PV.int .i64 v)), (7, LV.box 6 0), (20, LV.pv (PV.int .i64 (0 : Int)))], [Ob.box [LV.box 1 0,
 LV.mp 2, LV.mp 3], Ob.box [LV.pv (PV.int .i64 sz), LV.own 4, LV.own 5], Ob.mp kn, Ob.mp ev, Ob.sl (3, 1) (bif false then true else ixm) ixn ix, Ob.sl (139, 128) (bif false then true else bkm) bkn bk, Ob.arr (List.replicate 128 (PV.int .i64
 (0 : Int)))]) ([(0, LV.box 0 0), (1, LV.pv (PV.int .i64 v)), (7, LV.box 6 0), (20, LV.pv (PV.int .i64 (0 : Int)))], [Ob.box [LV.box 1 0, LV.mp 2, LV.mp 3], Ob.box [LV.pv (PV.int .i64 sz), LV.own 4, LV.own 5], Ob.mp kn, Ob.mp ev, Ob.sl (3,
 1) ixm ixn ix, Ob.sl (139, 128) bkm bkn bk, Ob.arr (List.replicate 128 (PV.int .i64 (0 : Int)))]) ∧ J (0 : Int) kn ev (List.replicate 128 (PV.int .i64 (0 : Int)))) ∧ ∀ (x20 : Int) (m_2 m_3 : List (PV × PV)) (c_6 : List PV), J x20 m_2 m_3
 c_6 → if decide (x20 < (128 : Int)) = true then ((0 : Int) ≤ x20 ∧ x20 < (↑128 : Int)) ∧ (1 = 1 ∧ 0 + x20.toNat * 1 + 1 ≤ c_6.length) ∧ SameSt ([(0, LV.box 0 0), (1, LV.pv (PV.int .i64 v)), (7, LV.box 6 0), (20, LV.pv (PV.int .i64
 (IntKind.i64.wrap (x20 + (1 : Int)))))], [Ob.box [LV.box 1 0, LV.mp 2, LV.mp 3], Ob.box [LV.pv (PV.int .i64 sz), LV.own 4, LV.own 5], Ob.mp m_2, Ob.mp m_3, Ob.sl (3, 1) (bif false then true else ixm) ixn ix, Ob.sl (139, (128 : Nat)) (bif
 false then true else bkm) bkn bk, Ob.arr (spl c_6 (0 + x20.toNat * 1) [PV.int .i64 v])]) ([(0, LV.box 0 0), (1, LV.pv (PV.int .i64 v)), (7, LV.box 6 0), (20, LV.pv (PV.int .i64 (IntKind.i64.wrap (x20 + (1 : Int)))))], [Ob.box [LV.box 1 0,
 LV.mp 2, LV.mp 3], Ob.box [LV.pv (PV.int .i64 sz), LV.own 4, LV.own 5], Ob.mp m_2, Ob.mp m_3, Ob.sl (3, 1) ixm ixn ix, Ob.sl (139, 128) bkm bkn bk, Ob.arr (spl c_6 (0 + x20.toNat * 1) [PV.int .i64 v])]) ∧ J (IntKind.i64.wrap (x20 + (1 :
 Int))) m_2 m_3 (spl c_6 (0 + x20.toNat * 1) [PV.int .i64 v]) ∧ μ (IntKind.i64.wrap (x20 + (1 : Int))) m_2 m_3 (spl c_6 (0 + x20.toNat * 1) [PV.int .i64 v]) < μ x20 m_2 m_3 c_6 else 128 ≤ (List.drop 0 c_6).length ∧ ACall Try.prog 93 [LV.box
 0 0, LV.pv (PV.agg (List.take 128 (List.drop 0 c_6)))] [Ob.box [LV.box 1 0, LV.mp 2, LV.mp 3], Ob.box [LV.pv (PV.int .i64 sz), LV.own 4, LV.own 5], Ob.mp m_2, Ob.mp m_3, Ob.sl (3, 1) false ixn ix, Ob.sl (139, 128) false bkn bk] fun (r : LV)
 (h' : Hp) ↦ ∃ (t : Int × List (PV × PV) × Bool × List (List PV)), (r = LV.pv (PV.int .i64 t.1) ∧ h' = [Ob.box [LV.box 1 0, LV.mp 2, LV.mp 3], Ob.box [LV.pv (PV.int .i64 sz), LV.own 4, LV.own 5], Ob.mp t.snd.fst, Ob.mp m_3, Ob.sl (3, 1)
 false ixn ix, Ob.sl (139, 128) true t.snd.snd.fst t.snd.snd.snd]) ∧ (True ∧ ((3, 1) = (3, 1) ∧ ixn = ixn ∧ ix.length = ix.length) ∧ True ∧ True ∧ True ∧ True ∧ True) ∧ keysInt .i64 m_3 ∧ R (LV.pv (PV.int .i64 t.1)) [Ob.box [LV.box 1 0,
 LV.mp 2, LV.mp 3], Ob.box [LV.pv (PV.int .i64 sz), LV.own 4, LV.own 5], Ob.mp t.snd.fst, Ob.mp (mapSet (PV.int .i64 v) (PV.int .i64 t.1) m_3), Ob.sl (3, 1) (ixm || false) ixn ix, Ob.sl (139, 128) (bkm || true) t.snd.snd.fst t.snd.snd.snd])
theorem e_trie_maker_int_plain (sz : Int) (kn ev : List (PV × PV)) (ixm ixn bkm bkn : Bool) (ix bk : List (List PV)) (v : Int) (J : (Int) → (List (PV × PV)) → (List (PV × PV)) → (List PV) → Prop) (μ : (Int) → (List (PV × PV)) → (List (PV × PV)) → (List PV) → Nat) (R : LV → Hp → Prop) : aFnH Try.prog (fun zz_ => match zz_ with | 93 => some ⟨Int × List (PV × PV) × Bool × List (List PV), fun _ hs t => (.pv (.int .i64 t.1), match hs with | [m, r, .mp _, ev, ix, .sl a _ _ _] => [m, r, .mp t.2.1, ev, ix, .sl a true t.2.2.1 t.2.2.2] | h => h), none⟩ | _ => none) Try.f92 [0, 1, 4, 5, 6, 7, 8, 19, 20, 21] (fun zz_ => match zz_ with | 5 => some ⟨Int × (List (PV × PV)) × (List (PV × PV)) × (List PV), fun s => (fun (x20 : Int) (m_2 : List (PV × PV)) (m_3 : List (PV × PV)) (c_6 : List PV) => ([(0, LV.box 0 0), (1, LV.pv (PV.int IntKind.i64 v)), (7, LV.box 6 0), (20, .pv (.int IntKind.i64 x20))], [.box [LV.box 1 0, LV.mp 2, LV.mp 3], .box [LV.pv (PV.int IntKind.i64 sz), LV.own 4, LV.own 5], .mp m_2, .mp m_3, .sl (3, 1) ixm ixn ix, .sl (139, 128) bkm bkn bk, .arr c_6])) s.1 s.2.1 s.2.2.1 s.2.2.2, fun _ s => J s.1 s.2.1 s.2.2.1 s.2.2.2, fun s => μ s.1 s.2.1 s.2.2.1 s.2.2.2, fun e h => (gI e 20, oM h 2, oM h 3, oA h 6), [], [0, 1, 7, 20], [], fun p => ∀ (x20 : Int) (m_2 : List (PV × PV)) (m_3 : List (PV × PV)) (c_6 : List PV), p (x20, m_2, m_3, c_6), fun p h s => h s.1 s.2.1 s.2.2.1 s.2.2.2⟩ | _ => none) [0,1,2,3,4,5] (Try.f92.body.getD .skip) [.box 0 0, .pv (.int .i64 v)] [.box [.box 1 0, .mp 2, .mp 3], .box [.pv (.int .i64 sz), .own 4, .own 5], .mp kn, .mp ev, .sl (3, 1) ixm ixn ix, .sl (139, 128) bkm bkn bk] R = r_trie_maker_int_plain sz kn ev ixm ixn bkm bkn ix bk v J μ R := by kernel_rfl
theorem a_trie_maker_int_plain (sz : Int) (kn ev : List (PV × PV)) (ixm ixn bkm bkn : Bool) (ix bk : List (List PV)) (v : Int) (J : (Int) → (List (PV × PV)) → (List (PV × PV)) → (List PV) → Prop) (μ : (Int) → (List (PV × PV)) → (List (PV × PV)) → (List PV) → Nat) {R : LV → Hp → Prop} (h : r_trie_maker_int_plain sz kn ev ixm ixn bkm bkn ix bk v J μ R) : ACall Try.prog 92 [.box 0 0, .pv (.int .i64 v)] [.box [.box 1 0, .mp 2, .mp 3], .box [.pv (.int .i64 sz), .own 4, .own 5], .mp kn, .mp ev, .sl (3, 1) ixm ixn ix, .sl (139, 128) bkm bkn bk] R :=
  ACall.of Try.func92 (by kernel_rfl) (by kernel_rfl) (Nat.le_of_ble_eq_true (by kernel_rfl)) (Eq.mpr (e_trie_maker_int_plain sz kn ev ixm ixn bkm bkn ix bk v J μ R) h)

def r_trie_Build_int (sz z : Int) (n f : Bool) (es : List (List PV)) (J : (Int) → (Int) → (Int) → (Bool) → (List (List PV)) → (Bool) → (List (List PV)) → (List (PV × PV)) → (List (PV × PV)) → Prop) (μ : (Int) → (Int) → (Int) → (Bool) → (List (List PV)) → (Bool) → (List (List PV)) → (List (PV × PV)) → (List (PV × PV)) → Nat) (J2 : (Int) → (Int) → (Int) → (Int) → (Bool) → (List (List PV)) → (Bool) → (List (List PV)) → (List (PV × PV)) → (List (PV × PV)) → (Int) → (Int) → (Int) → (Int) → (Bool) → (List (List PV)) → (Bool) → (List (List PV)) → (List (PV × PV)) → (List (PV × PV)) → Prop) (μ2 : (Int) → (Int) → (Int) → (Int) → (Bool) → (List (List PV)) → (Bool) → (List (List PV)) → (List (PV × PV)) → (List (PV × PV)) → Nat) (J3 : (Int) → (Int) → (Int) → (Int) → (List PV) → (Bool) → (List (List PV)) → (Bool) → (List (List PV)) → (List (PV × PV)) → (List (PV × PV)) → (Int) → (Int) → (Int) → (Int) → (List PV) → (Bool) → (List (List PV)) → (Bool) → (List (List PV)) → (List (PV × PV)) → (List (PV × PV)) → Prop) (μ3 : (Int) → (Int) → (Int) → (Int) → (List PV) → (Bool) → (List (List PV)) → (Bool) → (List (List PV)) → (List (PV × PV)) → (List (PV × PV)) → Nat) (R : PV → Prop) : Prop :=
 if decide (sz < (1 : Int)) = true then R PV.nilp else PCall Try.prog 91 [PV.sl n f es, PV.int .i64 z, PV.int .i64 (0 : Int), PV.int .i64 (IntKind.i64.wrap (sz - (1 : Int)))] fun (v : PV) ↦ ∃ (vs : List PV), v = PV.tup vs ∧ vs.length = 2 ∧ ∃
 (x : PV), vs.head? = some x ∧ ∃ (n1 : Int), x = PV.int .i64 n1 ∧ ∃ (x1 : PV), vs.tail.head? = some x1 ∧ ∃ (n2 : Int), x1 = PV.int .i64 n2 ∧ (Same1 ([(0, LV.pv (PV.int .i64 sz)), (1, LV.pv (PV.int .i64 z)), (2, LV.pv (PV.sl n f es)), (7,
 LV.box 0 0), (8, LV.box 1 0), (9, LV.pv (PV.int .i64 n1)), (10, LV.pv (PV.int .i64 n2)), (11, LV.pv (PV.int .i64 (0 : Int)))], [Ob.box [LV.pv (PV.int .i64 sz), LV.own 2, LV.own 3], Ob.box [LV.box 0 0, LV.mp 4, LV.mp 5], Ob.sl (3, 1) true
 true [], Ob.sl (139, 128) true true [], Ob.mp [], Ob.mp []]) ∧ J n1 n2 (0 : Int) true [] true [] [] []) ∧ ∀ (x9 x10 x11 : Int) (n_2 : Bool) (s_2 : List (List PV)) (n_3 : Bool) (s_3 : List (List PV)) (m_4 m_5 : List (PV × PV)), J x9 x10 x11
 n_2 s_2 n_3 s_3 m_4 m_5 → if decide (x11 < sz) = true then if decide (x11 > x10) = true then PCall Try.prog 91 [PV.sl n f es, PV.int .i64 z, PV.int .i64 x11, PV.int .i64 (IntKind.i64.wrap (sz - (1 : Int)))] fun (v1 : PV) ↦ ∃ (vs1 : List
 PV), v1 = PV.tup vs1 ∧ vs1.length = 2 ∧ ∃ (x2 : PV), vs1.head? = some x2 ∧ ∃ (n3 : Int), x2 = PV.int .i64 n3 ∧ ∃ (x3 : PV), vs1.tail.head? = some x3 ∧ ∃ (n4 : Int), x3 = PV.int .i64 n4 ∧ if decide (n4 ≥ IntKind.i64.wrap ((if sz <
 IntKind.i64.wrap (x11 + (128 : Int)) then sz else IntKind.i64.wrap (x11 + (128 : Int))) - (1 : Int))) = true then ACall Try.prog 92 [LV.box 0 0, LV.pv (PV.int .i64 n3)] [Ob.box [LV.box 1 0, LV.mp 2, LV.mp 3], Ob.box [LV.pv (PV.int .i64 sz),
 LV.own 4, LV.own 5], Ob.mp m_4, Ob.mp m_5, Ob.sl (3, 1) false n_2 s_2, Ob.sl (139, 128) false n_3 s_3] fun (r : LV) (h' : Hp) ↦ ∃ (t : Int × List (PV × PV) × List (PV × PV) × Bool × List (List PV)), (r = LV.pv (PV.int .i64 t.1) ∧ h' =
 [Ob.box [LV.box 1 0, LV.mp 2, LV.mp 3], Ob.box [LV.pv (PV.int .i64 sz), LV.own 4, LV.own 5], Ob.mp t.snd.fst, Ob.mp t.snd.snd.fst, Ob.sl (3, 1) false n_2 s_2, Ob.sl (139, 128) true t.snd.snd.snd.fst t.snd.snd.snd.snd]) ∧ (True ∧ ((3, 1) =
 (3, 1) ∧ n_2 = n_2 ∧ s_2.length = s_2.length) ∧ True ∧ True ∧ True ∧ True ∧ True) ∧ (Same1 ([(0, LV.pv (PV.int .i64 sz)), (1, LV.pv (PV.int .i64 z)), (2, LV.pv (PV.sl n f es)), (7, LV.box 0 0), (8, LV.box 1 0), (9, LV.pv (PV.int .i64 n3)),
 (10, LV.pv (PV.int .i64 n4)), (11, LV.pv (PV.int .i64 x11)), (13, LV.pv (PV.int .i64 t.1))], [Ob.box [LV.pv (PV.int .i64 sz), LV.own 2, LV.own 3], Ob.box [LV.box 0 0, LV.mp 4, LV.mp 5], Ob.sl (3, 1) true n_2 s_2, Ob.sl (139, 128) true
 t.snd.snd.snd.fst t.snd.snd.snd.snd, Ob.mp t.snd.fst, Ob.mp t.snd.snd.fst]) ∧ J2 n3 n4 x11 t.1 n_2 s_2 t.snd.snd.snd.fst t.snd.snd.snd.snd t.snd.fst t.snd.snd.fst n3 n4 x11 t.1 n_2 s_2 t.snd.snd.snd.fst t.snd.snd.snd.snd t.snd.fst
 t.snd.snd.fst) ∧ ∀ (x91 x101 x111 x13 : Int) (n_21 : Bool) (s_21 : List (List PV)) (n_31 : Bool) (s_31 : List (List PV)) (m_41 m_51 : List (PV × PV)), J2 n3 n4 x11 t.1 n_2 s_2 t.snd.snd.snd.fst t.snd.snd.snd.snd t.snd.fst t.snd.snd.fst x91
 x101 x111 x13 n_21 s_21 n_31 s_31 m_41 m_51 → if (decide (x111 < sz) && decide (x101 ≥ IntKind.i64.wrap ((if sz < IntKind.i64.wrap (x111 + (128 : Int)) then sz else IntKind.i64.wrap (x111 + (128 : Int))) - (1 : Int)))) = true then (szOK
 [[PV.int .i64 x13]] 1 ∧ (s_21.length + 1) * 8 ≤ 140737488355328) ∧ Same1 ([(0, LV.pv (PV.int .i64 sz)), (1, LV.pv (PV.int .i64 z)), (2, LV.pv (PV.sl n f es)), (7, LV.box 0 0), (8, LV.box 1 0), (9, LV.pv (PV.int .i64 x91)), (10, LV.pv
 (PV.int .i64 x101)), (11, LV.pv (PV.int .i64 (IntKind.i64.wrap (x111 + (128 : Int))))), (13, LV.pv (PV.int .i64 x13))], [Ob.box [LV.pv (PV.int .i64 sz), LV.own 2, LV.own 3], Ob.box [LV.box 0 0, LV.mp 4, LV.mp 5], Ob.sl (3, 1) true (n_21 &&
 false) (s_21 ++ [[PV.int .i64 x13]]), Ob.sl (139, 128) true n_31 s_31, Ob.mp m_41, Ob.mp m_51]) ∧ J2 n3 n4 x11 t.1 n_2 s_2 t.snd.snd.snd.fst t.snd.snd.snd.snd t.snd.fst t.snd.snd.fst x91 x101 (IntKind.i64.wrap (x111 + (128 : Int))) x13
 (n_21 && false) (s_21 ++ [[PV.int .i64 x13]]) n_31 s_31 m_41 m_51 ∧ μ2 x91 x101 (IntKind.i64.wrap (x111 + (128 : Int))) x13 (n_21 && false) (s_21 ++ [[PV.int .i64 x13]]) n_31 s_31 m_41 m_51 < μ2 x91 x101 x111 x13 n_21 s_21 n_31 s_31 m_41
 m_51 else Same1 ([(0, LV.pv (PV.int .i64 sz)), (1, LV.pv (PV.int .i64 z)), (2, LV.pv (PV.sl n f es)), (7, LV.box 0 0), (8, LV.box 1 0), (9, LV.pv (PV.int .i64 x91)), (10, LV.pv (PV.int .i64 x101)), (11, LV.pv (PV.int .i64 (IntKind.i64.wrap
 (IntKind.i64.wrap (x111 - (128 : Int)) + (128 : Int)))))], [Ob.box [LV.pv (PV.int .i64 sz), LV.own 2, LV.own 3], Ob.box [LV.box 0 0, LV.mp 4, LV.mp 5], Ob.sl (3, 1) true n_21 s_21, Ob.sl (139, 128) true n_31 s_31, Ob.mp m_41, Ob.mp m_51]) ∧
 J x91 x101 (IntKind.i64.wrap (IntKind.i64.wrap (x111 - (128 : Int)) + (128 : Int))) n_21 s_21 n_31 s_31 m_41 m_51 ∧ μ x91 x101 (IntKind.i64.wrap (IntKind.i64.wrap (x111 - (128 : Int)) + (128 : Int))) n_21 s_21 n_31 s_31 m_41 m_51 < μ x9 x10
 x11 n_2 s_2 n_3 s_3 m_4 m_5 else (Same1 ([(0, LV.pv (PV.int .i64 sz)), (1, LV.pv (PV.int .i64 z)), (2, LV.pv (PV.sl n f es)), (7, LV.box 0 0), (8, LV.box 1 0), (9, LV.pv (PV.int .i64 n3)), (10, LV.pv (PV.int .i64 n4)), (11, LV.pv (PV.int
 .i64 x11)), (14, LV.box 2 0), (88, LV.pv (PV.int .i64 (0 : Int)))], [Ob.box [LV.pv (PV.int .i64 sz), LV.own 3, LV.own 4], Ob.box [LV.box 0 0, LV.mp 5, LV.mp 6], Ob.arr (List.replicate 128 (PV.int .i64 (0 : Int))), Ob.sl (3, 1) true n_2 s_2,
 Ob.sl (139, 128) true n_3 s_3, Ob.mp m_4, Ob.mp m_5]) ∧ J3 n3 n4 x11 (0 : Int) (List.replicate 128 (PV.int .i64 (0 : Int))) n_2 s_2 n_3 s_3 m_4 m_5 n3 n4 x11 (0 : Int) (List.replicate 128 (PV.int .i64 (0 : Int))) n_2 s_2 n_3 s_3 m_4 m_5) ∧
 ∀ (x91 x101 x111 x88 : Int) (c_2 : List PV) (n_31 : Bool) (s_31 : List (List PV)) (n_4 : Bool) (s_4 : List (List PV)) (m_51 m_6 : List (PV × PV)), J3 n3 n4 x11 (0 : Int) (List.replicate 128 (PV.int .i64 (0 : Int))) n_2 s_2 n_3 s_3 m_4 m_5
 x91 x101 x111 x88 c_2 n_31 s_31 n_4 s_4 m_51 m_6 → if decide (x88 < (128 : Int)) = true then if (decide (IntKind.i64.wrap (x111 + x88) > x101) && decide (IntKind.i64.wrap (x111 + x88) < sz)) = true then PCall Try.prog 91 [PV.sl n f es,
 PV.int .i64 z, PV.int .i64 (IntKind.i64.wrap (x111 + x88)), PV.int .i64 (IntKind.i64.wrap (sz - (1 : Int)))] fun (v2 : PV) ↦ ∃ (vs2 : List PV), v2 = PV.tup vs2 ∧ vs2.length = 2 ∧ ∃ (x4 : PV), vs2.head? = some x4 ∧ ∃ (n5 : Int), x4 = PV.int
 .i64 n5 ∧ ∃ (x5 : PV), vs2.tail.head? = some x5 ∧ ∃ (n6 : Int), x5 = PV.int .i64 n6 ∧ ((0 : Int) ≤ x88 ∧ x88 < (↑128 : Int)) ∧ (1 = 1 ∧ 0 + x88.toNat * 1 + (1 : Nat) ≤ c_2.length) ∧ Same1 ([(0, LV.pv (PV.int .i64 sz)), (1, LV.pv (PV.int
 .i64 z)), (2, LV.pv (PV.sl n f es)), (7, LV.box 0 0), (8, LV.box 1 0), (9, LV.pv (PV.int .i64 n5)), (10, LV.pv (PV.int .i64 n6)), (11, LV.pv (PV.int .i64 x111)), (14, LV.box 2 0), (88, LV.pv (PV.int .i64 (IntKind.i64.wrap (x88 + (1 :
 Int)))))], [Ob.box [LV.pv (PV.int .i64 sz), LV.own 3, LV.own 4], Ob.box [LV.box 0 0, LV.mp 5, LV.mp 6], Ob.arr (spl c_2 (0 + x88.toNat * 1) [PV.int .i64 n5]), Ob.sl (3, 1) true n_31 s_31, Ob.sl (139, 128) true n_4 s_4, Ob.mp m_51, Ob.mp
 m_6]) ∧ J3 n3 n4 x11 (0 : Int) [PV.int .i64 (0 : Int), PV.int .i64 (0 : Int), PV.int .i64 (0 : Int), PV.int .i64 (0 : Int), PV.int .i64 (0 : Int), PV.int .i64 (0 : Int), PV.int .i64 (0 : Int), PV.int .i64 (0 : Int), PV.int .i64 (0 : Int),
 PV.int .i64 (0 : Int), PV.int .i64 (0 : Int), PV.int .i64 (0 : Int), PV.int .i64 (0 : Int), PV.int .i64 (0 : Int), PV.int .i64 (0 : Int), PV.int .i64 (0 : Int), PV.int .i64 (0 : Int), PV.int .i64 (0 : Int), PV.int .i64 (0 : Int), PV.int
 .i64 (0 : Int), PV.int .i64 (0 : Int), PV.int .i64 (0 : Int), PV.int .i64 (0 : Int), PV.int .i64 (0 : Int), PV.int .i64 (0 : Int), PV.int .i64 (0 : Int), PV.int .i64 (0 : Int), PV.int .i64 (0 : Int), PV.int .i64 (0 : Int), PV.int .i64 (0 :
 Int), PV.int .i64 (0 : Int), PV.int .i64 (0 : Int), PV.int .i64 (0 : Int), PV.int .i64 (0 : Int), PV.int .i64 (0 : Int), PV.int .i64 (0 : Int), PV.int .i64 (0 : Int), PV.int .i64 (0 : Int), PV.int .i64 (0 : Int), PV.int .i64 (0 : Int),
 PV.int .i64 (0 : Int), PV.int .i64 (0 : Int), PV.int .i64 (0 : Int), PV.int .i64 (0 : Int), PV.int .i64 (0 : Int), PV.int .i64 (0 : Int), PV.int .i64 (0 : Int), PV.int .i64 (0 : Int), PV.int .i64 (0 : Int), PV.int .i64 (0 : Int), PV.int
 .i64 (0 : Int), PV.int .i64 (0 : Int), PV.int .i64 (0 : Int), PV.int .i64 (0 : Int), PV.int .i64 (0 : Int), PV.int .i64 (0 : Int), PV.int .i64 (0 : Int), PV.int .i64 (0 : Int), PV.int .i64 (0 : Int), PV.int .i64 (0 : Int), PV.int .i64 (0 :
 Int), PV.int .i64 (0 : Int), PV.int .i64 (0 : Int), PV.int .i64 (0 : Int), PV.int .i64 (0 : Int), PV.int .i64 (0 : Int), PV.int .i64 (0 : Int), PV.int .i64 (0 : Int), PV.int .i64 (0 : Int), PV.int .i64 (0 : Int), PV.int .i64 (0 : Int),
 PV.int .i64 (0 : Int), PV.int .i64 (0 : Int), PV.int .i64 (0 : Int), PV.int .i64 (0 : Int), PV.int .i64 (0 : Int), PV.int .i64 (0 : Int), PV.int .i64 (0 : Int), PV.int .i64 (0 : Int), PV.int .i64 (0 : Int), PV.int .i64 (0 : Int), PV.int
 .i64 (0 : Int), PV.int .i64 (0 : Int), PV.int .i64 (0 : Int), PV.int .i64 (0 : Int), PV.int .i64 (0 : Int), PV.int .i64 (0 : Int), PV.int .i64 (0 : Int), PV.int .i64 (0 : Int), PV.int .i64 (0 : Int), PV.int .i64 (0 : Int), PV.int .i64 (0 :
 Int), PV.int .i64 (0 : Int), PV.int .i64 (0 : Int), PV.int .i64 (0 : Int), PV.int .i64 (0 : Int), PV.int .i64 (0 : Int), PV.int .i64 (0 : Int), PV.int .i64 (0 : Int), PV.int .i64 (0 : Int), PV.int .i64 (0 : Int), PV.int .i64 (0 : Int),
 PV.int .i64 (0 : Int), PV.int .i64 (0 : Int), PV.int .i64 (0 : Int), PV.int .i64 (0 : Int), PV.int .i64 (0 : Int), PV.int .i64 (0 : Int), PV.int .i64 (0 : Int), PV.int .i64 (0 : Int), PV.int .i64 (0 : Int), PV.int .i64 (0 : Int), PV.int
 .i64 (0 : Int), PV.int .i64 (0 : Int), PV.int .i64 (0 : Int), PV.int .i64 (0 : Int), PV.int .i64 (0 : Int), PV.int .i64 (0 : Int), PV.int .i64 (0 : Int), PV.int .i64 (0 : Int), PV.int .i64 (0 : Int), PV.int .i64 (0 : Int), PV.int .i64 (0 :
 Int), PV.int .i64 (0 : Int), PV.int .i64 (0 : Int), PV.int .i64 (0 : Int), PV.int .i64 (0 : Int), PV.int .i64 (0 : Int)] n_2 s_2 n_3 s_3 m_4 m_5 n5 n6 x111 (IntKind.i64.wrap (x88 + (1 : Int))) (spl c_2 (0 + x88.toNat * 1) [PV.int .i64 n5])
 n_31 s_31 n_4 s_4 m_51 m_6 ∧ μ3 n5 n6 x111 (IntKind.i64.wrap (x88 + (1 : Int))) (spl c_2 (0 + x88.toNat * 1) [PV.int .i64 n5]) n_31 s_31 n_4 s_4 m_51 m_6 < μ3 x91 x101 x111 x88 c_2 n_31 s_31 n_4 s_4 m_51 m_6 else ((0 : Int) ≤ x88 ∧ x88 <
 (↑128 : Int)) ∧ (1 = 1 ∧ 0 + x88.toNat * 1 + 1 ≤ c_2.length) ∧ Same1 ([(0, LV.pv (PV.int .i64 sz)), (1, LV.pv (PV.int .i64 z)), (2, LV.pv (PV.sl n f es)), (7, LV.box 0 0), (8, LV.box 1 0), ((9 : Nat), LV.pv (PV.int .i64 x91)), (10, LV.pv
 (PV.int .i64 x101)), (11, LV.pv (PV.int .i64 x111)), (14, LV.box 2 0), (88, LV.pv (PV.int .i64 (IntKind.i64.wrap (x88 + (1 : Int)))))], [Ob.box [LV.pv (PV.int .i64 sz), LV.own 3, LV.own 4], Ob.box [LV.box 0 0, LV.mp 5, LV.mp 6], Ob.arr (spl
 c_2 (0 + x88.toNat * 1) [PV.int .i64 x91]), Ob.sl (3, 1) true n_31 s_31, Ob.sl (139, 128) true n_4 s_4, Ob.mp m_51, Ob.mp m_6]) ∧ J3 n3 n4 x11 (0 : Int) (List.replicate 128 (PV.int .i64 (0 : Int))) n_2 s_2 n_3 s_3 m_4 m_5 x91 x101 x111
 (IntKind.i64.wrap (x88 + (1 : Int))) (spl c_2 (0 + x88.toNat * 1) [PV.int .i64 x91]) n_31 s_31 n_4 s_4 m_51 m_6 ∧ μ3 x91 x101 x111 (IntKind.i64.wrap (x88 + (1 : Int))) (spl c_2 (0 + x88.toNat * 1) [PV.int .i64 x91]) n_31 s_31 n_4 s_4 m_51
 m_6 < μ3 x91 x101 x111 x88 c_2 n_31 s_31 n_4 s_4 m_51 m_6 else 128 ≤ (List.drop 0 c_2).length ∧ (ACall Try.prog 93 [LV.box 0 0, LV.pv (PV.agg (List.take 128 (List.drop 0 c_2)))] [Ob.box [LV.box 1 0, LV.mp 2, LV.mp 3], Ob.box [LV.pv (PV.int
 .i64 sz), LV.own 4, LV.own 5], Ob.mp m_51, Ob.mp m_6, Ob.sl (3, 1) false n_31 s_31, Ob.sl (139, 128) false n_4 s_4] fun (r : LV) (h' : Hp) ↦ ∃ (t : Int × List (PV × PV) × Bool × List (List PV)), (r = LV.pv (PV.int .i64 t.1) ∧ h' = [Ob.box
 [LV.box 1 0, LV.mp 2, LV.mp 3], Ob.box [LV.pv (PV.int .i64 sz), LV.own 4, LV.own 5], Ob.mp t.snd.fst, Ob.mp m_6, Ob.sl (3, 1) false n_31 s_31, Ob.sl (139, 128) true t.snd.snd.fst t.snd.snd.snd]) ∧ (True ∧ ((3, 1) = (3, 1) ∧ n_31 = n_31 ∧
 s_31.length = s_31.length) ∧ True ∧ True ∧ True ∧ True ∧ True) ∧ (szOK [[PV.int .i64 t.1]] 1 ∧ (s_31.length + 1) * 8 ≤ 140737488355328) ∧ Same1 ([(0, LV.pv (PV.int .i64 sz)), (1, LV.pv (PV.int .i64 z)), (2, LV.pv (PV.sl n f es)), (7, LV.box
 0 0), (8, LV.box 1 0), (9, LV.pv (PV.int .i64 x91)), (10, LV.pv (PV.int .i64 x101)), (11, LV.pv (PV.int .i64 (IntKind.i64.wrap (x111 + (128 : Int)))))], [Ob.box [LV.pv (PV.int .i64 sz), LV.own 2, LV.own 3], Ob.box [LV.box 0 0, LV.mp 4,
 LV.mp 5], Ob.sl ((3 : Nat), 1) true (n_31 && false) (s_31 ++ [[PV.int .i64 t.1]]), Ob.sl (139, 128) true t.snd.snd.fst t.snd.snd.snd, Ob.mp t.snd.fst, Ob.mp m_6]) ∧ J x91 x101 (IntKind.i64.wrap (x111 + (128 : Int))) (n_31 && false) (s_31 ++
 [[PV.int .i64 t.1]]) t.snd.snd.fst t.snd.snd.snd t.snd.fst m_6 ∧ μ x91 x101 (IntKind.i64.wrap (x111 + (128 : Int))) (n_31 && false) (s_31 ++ [[PV.int .i64 t.1]]) t.snd.snd.fst t.snd.snd.snd t.snd.fst m_6 < μ x9 x10 x11 n_2 s_2 n_3 s_3 m_4
 m_5) ∧ ACall Try.prog 93 [LV.box 0 0, LV.pv (PV.agg (List.take 128 (List.drop 0 c_2)))] [Ob.box [LV.box 1 0, LV.mp 2, LV.mp 3], Ob.box [LV.pv (PV.int .i64 sz), LV.own 4, LV.own 5], Ob.mp m_51, Ob.mp m_6, Ob.sl (3, 1) false n_31 s_31, Ob.sl
 (139, 128) false n_4 s_4] fun (r : LV) (h' : Hp) ↦ ∃ (t : Int × List (PV × PV) × Bool × List (List PV)), (r = LV.pv (PV.int .i64 t.1) ∧ h' = [Ob.box [LV.box 1 0, LV.mp 2, LV.mp 3], Ob.box [LV.pv (PV.int .i64 sz), LV.own 4, LV.own 5], Ob.mp
 t.snd.fst, Ob.mp m_6, Ob.sl (3, 1) false n_31 s_31, Ob.sl (139, 128) true t.snd.snd.fst t.snd.snd.snd]) ∧ (True ∧ ((3, 1) = (3, 1) ∧ n_31 = n_31 ∧ s_31.length = s_31.length) ∧ True ∧ True ∧ True ∧ True ∧ True) ∧ (szOK [[PV.int .i64 t.1]] 1
 ∧ (s_31.length + 1) * 8 ≤ 140737488355328) ∧ Same1 ([(0, LV.pv (PV.int .i64 sz)), (1, LV.pv (PV.int .i64 z)), (2, LV.pv (PV.sl n f es)), (7, LV.box 0 0), (8, LV.box 1 0), (9, LV.pv (PV.int .i64 x91)), (10, LV.pv (PV.int .i64 x101)), (11,
 LV.pv (PV.int .i64 (IntKind.i64.wrap (x111 + (128 : Int)))))], [Ob.box [LV.pv (PV.int .i64 sz), LV.own 2, LV.own 3], Ob.box [LV.box 0 0, LV.mp 4, LV.mp 5], Ob.sl (3, 1) true (n_31 && false) (s_31 ++ [[PV.int .i64 t.1]]), Ob.sl (139, 128)
 true t.snd.snd.fst t.snd.snd.snd, Ob.mp t.snd.fst, Ob.mp m_6]) ∧ J x91 x101 (IntKind.i64.wrap (x111 + (128 : Int))) (n_31 && false) (s_31 ++ [[PV.int .i64 t.1]]) t.snd.snd.fst t.snd.snd.snd t.snd.fst m_6 ∧ μ x91 x101 (IntKind.i64.wrap (x111
 + (128 : Int))) (n_31 && false) (s_31 ++ [[PV.int .i64 t.1]]) t.snd.snd.fst t.snd.snd.snd t.snd.fst m_6 < μ x9 x10 x11 n_2 s_2 n_3 s_3 m_4 m_5 else if decide (x10 ≥ IntKind.i64.wrap ((if sz < IntKind.i64.wrap (x11 + (128 : Int)) then sz
 else IntKind.i64.wrap (x11 + (128 : Int))) - (1 : Int))) = true then ACall Try.prog 92 [LV.box 0 0, LV.pv (PV.int .i64 x9)] [Ob.box [LV.box 1 0, LV.mp 2, LV.mp 3], Ob.box [LV.pv (PV.int .i64 sz), LV.own 4, LV.own 5], Ob.mp m_4, Ob.mp m_5,
 Ob.sl (3, 1) false n_2 s_2, Ob.sl (139, 128) false n_3 s_3] fun (r : LV) (h' : Hp) ↦ ∃ (t : Int × List (PV × PV) × List (PV × PV) × Bool × List (List PV)), (r = LV.pv (PV.int .i64 t.1) ∧ h' = [Ob.box [LV.box 1 0, LV.mp 2, LV.mp 3], Ob.box
 [LV.pv (PV.int .i64 sz), LV.own 4, LV.own 5], Ob.mp t.snd.fst, Ob.mp t.snd.snd.fst, Ob.sl (3, 1) false n_2 s_2, Ob.sl (139, 128) true t.snd.snd.snd.fst t.snd.snd.snd.snd]) ∧ (True ∧ ((3, 1) = (3, 1) ∧ n_2 = n_2 ∧ s_2.length = s_2.length) ∧
 True ∧ True ∧ True ∧ True ∧ True) ∧ (Same1 ([(0, LV.pv (PV.int .i64 sz)), (1, LV.pv (PV.int .i64 z)), (2, LV.pv (PV.sl n f es)), (7, LV.box 0 0), (8, LV.box 1 0), (9, LV.pv (PV.int .i64 x9)), (10, LV.pv (PV.int .i64 x10)), (11, LV.pv
 (PV.int .i64 x11)), (13, LV.pv (PV.int .i64 t.1))], [Ob.box [LV.pv (PV.int .i64 sz), LV.own 2, LV.own 3], Ob.box [LV.box 0 0, LV.mp 4, LV.mp 5], Ob.sl (3, 1) true n_2 s_2, Ob.sl (139, 128) true t.snd.snd.snd.fst t.snd.snd.snd.snd, Ob.mp
 t.snd.fst, Ob.mp t.snd.snd.fst]) ∧ J2 x9 x10 x11 t.1 n_2 s_2 t.snd.snd.snd.fst t.snd.snd.snd.snd t.snd.fst t.snd.snd.fst x9 x10 x11 t.1 n_2 s_2 t.snd.snd.snd.fst t.snd.snd.snd.snd t.snd.fst t.snd.snd.fst) ∧ ∀ (x91 x101 x111 x13 : Int) (n_21
 : Bool) (s_21 : List (List PV)) (n_31 : Bool) (s_31 : List (List PV)) (m_41 m_51 : List (PV × PV)), J2 x9 x10 x11 t.1 n_2 s_2 t.snd.snd.snd.fst t.snd.snd.snd.snd t.snd.fst t.snd.snd.fst x91 x101 x111 x13 n_21 s_21 n_31 s_31 m_41 m_51 → if
 (decide (x111 < sz) && decide (x101 ≥ IntKind.i64.wrap ((if sz < IntKind.i64.wrap (x111 + (128 : Int)) then sz else IntKind.i64.wrap (x111 + (128 : Int))) - (1 : Int)))) = true then (szOK [[PV.int .i64 x13]] 1 ∧ (s_21.length + 1) * 8 ≤
 (140737488355328 : Nat)) ∧ Same1 ([(0, LV.pv (PV.int .i64 sz)), (1, LV.pv (PV.int .i64 z)), (2, LV.pv (PV.sl n f es)), (7, LV.box 0 0), (8, LV.box 1 0), (9, LV.pv (PV.int .i64 x91)), (10, LV.pv (PV.int .i64 x101)), (11, LV.pv (PV.int .i64
 (IntKind.i64.wrap (x111 + (128 : Int))))), (13, LV.pv (PV.int .i64 x13))], [Ob.box [LV.pv (PV.int .i64 sz), LV.own 2, LV.own 3], Ob.box [LV.box 0 0, LV.mp 4, LV.mp 5], Ob.sl (3, 1) true (n_21 && false) (s_21 ++ [[PV.int .i64 x13]]), Ob.sl
 (139, 128) true n_31 s_31, Ob.mp m_41, Ob.mp m_51]) ∧ J2 x9 x10 x11 t.1 n_2 s_2 t.snd.snd.snd.fst t.snd.snd.snd.snd t.snd.fst t.snd.snd.fst x91 x101 (IntKind.i64.wrap (x111 + (128 : Int))) x13 (n_21 && false) (s_21 ++ [[PV.int .i64 x13]])
 n_31 s_31 m_41 m_51 ∧ μ2 x91 x101 (IntKind.i64.wrap (x111 + (128 : Int))) x13 (n_21 && false) (s_21 ++ [[PV.int .i64 x13]]) n_31 s_31 m_41 m_51 < μ2 x91 x101 x111 x13 n_21 s_21 n_31 s_31 m_41 m_51 else Same1 ([(0, LV.pv (PV.int .i64 sz)),
 (1, LV.pv (PV.int .i64 z)), (2, LV.pv (PV.sl n f es)), (7, LV.box 0 0), (8, LV.box 1 0), (9, LV.pv (PV.int .i64 x91)), ((10 : Nat), LV.pv (PV.int .i64 x101)), (11, LV.pv (PV.int .i64 (IntKind.i64.wrap (IntKind.i64.wrap (x111 - (128 : Int))
 + (128 : Int)))))], [Ob.box [LV.pv (PV.int .i64 sz), LV.own 2, LV.own 3], Ob.box [LV.box 0 0, LV.mp 4, LV.mp 5], Ob.sl (3, 1) true n_21 s_21, Ob.sl (139, 128) true n_31 s_31, Ob.mp m_41, Ob.mp m_51]) ∧ J x91 x101 (IntKind.i64.wrap
 (IntKind.i64.wrap (x111 - (128 : Int)) + (128 : Int))) n_21 s_21 n_31 s_31 m_41 m_51 ∧ μ x91 x101 (IntKind.i64.wrap (IntKind.i64.wrap (x111 - (128 : Int)) + (128 : Int))) n_21 s_21 n_31 s_31 m_41 m_51 < μ x9 x10 x11 n_2 s_2 n_3 s_3 m_4 m_5
 else (Same1 ([(0, LV.pv (PV.int .i64 sz)), (1, LV.pv (PV.int .i64 z)), (2, LV.pv (PV.sl n f es)), (7, LV.box 0 0), (8, LV.box 1 0), (9, LV.pv (PV.int .i64 x9)), ((10 : Nat), LV.pv (PV.int .i64 x10)), (11, LV.pv (PV.int .i64 x11)), (14,
 LV.box 2 0), (88, LV.pv (PV.int .i64 (0 : Int)))], [Ob.box [LV.pv (PV.int .i64 sz), LV.own 3, LV.own 4], Ob.box [LV.box 0 0, LV.mp 5, LV.mp 6], Ob.arr (List.replicate 128 (PV.int .i64 (0 : Int))), Ob.sl (3, 1) true n_2 s_2, Ob.sl (139, 128)
 true n_3 s_3, Ob.mp m_4, Ob.mp m_5]) ∧ J3 x9 x10 x11 (0 : Int) (List.replicate 128 (PV.int .i64 (0 : Int))) n_2 s_2 n_3 s_3 m_4 m_5 x9 x10 x11 (0 : Int) (List.replicate 128 (PV.int .i64 (0 : Int))) n_2 s_2 n_3 s_3 m_4 m_5) ∧ ∀ (x91 x101
 x111 x88 : Int) (c_2 : List PV) (n_31 : Bool) (s_31 : List (List PV)) (n_4 : Bool) (s_4 : List (List PV)) (m_51 m_6 : List (PV × PV)), J3 x9 x10 x11 (0 : Int) (List.replicate 128 (PV.int .i64 (0 : Int))) n_2 s_2 n_3 s_3 m_4 m_5 x91 x101
 x111 x88 c_2 n_31 s_31 n_4 s_4 m_51 m_6 → if decide (x88 < (128 : Int)) = true then if (decide (IntKind.i64.wrap (x111 + x88) > x101) && decide (IntKind.i64.wrap (x111 + x88) < sz)) = true then PCall Try.prog 91 [PV.sl n f es, PV.int .i64
 z, PV.int .i64 (IntKind.i64.wrap (x111 + x88)), PV.int .i64 (IntKind.i64.wrap (sz - (1 : Int)))] fun (v1 : PV) ↦ ∃ (vs1 : List PV), v1 = PV.tup vs1 ∧ vs1.length = (2 : Nat) ∧ ∃ (x2 : PV), vs1.head? = some x2 ∧ ∃ (n3 : Int), x2 = PV.int .i64
 n3 ∧ ∃ (x3 : PV), vs1.tail.head? = some x3 ∧ ∃ (n4 : Int), x3 = PV.int .i64 n4 ∧ ((0 : Int) ≤ x88 ∧ x88 < (↑128 : Int)) ∧ (1 = 1 ∧ 0 + x88.toNat * 1 + 1 ≤ c_2.length) ∧ Same1 ([(0, LV.pv (PV.int .i64 sz)), (1, LV.pv (PV.int .i64 z)), (2,
 LV.pv (PV.sl n f es)), (7, LV.box 0 0), (8, LV.box 1 0), (9, LV.pv (PV.int .i64 n3)), (10, LV.pv (PV.int .i64 n4)), (11, LV.pv (PV.int .i64 x111)), (14, LV.box 2 0), (88, LV.pv (PV.int .i64 (IntKind.i64.wrap (x88 + (1 : Int)))))], [Ob.box
 [LV.pv (PV.int .i64 sz), LV.own 3, LV.own 4], Ob.box [LV.box 0 0, LV.mp 5, LV.mp 6], Ob.arr (spl c_2 (0 + x88.toNat * 1) [PV.int .i64 n3]), Ob.sl (3, 1) true n_31 s_31, Ob.sl (139, 128) true n_4 s_4, Ob.mp m_51, Ob.mp m_6]) ∧ J3 x9 x10 x11
 (0 : Int) (List.replicate 128 (PV.int .i64 (0 : Int))) n_2 s_2 n_3 s_3 m_4 m_5 n3 n4 x111 (IntKind.i64.wrap (x88 + (1 : Int))) (spl c_2 (0 + x88.toNat * 1) [PV.int .i64 n3]) n_31 s_31 n_4 s_4 m_51 m_6 ∧ μ3 n3 n4 x111 (IntKind.i64.wrap (x88
 + (1 : Int))) (spl c_2 (0 + x88.toNat * 1) [PV.int .i64 n3]) n_31 s_31 n_4 s_4 m_51 m_6 < μ3 x91 x101 x111 x88 c_2 n_31 s_31 n_4 s_4 m_51 m_6 else ((0 : Int) ≤ x88 ∧ x88 < (↑128 : Int)) ∧ (1 = 1 ∧ 0 + x88.toNat * 1 + 1 ≤ c_2.length) ∧ Same1
 ([(0, LV.pv (PV.int .i64 sz)), (1, LV.pv (PV.int .i64 z)), ((2 : Nat), LV.pv (PV.sl n f es)), (7, LV.box 0 0), (8, LV.box 1 0), (9, LV.pv (PV.int .i64 x91)), (10, LV.pv (PV.int .i64 x101)), (11, LV.pv (PV.int .i64 x111)), (14, LV.box 2 0),
 (88, LV.pv (PV.int .i64 (IntKind.i64.wrap (x88 + (1 : Int)))))], [Ob.box [LV.pv (PV.int .i64 sz), LV.own 3, LV.own 4], Ob.box [LV.box 0 0, LV.mp 5, LV.mp 6], Ob.arr (spl c_2 (0 + x88.toNat * 1) [PV.int .i64 x91]), Ob.sl (3, 1) true n_31
 s_31, Ob.sl (139, 128) true n_4 s_4, Ob.mp m_51, Ob.mp m_6]) ∧ J3 x9 x10 x11 (0 : Int) (List.replicate 128 (PV.int .i64 (0 : Int))) n_2 s_2 n_3 s_3 m_4 m_5 x91 x101 x111 (IntKind.i64.wrap (x88 + (1 : Int))) (spl c_2 (0 + x88.toNat * 1)
 [PV.int .i64 x91]) n_31 s_31 n_4 s_4 m_51 m_6 ∧ μ3 x91 x101 x111 (IntKind.i64.wrap (x88 + (1 : Int))) (spl c_2 (0 + x88.toNat * 1) [PV.int .i64 x91]) n_31 s_31 n_4 s_4 m_51 m_6 < μ3 x91 x101 x111 x88 c_2 n_31 s_31 n_4 s_4 m_51 m_6 else 128
 ≤ (List.drop 0 c_2).length ∧ (ACall Try.prog 93 [LV.box 0 0, LV.pv (PV.agg (List.take 128 (List.drop 0 c_2)))] [Ob.box [LV.box 1 0, LV.mp 2, LV.mp 3], Ob.box [LV.pv (PV.int .i64 sz), LV.own 4, LV.own 5], Ob.mp m_51, Ob.mp m_6, Ob.sl ((3 :
 Nat), 1) false n_31 s_31, Ob.sl (139, 128) false n_4 s_4] fun (r : LV) (h' : Hp) ↦ ∃ (t : Int × List (PV × PV) × Bool × List (List PV)), (r = LV.pv (PV.int .i64 t.1) ∧ h' = [Ob.box [LV.box 1 0, LV.mp 2, LV.mp 3], Ob.box [LV.pv (PV.int .i64
 sz), LV.own 4, LV.own 5], Ob.mp t.snd.fst, Ob.mp m_6, Ob.sl (3, 1) false n_31 s_31, Ob.sl (139, 128) true t.snd.snd.fst t.snd.snd.snd]) ∧ (True ∧ ((3, 1) = (3, 1) ∧ n_31 = n_31 ∧ s_31.length = s_31.length) ∧ True ∧ True ∧ True ∧ True ∧
 True) ∧ (szOK [[PV.int .i64 t.1]] 1 ∧ (s_31.length + (1 : Nat)) * 8 ≤ 140737488355328) ∧ Same1 ([(0, LV.pv (PV.int .i64 sz)), (1, LV.pv (PV.int .i64 z)), (2, LV.pv (PV.sl n f es)), (7, LV.box 0 0), (8, LV.box 1 0), (9, LV.pv (PV.int .i64
 x91)), (10, LV.pv (PV.int .i64 x101)), (11, LV.pv (PV.int .i64 (IntKind.i64.wrap (x111 + (128 : Int)))))], [Ob.box [LV.pv (PV.int .i64 sz), LV.own 2, LV.own 3], Ob.box [LV.box 0 0, LV.mp 4, LV.mp 5], Ob.sl (3, 1) true (n_31 && false) (s_31
 ++ [[PV.int .i64 t.1]]), Ob.sl (139, 128) true t.snd.snd.fst t.snd.snd.snd, Ob.mp t.snd.fst, Ob.mp m_6]) ∧ J x91 x101 (IntKind.i64.wrap (x111 + (128 : Int))) (n_31 && false) (s_31 ++ [[PV.int .i64 t.1]]) t.snd.snd.fst t.snd.snd.snd
 t.snd.fst m_6 ∧ μ x91 x101 (IntKind.i64.wrap (x111 + (128 : Int))) (n_31 && false) (s_31 ++ [[PV.int .i64 t.1]]) t.snd.snd.fst t.snd.snd.snd t.snd.fst m_6 < μ x9 x10 x11 n_2 s_2 n_3 s_3 m_4 m_5) ∧ ACall Try.prog 93 [LV.box 0 0, LV.pv
 (PV.agg (List.take 128 (List.drop 0 c_2)))] [Ob.box [LV.box 1 0, LV.mp 2, LV.mp 3], Ob.box [LV.pv (PV.int .i64 sz), LV.own 4, LV.own 5], Ob.mp m_51, Ob.mp m_6, Ob.sl (3, 1) false n_31 s_31, Ob.sl (139, 128) false n_4 s_4] fun (r : LV) (h' :
 Hp) ↦ ∃ (t : Int × List (PV × PV) × Bool × List (List PV)), (r = LV.pv (PV.int .i64 t.1) ∧ h' = [Ob.box [LV.box 1 0, LV.mp 2, LV.mp 3], Ob.box [LV.pv (PV.int .i64 sz), LV.own 4, LV.own 5], Ob.mp t.snd.fst, Ob.mp m_6, Ob.sl (3, 1) false n_31
 s_31, Ob.sl (139, 128) true t.snd.snd.fst t.snd.snd.snd]) ∧ (True ∧ ((3, 1) = (3, 1) ∧ n_31 = n_31 ∧ s_31.length = s_31.length) ∧ True ∧ True ∧ True ∧ True ∧ True) ∧ (szOK [[PV.int .i64 t.1]] 1 ∧ (s_31.length + 1) * 8 ≤ 140737488355328) ∧
 Same1 ([(0, LV.pv (PV.int .i64 sz)), (1, LV.pv (PV.int .i64 z)), (2, LV.pv (PV.sl n f es)), (7, LV.box 0 0), (8, LV.box 1 0), (9, LV.pv (PV.int .i64 x91)), (10, LV.pv (PV.int .i64 x101)), (11, LV.pv (PV.int .i64 (IntKind.i64.wrap (x111 +
 (128 : Int)))))], [Ob.box [LV.pv (PV.int .i64 sz), LV.own 2, LV.own 3], Ob.box [LV.box 0 0, LV.mp 4, LV.mp 5], Ob.sl (3, 1) true (n_31 && false) (s_31 ++ [[PV.int .i64 t.1]]), Ob.sl (139, (128 : Nat)) true t.snd.snd.fst t.snd.snd.snd, Ob.mp
 t.snd.fst, Ob.mp m_6]) ∧ J x91 x101 (IntKind.i64.wrap (x111 + (128 : Int))) (n_31 && false) (s_31 ++ [[PV.int .i64 t.1]]) t.snd.snd.fst t.snd.snd.snd t.snd.fst m_6 ∧ μ x91 x101 (IntKind.i64.wrap (x111 + (128 : Int))) (n_31 && false) (s_31
 ++ [[PV.int .i64 t.1]]) t.snd.snd.fst t.snd.snd.snd t.snd.fst m_6 < μ x9 x10 x11 n_2 s_2 n_3 s_3 m_4 m_5 else R (PV.ptr [PV.int .i64 sz, PV.sl n_2 false s_2, PV.sl n_3 false s_3])
theorem e_trie_Build_int (sz z : Int) (n f : Bool) (es : List (List PV)) (J : (Int) → (Int) → (Int) → (Bool) → (List (List PV)) → (Bool) → (List (List PV)) → (List (PV × PV)) → (List (PV × PV)) → Prop) (μ : (Int) → (Int) → (Int) → (Bool) → (List (List PV)) → (Bool) → (List (List PV)) → (List (PV × PV)) → (List (PV × PV)) → Nat) (J2 : (Int) → (Int) → (Int) → (Int) → (Bool) → (List (List PV)) → (Bool) → (List (List PV)) → (List (PV × PV)) → (List (PV × PV)) → (Int) → (Int) → (Int) → (Int) → (Bool) → (List (List PV)) → (Bool) → (List (List PV)) → (List (PV × PV)) → (List (PV × PV)) → Prop) (μ2 : (Int) → (Int) → (Int) → (Int) → (Bool) → (List (List PV)) → (Bool) → (List (List PV)) → (List (PV × PV)) → (List (PV × PV)) → Nat) (J3 : (Int) → (Int) → (Int) → (Int) → (List PV) → (Bool) → (List (List PV)) → (Bool) → (List (List PV)) → (List (PV × PV)) → (List (PV × PV)) → (Int) → (Int) → (Int) → (Int) → (List PV) → (Bool) → (List (List PV)) → (Bool) → (List (List PV)) → (List (PV × PV)) → (List (PV × PV)) → Prop) (μ3 : (Int) → (Int) → (Int) → (Int) → (List PV) → (Bool) → (List (List PV)) → (Bool) → (List (List PV)) → (List (PV × PV)) → (List (PV × PV)) → Nat) (R : PV → Prop) : aFn Try.prog (fun zz_ => match zz_ with | 93 => some ⟨Int × List (PV × PV) × Bool × List (List PV), fun _ hs t => (.pv (.int .i64 t.1), match hs with | [m, r, .mp _, ev, ix, .sl a _ _ _] => [m, r, .mp t.2.1, ev, ix, .sl a true t.2.2.1 t.2.2.2] | h => h), none⟩ | 92 => some ⟨Int × List (PV × PV) × List (PV × PV) × Bool × List (List PV), fun _ hs t => (.pv (.int .i64 t.1), match hs with | [m, r, .mp _, .mp _, ix, .sl a _ _ _] => [m, r, .mp t.2.1, .mp t.2.2.1, ix, .sl a true t.2.2.2.1 t.2.2.2.2] | h => h), none⟩ | _ => none) Try.f69 [0, 1, 2, 6, 7, 8, 9, 10, 11, 12, 13, 14, 15, 17, 36, 41, 58, 73, 88, 89, 102] (fun zz_ => match zz_ with | 7 => some ⟨Int × Int × Int × Bool × (List (List PV)) × Bool × (List (List PV)) × (List (PV × PV)) × (List (PV × PV)), fun s => (fun (x9 : Int) (x10 : Int) (x11 : Int) (n_2 : Bool) (s_2 : List (List PV)) (n_3 : Bool) (s_3 : List (List PV)) (m_4 : List (PV × PV)) (m_5 : List (PV × PV)) => ([(0, LV.pv (PV.int IntKind.i64 sz)), (1, LV.pv (PV.int IntKind.i64 z)), (2, LV.pv (PV.sl n f es)), (7, LV.box 0 0), (8, LV.box 1 0), (9, .pv (.int IntKind.i64 x9)), (10, .pv (.int IntKind.i64 x10)), (11, .pv (.int IntKind.i64 x11))], [.box [LV.pv (PV.int IntKind.i64 sz), LV.own 2, LV.own 3], .box [LV.box 0 0, LV.mp 4, LV.mp 5], .sl (3, 1) true n_2 s_2, .sl (139, 128) true n_3 s_3, .mp m_4, .mp m_5])) s.1 s.2.1 s.2.2.1 s.2.2.2.1 s.2.2.2.2.1 s.2.2.2.2.2.1 s.2.2.2.2.2.2.1 s.2.2.2.2.2.2.2.1 s.2.2.2.2.2.2.2.2, fun _ s => J s.1 s.2.1 s.2.2.1 s.2.2.2.1 s.2.2.2.2.1 s.2.2.2.2.2.1 s.2.2.2.2.2.2.1 s.2.2.2.2.2.2.2.1 s.2.2.2.2.2.2.2.2, fun s => μ s.1 s.2.1 s.2.2.1 s.2.2.2.1 s.2.2.2.2.1 s.2.2.2.2.2.1 s.2.2.2.2.2.2.1 s.2.2.2.2.2.2.2.1 s.2.2.2.2.2.2.2.2, fun e h => (gI e 9, gI e 10, gI e 11, oN h 2, oS h 2, oN h 3, oS h 3, oM h 4, oM h 5), [(1000001, 3, 1), (1000002, 139, 128)], [0, 1, 2, 7, 8, 9, 10, 11], [], fun p => ∀ (x9 : Int) (x10 : Int) (x11 : Int) (n_2 : Bool) (s_2 : List (List PV)) (n_3 : Bool) (s_3 : List (List PV)) (m_4 : List (PV × PV)) (m_5 : List (PV × PV)), p (x9, x10, x11, n_2, s_2, n_3, s_3, m_4, m_5), fun p h s => h s.1 s.2.1 s.2.2.1 s.2.2.2.1 s.2.2.2.2.1 s.2.2.2.2.2.1 s.2.2.2.2.2.2.1 s.2.2.2.2.2.2.2.1 s.2.2.2.2.2.2.2.2⟩ | 14 => some ⟨Int × Int × Int × Int × Bool × (List (List PV)) × Bool × (List (List PV)) × (List (PV × PV)) × (List (PV × PV)), fun s => (fun (x9 : Int) (x10 : Int) (x11 : Int) (x13 : Int) (n_2 : Bool) (s_2 : List (List PV)) (n_3 : Bool) (s_3 : List (List PV)) (m_4 : List (PV × PV)) (m_5 : List (PV × PV)) => ([(0, LV.pv (PV.int IntKind.i64 sz)), (1, LV.pv (PV.int IntKind.i64 z)), (2, LV.pv (PV.sl n f es)), (7, LV.box 0 0), (8, LV.box 1 0), (9, .pv (.int IntKind.i64 x9)), (10, .pv (.int IntKind.i64 x10)), (11, .pv (.int IntKind.i64 x11)), (13, .pv (.int IntKind.i64 x13))], [.box [LV.pv (PV.int IntKind.i64 sz), LV.own 2, LV.own 3], .box [LV.box 0 0, LV.mp 4, LV.mp 5], .sl (3, 1) true n_2 s_2, .sl (139, 128) true n_3 s_3, .mp m_4, .mp m_5])) s.1 s.2.1 s.2.2.1 s.2.2.2.1 s.2.2.2.2.1 s.2.2.2.2.2.1 s.2.2.2.2.2.2.1 s.2.2.2.2.2.2.2.1 s.2.2.2.2.2.2.2.2.1 s.2.2.2.2.2.2.2.2.2, fun t s => J2 t.1 t.2.1 t.2.2.1 t.2.2.2.1 t.2.2.2.2.1 t.2.2.2.2.2.1 t.2.2.2.2.2.2.1 t.2.2.2.2.2.2.2.1 t.2.2.2.2.2.2.2.2.1 t.2.2.2.2.2.2.2.2.2 s.1 s.2.1 s.2.2.1 s.2.2.2.1 s.2.2.2.2.1 s.2.2.2.2.2.1 s.2.2.2.2.2.2.1 s.2.2.2.2.2.2.2.1 s.2.2.2.2.2.2.2.2.1 s.2.2.2.2.2.2.2.2.2, fun s => μ2 s.1 s.2.1 s.2.2.1 s.2.2.2.1 s.2.2.2.2.1 s.2.2.2.2.2.1 s.2.2.2.2.2.2.1 s.2.2.2.2.2.2.2.1 s.2.2.2.2.2.2.2.2.1 s.2.2.2.2.2.2.2.2.2, fun e h => (gI e 9, gI e 10, gI e 11, gI e 13, oN h 2, oS h 2, oN h 3, oS h 3, oM h 4, oM h 5), [], [0, 1, 2, 7, 8, 9, 10, 11, 13], [], fun p => ∀ (x9 : Int) (x10 : Int) (x11 : Int) (x13 : Int) (n_2 : Bool) (s_2 : List (List PV)) (n_3 : Bool) (s_3 : List (List PV)) (m_4 : List (PV × PV)) (m_5 : List (PV × PV)), p (x9, x10, x11, x13, n_2, s_2, n_3, s_3, m_4, m_5), fun p h s => h s.1 s.2.1 s.2.2.1 s.2.2.2.1 s.2.2.2.2.1 s.2.2.2.2.2.1 s.2.2.2.2.2.2.1 s.2.2.2.2.2.2.2.1 s.2.2.2.2.2.2.2.2.1 s.2.2.2.2.2.2.2.2.2⟩ | 20 => some ⟨Int × Int × Int × Int × (List PV) × Bool × (List (List PV)) × Bool × (List (List PV)) × (List (PV × PV)) × (List (PV × PV)), fun s => (fun (x9 : Int) (x10 : Int) (x11 : Int) (x88 : Int) (c_2 : List PV) (n_3 : Bool) (s_3 : List (List PV)) (n_4 : Bool) (s_4 : List (List PV)) (m_5 : List (PV × PV)) (m_6 : List (PV × PV)) => ([(0, LV.pv (PV.int IntKind.i64 sz)), (1, LV.pv (PV.int IntKind.i64 z)), (2, LV.pv (PV.sl n f es)), (7, LV.box 0 0), (8, LV.box 1 0), (9, .pv (.int IntKind.i64 x9)), (10, .pv (.int IntKind.i64 x10)), (11, .pv (.int IntKind.i64 x11)), (14, LV.box 2 0), (88, .pv (.int IntKind.i64 x88))], [.box [LV.pv (PV.int IntKind.i64 sz), LV.own 3, LV.own 4], .box [LV.box 0 0, LV.mp 5, LV.mp 6], .arr c_2, .sl (3, 1) true n_3 s_3, .sl (139, 128) true n_4 s_4, .mp m_5, .mp m_6])) s.1 s.2.1 s.2.2.1 s.2.2.2.1 s.2.2.2.2.1 s.2.2.2.2.2.1 s.2.2.2.2.2.2.1 s.2.2.2.2.2.2.2.1 s.2.2.2.2.2.2.2.2.1 s.2.2.2.2.2.2.2.2.2.1 s.2.2.2.2.2.2.2.2.2.2, fun t s => J3 t.1 t.2.1 t.2.2.1 t.2.2.2.1 t.2.2.2.2.1 t.2.2.2.2.2.1 t.2.2.2.2.2.2.1 t.2.2.2.2.2.2.2.1 t.2.2.2.2.2.2.2.2.1 t.2.2.2.2.2.2.2.2.2.1 t.2.2.2.2.2.2.2.2.2.2 s.1 s.2.1 s.2.2.1 s.2.2.2.1 s.2.2.2.2.1 s.2.2.2.2.2.1 s.2.2.2.2.2.2.1 s.2.2.2.2.2.2.2.1 s.2.2.2.2.2.2.2.2.1 s.2.2.2.2.2.2.2.2.2.1 s.2.2.2.2.2.2.2.2.2.2, fun s => μ3 s.1 s.2.1 s.2.2.1 s.2.2.2.1 s.2.2.2.2.1 s.2.2.2.2.2.1 s.2.2.2.2.2.2.1 s.2.2.2.2.2.2.2.1 s.2.2.2.2.2.2.2.2.1 s.2.2.2.2.2.2.2.2.2.1 s.2.2.2.2.2.2.2.2.2.2, fun e h => (gI e 9, gI e 10, gI e 11, gI e 88, oA h 2, oN h 3, oS h 3, oN h 4, oS h 4, oM h 5, oM h 6), [], [0, 1, 2, 7, 8, 9, 10, 11, 14, 88], [], fun p => ∀ (x9 : Int) (x10 : Int) (x11 : Int) (x88 : Int) (c_2 : List PV) (n_3 : Bool) (s_3 : List (List PV)) (n_4 : Bool) (s_4 : List (List PV)) (m_5 : List (PV × PV)) (m_6 : List (PV × PV)), p (x9, x10, x11, x88, c_2, n_3, s_3, n_4, s_4, m_5, m_6), fun p h s => h s.1 s.2.1 s.2.2.1 s.2.2.2.1 s.2.2.2.2.1 s.2.2.2.2.2.1 s.2.2.2.2.2.2.1 s.2.2.2.2.2.2.2.1 s.2.2.2.2.2.2.2.2.1 s.2.2.2.2.2.2.2.2.2.1 s.2.2.2.2.2.2.2.2.2.2⟩ | _ => none) (Try.f69.body.getD .skip) [.int .i64 sz, .int .i64 z, .sl n f es] R = r_trie_Build_int sz z n f es J μ J2 μ2 J3 μ3 R := by kernel_rfl
theorem a_trie_Build_int (sz z : Int) (n f : Bool) (es : List (List PV)) (J : (Int) → (Int) → (Int) → (Bool) → (List (List PV)) → (Bool) → (List (List PV)) → (List (PV × PV)) → (List (PV × PV)) → Prop) (μ : (Int) → (Int) → (Int) → (Bool) → (List (List PV)) → (Bool) → (List (List PV)) → (List (PV × PV)) → (List (PV × PV)) → Nat) (J2 : (Int) → (Int) → (Int) → (Int) → (Bool) → (List (List PV)) → (Bool) → (List (List PV)) → (List (PV × PV)) → (List (PV × PV)) → (Int) → (Int) → (Int) → (Int) → (Bool) → (List (List PV)) → (Bool) → (List (List PV)) → (List (PV × PV)) → (List (PV × PV)) → Prop) (μ2 : (Int) → (Int) → (Int) → (Int) → (Bool) → (List (List PV)) → (Bool) → (List (List PV)) → (List (PV × PV)) → (List (PV × PV)) → Nat) (J3 : (Int) → (Int) → (Int) → (Int) → (List PV) → (Bool) → (List (List PV)) → (Bool) → (List (List PV)) → (List (PV × PV)) → (List (PV × PV)) → (Int) → (Int) → (Int) → (Int) → (List PV) → (Bool) → (List (List PV)) → (Bool) → (List (List PV)) → (List (PV × PV)) → (List (PV × PV)) → Prop) (μ3 : (Int) → (Int) → (Int) → (Int) → (List PV) → (Bool) → (List (List PV)) → (Bool) → (List (List PV)) → (List (PV × PV)) → (List (PV × PV)) → Nat) {R : PV → Prop} (h : r_trie_Build_int sz z n f es J μ J2 μ2 J3 μ3 R) : PCall Try.prog 69 [.int .i64 sz, .int .i64 z, .sl n f es] R :=
  PCall.of Try.func69 (by kernel_rfl) (by kernel_rfl) (Nat.le_of_ble_eq_true (by kernel_rfl)) (Eq.mpr (e_trie_Build_int sz z n f es J μ J2 μ2 J3 μ3 R) h)

end Go.Eng
set_option linter.unusedVariables false
set_option linter.unusedSimpArgs false
namespace Go.Eng
open Go
/-! ### It may be forgotten where slices stood -/
theorem HRel.markH {w : World} {I : Nat → Prop} {G : Nat → Pl} {h : Hp} (n0 : Nat) (mv : List Nat) (hs : HRel w I G h) : HRel w I G (markH n0 mv 0 h) ∧ (∀ b, Owns (Go.Eng.markH n0 mv 0 h) G b → Owns h G b) ∧ Like G G h (Go.Eng.markH n0 mv 0 h) := by
  have hget : ∀ i, (Go.Eng.markH n0 mv 0 h)[i]? = (h[i]?).map (markO n0 mv i) := fun i => by rw [markH_get, Nat.zero_add]
  have hl : Like G G h (Go.Eng.markH n0 mv 0 h) := fun o ob ho => ⟨⟨_, by rw [hget, ho]; rfl, markO_like ob⟩, fun _ => rfl⟩
  have split : ∀ {i : Nat} {x : Ob}, (Go.Eng.markH n0 mv 0 h)[i]? = some x → ∃ ob, h[i]? = some ob ∧ x = markO n0 mv i ob := fun {i x} hx => by
    rw [hget] at hx
    cases hob : h[i]? with
    | none => rw [hob] at hx; cases hx
    | some ob => rw [hob] at hx; cases hx; exact ⟨ob, rfl, rfl⟩
  refine ⟨⟨fun i x hx => ?_, fun i j x y hx ax hy ay hb => ?_, fun i x hx ax => ?_, hs.cl⟩, fun b ⟨i, x, hx, ax, hb⟩ => ?_, hl⟩
  · obtain ⟨ob, hob, rfl⟩ := split hx
    have := hs.obs i ob hob
    cases ob with
    | dead => trivial
    | box cs => obtain ⟨vs, ty, e1, e2, e3⟩ := this; exact ⟨vs, ty, e1, e2, fun k v hv => ⟨(e3 k v hv).1.mono (Keeps.refl w I) hl, (e3 k v hv).2⟩⟩
    | arr cs => exact this
    | sl ty m n es => cases n <;> exact this
    | mp kvs => exact this
    | iter ty rem cur => exact this
  · obtain ⟨ob, hob, rfl⟩ := split hx
    obtain ⟨ob2, hob2, rfl⟩ := split hy
    exact hs.sep i j ob ob2 hob (markO_alive.1 ax) hob2 (markO_alive.1 ay) hb
  · obtain ⟨ob, hob, rfl⟩ := split hx
    exact hs.nI i ob hob (markO_alive.1 ax)
  · obtain ⟨ob, hob, rfl⟩ := split hx
    exact ⟨i, ob, hob, markO_alive.1 ax, hb⟩
theorem ACall.mark (n0 : Nat) (mv : List Nat) {P : Program} {f : Nat} {args : List LV} {h : Hp} {R R' : LV → Hp → Prop} (hc : ACall P f args h R) (hq : ∀ r h', R r h' → R' r (markH n0 mv 0 h')) : ACall P f args h R' := by
  refine ⟨hc.1, fun w I G cargs h1 h2 h3 => (hc.2 w I G cargs h1 h2 h3).mono fun e w' ⟨cv, r, h', I', G', e1, e2, e3, e4, e5⟩ => ?_⟩
  obtain ⟨m1, m2, m3⟩ := e3.markH n0 mv
  refine ⟨cv, r, markH n0 mv 0 h', I', G', e1, hq _ _ e2, m1, e4.mono (Keeps.refl _ _) m3, ⟨e5.1.trans (Tr.less m2), by rw [markH_length]; exact e5.2, fun o ob' ho hx hf => ?_⟩⟩
  rw [markH_get, Nat.zero_add] at hx
  cases hob : h'[o]? with
  | none => rw [hob] at hx; cases hx
  | some ob =>
    rw [hob] at hx; cases hx
    refine e5.stay o ob ho hob ?_
    revert hf
    cases ob with
    | sl ty m n es =>
      simp only [markO, Ob.fixed]
      cases Nat.ble n0 o || memB o mv <;> simp
    | _ => simp [markO, Ob.fixed]
end Go.Eng
set_option linter.unusedVariables false
set_option linter.unusedSimpArgs false
namespace Go.Eng.Trie
open Go Go.Eng
theorem keyCs_app {P : Program} : ∀ {ts us : List TypeId} {a b : List PV}, keyCs P ts a = true → keyCs P us b = true → keyCs P (ts ++ us) (a ++ b) = true
  | [], _, [], _, _, h => h
  | [], _, _ :: _, _, h, _ => by simp [keyCs] at h
  | t :: ts, _, [], _, h, _ => by simp [keyCs] at h
  | t :: ts, us, x :: r, b, h, h2 => by
    cases x with
    | int k a => simp only [keyCs, Bool.and_eq_true, List.cons_append] at h ⊢; exact ⟨h.1, keyCs_app h.2 h2⟩
    | bool a => simp only [keyCs, Bool.and_eq_true, List.cons_append] at h ⊢; exact ⟨h.1, keyCs_app h.2 h2⟩
    | _ => simp [keyCs] at h
theorem eqPVs_two : ∀ {a b c d : List PV}, a.length = b.length → eqPVs (a ++ c) (b ++ d) = (eqPVs a b && eqPVs c d)
  | [], [], _, _, _ => by simp [eqPVs]
  | [], _ :: _, _, _, h => by simp at h
  | _ :: _, [], _, _, h => by simp at h
  | x :: a, y :: b, c, d, h => by simp only [List.cons_append, eqPVs]; rw [eqPVs_two (by simpa using h), Bool.and_assoc]
/-- How values of a kind lie in cells. -/
structure Enc {α : Type} [DecidableEq α] (P : Program) (ts : List TypeId) (enc : α → List PV) : Prop where
  ks : ∀ a, keyCs P ts (enc a) = true
  inj : ∀ a b, eqPVs (enc a) (enc b) = decide (a = b)
section
variable {α : Type} {P : Program} {ts : List TypeId} {enc : α → List PV}
def cells (enc : α → List PV) (b : Blk α) : List PV := b.1.flatMap enc
variable [DecidableEq α]
theorem Enc.len (E : Enc P ts enc) (a : α) : (enc a).length = ts.length := keyCs_len (E.ks a)
theorem Enc.keys (E : Enc P ts enc) : ∀ l : List α, keyCs P (List.replicate l.length ts).flatten (l.flatMap enc) = true
  | [] => rfl
  | a :: l => by
    simp only [List.length_cons, List.replicate_succ, List.flatten_cons, List.flatMap_cons]
    exact keyCs_app (E.ks a) (E.keys l)
theorem Enc.flen (E : Enc P ts enc) : ∀ l : List α, (l.flatMap enc).length = l.length * ts.length
  | [] => by simp
  | a :: l => by simp only [List.flatMap_cons, List.length_append, List.length_cons, E.flen l, E.len a, Nat.add_mul, Nat.one_mul]; omega
theorem Enc.eqs (E : Enc P ts enc) : ∀ l m : List α, l.length = m.length → eqPVs (l.flatMap enc) (m.flatMap enc) = decide (l = m)
  | [], [], _ => rfl
  | [], _ :: _, h => by simp at h
  | _ :: _, [], h => by simp at h
  | a :: l, b :: m, h => by
    simp only [List.flatMap_cons]
    rw [eqPVs_two (by rw [E.len, E.len]), E.inj, E.eqs l m (by simpa using h)]
    by_cases h1 : a = b <;> by_cases h2 : l = m <;> simp [h1, h2]
theorem Enc.cells_len (E : Enc P ts enc) (b : Blk α) : (cells enc b).length = 128 * ts.length := by unfold cells; rw [E.flen, b.2]
theorem Enc.blkEq (E : Enc P ts enc) (a b : Blk α) : eqKey (.agg (cells enc a)) (.agg (cells enc b)) = decide (a = b) := by
  show eqPVs _ _ = _
  unfold cells
  rw [E.eqs _ _ (by rw [a.2, b.2])]
  by_cases h : a = b
  · simp [h]
  · have : a.1 ≠ b.1 := fun e => h (Subtype.ext e)
    simp [h, this]
theorem Enc.blkOk (E : Enc P ts enc) {kt : TypeId} (h1 : flatKey P kt = true) (h2 : cellKs P kt = (List.replicate 128 ts).flatten) (b : Blk α) : keyOk P kt (.agg (cells enc b)) = true := by
  simp only [keyOk, h1, h2, Bool.true_and]
  have := E.keys b.1
  rw [b.2] at this
  exact this
theorem Enc.blksOk (E : Enc P ts enc) {kt : TypeId} (h1 : flatKey P kt = true) (h2 : cellKs P kt = (List.replicate 128 ts).flatten) {β : Type} {ev : β → PV} (M : List (Blk α × β)) : keysOk P kt (encM (fun b => .agg (cells enc b)) ev M) := by
  intro kv h
  simp only [encM, List.mem_map] at h
  obtain ⟨p, _, rfl⟩ := h
  exact E.blkOk h1 h2 _
theorem Enc.valEq (E : Enc P ts enc) (a b : α) : eqKey (.agg (enc a)) (.agg (enc b)) = decide (a = b) := E.inj a b
theorem Enc.valOk (E : Enc P ts enc) {kt : TypeId} (h1 : flatKey P kt = true) (h2 : cellKs P kt = ts) (a : α) : keyOk P kt (.agg (enc a)) = true := by
  simp only [keyOk, h1, h2, Bool.true_and]; exact E.ks a
theorem Enc.valsOk (E : Enc P ts enc) {kt : TypeId} (h1 : flatKey P kt = true) (h2 : cellKs P kt = ts) {β : Type} {ev : β → PV} (M : List (α × β)) : keysOk P kt (encM (fun a => .agg (enc a)) ev M) := by
  intro kv h
  simp only [encM, List.mem_map] at h
  obtain ⟨p, _, rfl⟩ := h
  exact E.valOk h1 h2 _
/-- Cells of a block from one value on. -/
theorem Enc.at (E : Enc P ts enc) : ∀ (l : List α) (j : Nat) (hj : j < l.length), (l.flatMap enc).drop (j * ts.length) = enc l[j] ++ (l.drop (j + 1)).flatMap enc
  | a :: l, 0, _ => by simp
  | a :: l, j + 1, hj => by
    simp only [List.flatMap_cons, List.getElem_cons_succ, List.drop_succ_cons]
    rw [← E.at l j (by simpa using hj), List.drop_append]
    have h1 : (enc a).length ≤ (j + 1) * ts.length := by rw [E.len, Nat.add_mul, Nat.one_mul]; omega
    rw [List.drop_of_length_le h1, List.nil_append, E.len]
    congr 1
    rw [Nat.add_mul, Nat.one_mul]; omega
/-- One value put into a row of values. -/
theorem Enc.put (E : Enc P ts enc) (l : List α) (j : Nat) (hj : j < l.length) (v : α) : spl (l.flatMap enc) (j * ts.length) (enc v) = (l.set j v).flatMap enc := by
  have hl : l = l.take j ++ l[j] :: l.drop (j + 1) := by rw [← List.drop_eq_getElem_cons hj, List.take_append_drop]
  have htl : (l.take j).length = j := by rw [List.length_take]; omega
  have hset : l.set j v = l.take j ++ v :: l.drop (j + 1) := List.set_eq_take_append_cons_drop.trans (by rw [if_pos hj])
  rw [hset]
  unfold spl
  have e1 : l.flatMap enc = (l.take j).flatMap enc ++ (enc l[j] ++ (l.drop (j + 1)).flatMap enc) := by
    have h := congrArg (fun x : List α => x.flatMap enc) hl
    simp only [List.flatMap_append, List.flatMap_cons] at h
    exact h
  have l1 : ((l.take j).flatMap enc).length = j * ts.length := by rw [E.flen, htl]
  rw [e1, List.take_append_of_le_length (by omega), List.take_of_length_le (by omega), List.flatMap_append, List.flatMap_cons, List.append_assoc]
  congr 2
  rw [List.drop_append, List.drop_of_length_le (by omega), List.nil_append, l1, E.len, List.drop_append, List.drop_of_length_le (by rw [E.len]; omega), List.nil_append, E.len]
  have : j * ts.length + ts.length - j * ts.length - ts.length = 0 := by omega
  rw [this, List.drop_zero]
end
def ixs (l : List Int) : List (List PV) := l.map fun n => [.int .i64 n]
theorem ixs_len (l : List Int) : (ixs l).length = l.length := by simp [ixs]
theorem enc1_len (x : Int) : ([PV.int .i64 x] : List PV).length = 1 := rfl
def bks {α : Type} (enc : α → List PV) (l : List (Blk α)) : List (List PV) := l.map (cells enc)
theorem bks_len {α : Type} {enc : α → List PV} (l : List (Blk α)) : (bks enc l).length = l.length := by simp [bks]
end Go.Eng.Trie
set_option linter.unusedVariables false
set_option linter.unusedSimpArgs false
set_option maxRecDepth 100000
set_option linter.constructorNameAsVariable false
namespace Go.Eng
open Go Go.Proofs Go.Eng.Trie
def encI (n : Int) : List PV := [.int .i64 n]
theorem EI : Enc Try.prog [3] encI := ⟨fun a => by
  simp only [encI, keyCs, Bool.and_true]
  rw [show Try.prog.underlying 3 = some (.int .i64) by kernel_rfl]
  rfl, fun a b => by simp [encI, eqPVs, eqPV]; rfl⟩
def pcI (p : Pc Int) : List PV := [.int .i64 p.fr, .int .i64 p.to] ++ encI p.v
def pcsI (l : List (Pc Int)) : List (List PV) := l.map pcI
theorem pcI_len (p : Pc Int) : (pcI p).length = 3 := rfl
theorem pcsI_len (l : List (Pc Int)) : (pcsI l).length = l.length := by simp [pcsI]
def Pc.ok {α : Type} (p : Pc α) : Prop := (-9223372036854775808 ≤ p.fr - 1 ∧ p.fr - 1 ≤ 9223372036854775807)
theorem p139 (n f : Bool) (l : List (Pc Int)) (z i last : Int) (hl : l.length < 4611686018427387904) (hok : ∀ p ∈ l, Pc.ok p) :
    PCall Try.prog 91 [.sl n f (pcsI l), .int .i64 z, .int .i64 i, .int .i64 last] fun v => v = .tup [.int .i64 (findL l z i last).1, .int .i64 (findL l z i last).2] := by
  refine a_trie_find_int _ _ _ _ _ _ (fun a k => 0 ≤ k ∧ k ≤ l.length ∧ findL l z i last = findL (l.drop k.toNat) z i a) (fun _ k => l.length - k.toNat) ?_
  unfold r_trie_find_int
  refine ⟨⟨rfl, Int.le_refl _, by omega, rfl⟩, ?_⟩
  rintro a k ⟨k0, k1, he⟩
  refine iteD (fun hc => ?_) (fun hc => ?_)
  · simp only [decide_eq_true_eq, pcsI_len] at hc
    have hk : k.toNat < l.length := by omega
    have hw : IntKind.i64.wrap (k + 1) = k + 1 := wrap_i64 (by omega) (by omega)
    have hn : (k + 1).toNat = k.toNat + 1 := by omega
    have hg : (pcsI l).getD k.toNat [] = pcI l[k.toNat] := getD_map hk
    have hix : idxOK (pcsI l) k 3 := idxOK_map pcI_len k0 (by omega)
    have hm := hok _ (List.getElem_mem hk)
    rw [drop_cons hk] at he
    rw [hw]
    dsimp only
    rw [hn]
    have hmu : l.length - (k.toNat + 1) < l.length - k.toNat := by omega
    refine ⟨hix, l[k.toNat].fr, by rw [hg]; rfl, l[k.toNat].to, by rw [hg]; rfl, l[k.toNat].v, by rw [hg]; rfl, ?_⟩
    generalize l[k.toNat] = p at *
    have hw2 : IntKind.i64.wrap (p.fr - 1) = p.fr - 1 := wrap_i64 hm.1 hm.2
    rw [hw2]
    rw [findL_cons] at he
    by_cases h1 : p.fr ≤ i
    · refine iteT (by simpa using h1) ?_
      by_cases h2 : i ≤ p.to
      · refine iteT (by simpa using h2) ?_
        rw [if_pos ⟨h1, h2⟩] at he
        rw [he]
      · refine iteF (by simpa using h2) ?_
        rw [if_neg (by omega), if_neg (by omega)] at he
        refine iteF (by simp; omega) ?_
        exact ⟨rfl, ⟨by omega, by omega, he⟩, hmu⟩
    · refine iteF (by simpa using h1) ?_
      rw [if_neg (by omega)] at he
      refine iteT (by simp; omega) ?_
      by_cases h3 : p.fr ≤ a
      · refine iteT (by simpa using h3) ?_
        rw [if_pos (by omega)] at he
        exact ⟨rfl, ⟨by omega, by omega, he⟩, hmu⟩
      · refine iteF (by simpa using h3) ?_
        rw [if_neg (by omega)] at he
        exact ⟨rfl, ⟨by omega, by omega, he⟩, hmu⟩
  · simp only [decide_eq_true_eq, pcsI_len] at hc
    rw [List.drop_of_length_le (by omega)] at he
    rw [he]; rfl
/-- A trie of numbers. -/
def TrieI (sz : Int) (F : Int → Int) (v : PV) : Prop := ∃ n f n2 f2 idx blk, v = .ptr [.int .i64 sz, .sl n f (ixs idx), .sl n2 f2 (bks encI blk)] ∧ TOK sz F idx blk
theorem p115 {sz : Int} {F : Int → Int} {t : PV} (ht : TrieI sz F t) (i : Int) (h1 : sz ≤ 1114112) : PCall Try.prog 83 [t, .int .i64 i] fun v => v = .int .i64 (if 0 ≤ i ∧ i < sz then F i else 0) := by
  obtain ⟨n, f, n2, f2, idx, blk, rfl, ht⟩ := ht
  refine a_trie_Trie_int_Get _ _ _ _ _ _ _ _ ?_
  unfold r_trie_Trie_int_Get
  refine iteD (fun hc => ?_) (fun hc => ?_)
  · simp only [decide_eq_true_eq] at hc
    rw [if_neg (by omega)]
  · simp only [decide_eq_true_eq] at hc
    refine ⟨_, rfl, ?_⟩
    refine iteD (fun hc2 => ?_) (fun hc2 => ?_)
    · simp only [decide_eq_true_eq, ge_iff_le] at hc2
      rw [if_neg (by omega)]
    · simp only [decide_eq_true_eq, ge_iff_le] at hc2
      rw [if_pos (by omega)]
      obtain ⟨hq, g0, hk, hj, he⟩ := ht.get (i := i) (by omega) (by omega)
      have hw : IntKind.i64.wrap (i.tdiv 128) = i / 128 := by rw [Int.tdiv_eq_ediv_of_nonneg (by omega)]; exact wrap_i64 (by omega) (by omega)
      have hm : i.tmod 128 = i % 128 := Int.tmod_eq_emod_of_nonneg (by omega)
      have hg : (ixs idx).getD (i / 128).toNat [] = [.int .i64 idx[(i / 128).toNat]] := getD_map hq
      have hg2 : (bks encI blk).getD idx[(i / 128).toNat].toNat [] = cells encI blk[idx[(i / 128).toNat].toNat] := getD_map hk
      refine ⟨_, _, _, rfl, _, _, _, rfl, ?_⟩
      rw [hw]
      refine ⟨idxOK_map enc1_len (by omega) (by omega), idx[(i / 128).toNat], by rw [hg]; rfl, idxOK_map (EI.cells_len) g0 (by omega), by rw [hm]; omega, F i, ?_, rfl⟩
      rw [hg2, hm]
      have := EI.at _ _ hj
      simp only [List.length_cons, List.length_nil] at this
      unfold cells
      rw [this, he]
      rfl
end Go.Eng
set_option linter.unusedVariables false
set_option linter.unusedSimpArgs false
set_option maxRecDepth 100000
set_option linter.constructorNameAsVariable false
namespace Go.Eng
open Go Go.Proofs Go.Eng.Trie
def cI (b : Blk Int) : List PV := cells encI b
def kvI (k : Int) : PV := .int .i64 k
def mkI (kn : List (Blk Int × Int)) : List (PV × PV) := encM (fun b => .agg (cI b)) kvI kn
def meI (ev : List (Int × Int)) : List (PV × PV) := encM (fun v => .int .i64 v) kvI ev
def hpI (sz : Int) (kn : List (Blk Int × Int)) (ev : List (Int × Int)) (ixm ixn bkm bkn : Bool) (idx : List Int) (blk : List (Blk Int)) : Hp :=
  [.box [.box 1 0, .mp 2, .mp 3], .box [.pv (.int .i64 sz), .own 4, .own 5], .mp (mkI kn), .mp (meI ev), .sl (3, 1) ixm ixn (ixs idx), .sl (139, 128) bkm bkn (bks encI blk)]
theorem cI_len (b : Blk Int) : (cI b).length = 128 := EI.cells_len b
theorem cI_all (b : Blk Int) : List.take 128 (List.drop 0 (cI b)) = cI b := by rw [List.drop_zero, List.take_of_length_le (by rw [cI_len]; omega)]
theorem fk228 : flatKey Try.prog 139 = true := by kernel_rfl
theorem ck228 : cellKs Try.prog 139 = (List.replicate 128 [3]).flatten := by kernel_rfl
theorem getI (b : Blk Int) (kn : List (Blk Int × Int)) : mapGet (.agg (cI b)) (mkI kn) = (aget b kn).map kvI := mapGet_enc (ek := fun b => PV.agg (cI b)) (ev := kvI) EI.blkEq b kn
theorem setI (b : Blk Int) (k : Int) (kn : List (Blk Int × Int)) : mapSet (.agg (cI b)) (kvI k) (mkI kn) = mkI (aset b k kn) := mapSet_enc (ek := fun b => PV.agg (cI b)) (ev := kvI) EI.blkEq b k kn
theorem okI (b : Blk Int) : keyOk Try.prog 139 (.agg (cI b)) = true := EI.blkOk fk228 ck228 b
theorem oksI (kn : List (Blk Int × Int)) : keysOk Try.prog 139 (mkI kn) := EI.blksOk fk228 ck228 kn
theorem p141 {sz : Int} {F : Int → Int} {idx : List Int} {blk : List (Blk Int)} {kn : List (Blk Int × Int)} {ev : List (Int × Int)} (hk : TInv sz F idx blk kn ev) (hb : blk.length ≤ 10000000) (ixn bkn : Bool) (b : Blk Int) :
    ACall Try.prog 93 [.box 0 0, .pv (.agg (cI b))] (hpI sz kn ev false ixn false bkn idx blk) fun r h' => ∃ k kn' bn' blk', r = .pv (kvI k) ∧ h' = hpI sz kn' ev false ixn true bn' idx blk' ∧ TInv sz F idx blk' kn' ev ∧ 0 ≤ k ∧ blk'[k.toNat]? = some b ∧ blk'.length ≤ blk.length + 1 := by
  refine ACall.mark 1000 [5] (R := fun r h' => ∃ k kn' bm' bn' blk', r = .pv (kvI k) ∧ h' = hpI sz kn' ev false ixn bm' bn' idx blk' ∧ TInv sz F idx blk' kn' ev ∧ 0 ≤ k ∧ blk'[k.toNat]? = some b ∧ blk'.length ≤ blk.length + 1) ?_ ?_
  · refine a_trie_maker_int_place _ _ _ _ _ _ _ _ _ _ ?_
    unfold r_trie_maker_int_place
    rw [cI_all, getI]
    have h128 : 128 ≤ (List.drop 0 (cI b)).length := by rw [List.drop_zero, cI_len]; omega
    refine ⟨h128, oksI kn, okI b, fun v hv => ?_, fun hv => ?_⟩
    · cases hg : aget b kn with
      | none => rw [hg] at hv; cases hv
      | some k =>
        rw [hg] at hv; cases hv
        obtain ⟨k0, k1⟩ := hk.kn_ok b k hg
        exact ⟨k, rfl, k, kn, false, bkn, blk, rfl, rfl, hk, k0, k1, by omega⟩
    · have hsz : szOK [cI b] 128 ∧ ((bks encI blk).length + 1) * 1024 ≤ 140737488355328 := ⟨fun e he => by simp at he; subst he; exact cI_len b, by rw [bks_len]; omega⟩
      have fin : ∃ k kn' bm' bn' blk', LV.pv (.int .i64 ((bks encI blk).length : Int)) = .pv (kvI k) ∧
          [Ob.box [.box 1 0, .mp 2, .mp 3], .box [.pv (.int .i64 sz), .own 4, .own 5], .mp (mapSet (.agg (cI b)) (.int .i64 ((bks encI blk).length : Int)) (mkI kn)), .mp (meI ev), .sl (3, 1) false ixn (ixs idx), .sl (139, 128) true (bkn && false) (bks encI blk ++ [cI b])] = hpI sz kn' ev false ixn bm' bn' idx blk' ∧ TInv sz F idx blk' kn' ev ∧ 0 ≤ k ∧ blk'[k.toNat]? = some b ∧ blk'.length ≤ blk.length + 1 := by
        refine ⟨blk.length, aset b (blk.length : Int) kn, true, bkn && false, blk ++ [b], by rw [bks_len]; rfl, ?_, hk.place b, by omega, by simp, by simp⟩
        have := setI b (blk.length : Int) kn
        unfold kvI at this
        rw [bks_len, this]
        simp [hpI, bks, cI]
      exact ⟨h128, oksI kn, okI b, h128, ⟨cI_len b, hsz, fin⟩, cI_len b, ⟨hsz, fin⟩, hsz, fin⟩
  · rintro r h' ⟨k, kn', bm', bn', blk', rfl, rfl, h1, h2, h3, h4⟩
    exact ⟨k, kn', bn', blk', rfl, rfl, h1, h2, h3, h4⟩
theorem getE (v : Int) (ev : List (Int × Int)) : mapGet (.int .i64 v) (meI ev) = (aget v ev).map kvI := mapGet_enc (ek := fun v => PV.int .i64 v) (ev := kvI) (eqKey_int .i64) v ev
theorem setE (v k : Int) (ev : List (Int × Int)) : mapSet (.int .i64 v) (kvI k) (meI ev) = meI (aset v k ev) := mapSet_enc (ek := fun v => PV.int .i64 v) (ev := kvI) (eqKey_int .i64) v k ev
theorem putI (l : List Int) (j : Nat) (hj : j < l.length) (v : Int) : spl (l.flatMap encI) (0 + j * 1) [.int .i64 v] = (l.set j v).flatMap encI := by
  have := EI.put l j hj v
  simp only [List.length_cons, List.length_nil, Nat.zero_add] at this ⊢
  exact this
theorem flenI (l : List Int) : (l.flatMap encI).length = l.length := by
  have := EI.flen l
  simpa using this
theorem zerosI : List.replicate 128 (PV.int .i64 0) = (List.replicate 128 (0 : Int)).flatMap encI := by
  generalize 128 = n
  induction n with
  | zero => rfl
  | succ n ih => simp only [List.replicate_succ, List.flatMap_cons, ih]; rfl
theorem rep_of {l : List Int} {v : Int} (hl : l.length = 128) (h : ∀ q, q < 128 → l[q]? = some v) : l = List.replicate 128 v := by
  refine List.ext_getElem? fun q => ?_
  rcases Nat.lt_or_ge q 128 with hq | hq
  · rw [h q hq, List.getElem?_replicate, if_pos hq]
  · rw [List.getElem?_eq_none (by omega), List.getElem?_eq_none (by simp; omega)]
theorem p140 {sz : Int} {F : Int → Int} {idx : List Int} {blk : List (Blk Int)} {kn : List (Blk Int × Int)} {ev : List (Int × Int)} (hk : TInv sz F idx blk kn ev) (hb : blk.length ≤ 10000000) (ixn bkn : Bool) (v : Int) :
    ACall Try.prog 92 [.box 0 0, .pv (.int .i64 v)] (hpI sz kn ev false ixn false bkn idx blk) fun r h' => ∃ k kn' ev' bn' blk', r = .pv (kvI k) ∧ h' = hpI sz kn' ev' false ixn true bn' idx blk' ∧ TInv sz F idx blk' kn' ev' ∧ 0 ≤ k ∧ blk'[k.toNat]? = some (rep v) ∧ blk'.length ≤ blk.length + 1 := by
  refine ACall.mark 1000 [5] (R := fun r h' => ∃ k kn' ev' bm' bn' blk', r = .pv (kvI k) ∧ h' = hpI sz kn' ev' false ixn bm' bn' idx blk' ∧ TInv sz F idx blk' kn' ev' ∧ 0 ≤ k ∧ blk'[k.toNat]? = some (rep v) ∧ blk'.length ≤ blk.length + 1) ?_ ?_
  · refine a_trie_maker_int_plain _ _ _ _ _ _ _ _ _ _ (fun x m2 m3 c => 0 ≤ x ∧ x ≤ 128 ∧ m2 = mkI kn ∧ m3 = meI ev ∧ ∃ l : List Int, l.length = 128 ∧ c = l.flatMap encI ∧ ∀ q, q < x.toNat → l[q]? = some v) (fun x _ _ _ => 128 - x.toNat) ?_
    unfold r_trie_maker_int_plain
    rw [getE]
    refine ⟨keysInt_enc ev, fun u hu => ?_, fun hu => ⟨⟨rfl, Int.le_refl _, by omega, rfl, rfl, List.replicate 128 0, by simp, zerosI, fun q hq => by simp at hq⟩, ?_⟩⟩
    · cases hg : aget v ev with
      | none => rw [hg] at hu; cases hu
      | some k =>
        rw [hg] at hu; cases hu
        obtain ⟨k0, k1⟩ := hk.ev_ok v k hg
        exact ⟨k, rfl, k, kn, ev, false, bkn, blk, rfl, rfl, hk, k0, k1, by omega⟩
    · rintro x _ _ _ ⟨x0, x1, rfl, rfl, l, hl, rfl, hq⟩
      refine iteD (fun hc => ?_) (fun hc => ?_)
      · simp only [decide_eq_true_eq] at hc
        have hw : IntKind.i64.wrap (x + 1) = x + 1 := wrap_i64 (by omega) (by omega)
        have hn : (x + 1).toNat = x.toNat + 1 := by omega
        rw [putI l x.toNat (by omega) v, hw, flenI]
        refine ⟨⟨x0, hc⟩, ⟨rfl, by omega⟩, rfl, ⟨by omega, by omega, rfl, rfl, l.set x.toNat v, by simpa using hl, rfl, fun q hq' => ?_⟩, by dsimp only; omega⟩
        rw [hn] at hq'
        rw [List.getElem?_set]
        by_cases e : x.toNat = q
        · rw [if_pos e, if_pos (by omega)]
        · rw [if_neg e]; exact hq q (by omega)
      · simp only [decide_eq_true_eq] at hc
        have hx : x = 128 := by omega
        subst hx
        have hrep := rep_of hl hq
        subst hrep
        have hcI : (List.replicate 128 v).flatMap encI = cI (rep v) := rfl
        rw [hcI, cI_all]
        refine ⟨by rw [List.drop_zero, cI_len]; omega, ?_⟩
        refine (p141 hk hb ixn bkn (rep v)).mono ?_
        rintro _ _ ⟨k, kn', bn', blk', rfl, rfl, h1, h2, h3, h4⟩
        refine ⟨(k, mkI kn', bn', bks encI blk'), ⟨rfl, rfl⟩, ⟨trivial, ⟨rfl, rfl, rfl⟩, trivial, trivial, trivial, trivial, trivial⟩, keysInt_enc ev, ?_⟩
        have := setE v k ev
        unfold kvI at this
        simp only [this]
        exact ⟨k, kn', aset v k ev, _, bn', blk', rfl, rfl, h1.even h2 h3, h2, h3, h4⟩
  · rintro r h' ⟨k, kn', ev', bm', bn', blk', rfl, rfl, h1, h2, h3, h4⟩
    exact ⟨k, kn', ev', bn', blk', rfl, rfl, h1, h2, h3, h4⟩
end Go.Eng
set_option linter.unusedVariables false
set_option linter.unusedSimpArgs false
set_option maxRecDepth 100000
set_option linter.constructorNameAsVariable false
namespace Go.Eng
open Go Go.Proofs Go.Eng.Trie
theorem rep_get {α : Type} {v : α} {j : Nat} {u : α} (h : (Trie.rep v).1[j]? = some u) : u = v ∧ j < 128 := by
  simp only [Trie.rep, List.getElem?_replicate] at h
  split at h
  · rename_i hj; cases h; exact ⟨rfl, hj⟩
  · cases h
theorem p103 (sz z : Int) (n f : Bool) (l : List (Pc Int)) (hl : l.length < 4611686018427387904) (hok : ∀ p ∈ l, Pc.ok p) (hs1 : 1 ≤ sz) (hs2 : sz ≤ 1114112) :
    PCall Try.prog 69 [.int .i64 sz, .int .i64 z, .sl n f (pcsI l)] fun v => TrieI sz (valL l z) v := by
  have hF := fun i => findL_ok l z i (sz - 1)
  generalize hFF : valL l z = F at *
  refine a_trie_Build_int _ _ _ _ _
    (fun x9 x10 x11 _ s2 _ s3 m4 m5 => ∃ idx blk kn ev, s2 = ixs idx ∧ s3 = bks encI blk ∧ m4 = mkI kn ∧ m5 = meI ev ∧ TInv sz F idx blk kn ev ∧ x11 = 128 * idx.length ∧ blk.length ≤ idx.length ∧ x11 < sz + 128 ∧ (∀ j, x11 ≤ j → j ≤ x10 → F j = x9) ∧ x10 ≤ sz - 1)
    (fun _ _ x11 _ _ _ _ _ _ => (sz + 128 - x11).toNat)
    (fun _ _ y11 _ _ _ _ _ _ _ x9 x10 x11 x13 _ s2 _ s3 m4 m5 => ∃ idx blk kn ev, s2 = ixs idx ∧ s3 = bks encI blk ∧ m4 = mkI kn ∧ m5 = meI ev ∧ TInv sz F idx blk kn ev ∧ x11 = 128 * idx.length ∧ x11 < sz + 128 ∧ (∀ j, x11 ≤ j → j ≤ x10 → F j = x9) ∧ x10 ≤ sz - 1 ∧ 0 ≤ x13 ∧ blk[x13.toNat]? = some (rep x9) ∧
      ((x11 = y11 ∧ x11 < sz ∧ (x11 + 127 ≤ x10 ∨ sz - 1 ≤ x10) ∧ blk.length ≤ idx.length + 1) ∨ (y11 + 128 ≤ x11 ∧ blk.length ≤ idx.length)))
    (fun _ _ x11 _ _ _ _ _ _ _ => (sz + 128 - x11).toNat)
    (fun _ _ y11 _ _ _ _ _ _ _ _ x9 x10 x11 x c _ s3 _ s4 m5 m6 => ∃ idx blk kn ev, s3 = ixs idx ∧ s4 = bks encI blk ∧ m5 = mkI kn ∧ m6 = meI ev ∧ TInv sz F idx blk kn ev ∧ x11 = 128 * idx.length ∧ blk.length ≤ idx.length ∧ x11 = y11 ∧ x11 < sz ∧ 0 ≤ x ∧ x ≤ 128 ∧ x10 ≤ sz - 1 ∧ (∀ j, x11 + x ≤ j → j ≤ x10 → F j = x9) ∧
      ∃ b : List Int, b.length = 128 ∧ c = b.flatMap encI ∧ ∀ (q : Nat) u, b[q]? = some u → q < x.toNat → x11 + q < sz → u = F (x11 + q))
    (fun _ _ _ x _ _ _ _ _ _ _ => (128 - x).toNat) ?_
  unfold r_trie_Build_int
  have hw1 : IntKind.i64.wrap (sz - 1) = sz - 1 := wrap_i64 (by omega) (by omega)
  rw [hw1]
  refine iteF (by simp; omega) ?_
  refine (p139 n f l z 0 (sz - 1) hl hok).mono ?_
  rintro _ rfl
  obtain ⟨_, f2, f3, f4⟩ := hF 0 (by omega)
  refine ⟨_, rfl, rfl, _, rfl, _, rfl, _, rfl, _, rfl, ⟨rfl, [], [], [], [], rfl, rfl, rfl, rfl, TInv.nil, rfl, Nat.le_refl _, by omega, f4, f3⟩, ?_⟩
  clear f2 f3 f4
  rintro v0 u0 x _ _ _ _ _ _ ⟨idx, blk, kn, ev, rfl, rfl, rfl, rfl, hk, hx, hb, hx2, hv0, hu0⟩
  refine iteD (fun hc => ?_) (fun hc => ?_)
  · simp only [decide_eq_true_eq] at hc
    have hw2 : IntKind.i64.wrap (x + 128) = x + 128 := wrap_i64 (by omega) (by omega)
    rw [hw2]
    have hmin : ∀ a : Int, IntKind.i64.wrap ((if sz < a + 128 then sz else a + 128) - 1) = (if sz < a + 128 then sz else a + 128) - 1 ∨ ¬ (0 ≤ a ∧ a ≤ 1114112) := fun a => by
      by_cases ha : 0 ≤ a ∧ a ≤ 1114112
      · left; split <;> exact wrap_i64 (by omega) (by omega)
      · exact .inr ha
    have hmx := (hmin x).resolve_right (by omega)
    rw [hmx]
    refine iteD (fun hgt => ?ga) (fun hgt => ?gb)
    case' ga =>
      refine (p139 n f l z x (sz - 1) hl hok).mono ?_
      rintro _ rfl
      obtain ⟨_, hux, hu, hv⟩ := hF x (by omega)
      refine ⟨_, rfl, rfl, _, rfl, _, rfl, _, rfl, _, rfl, ?_⟩
      revert hv hu
      generalize (findL l z x (sz - 1)).1 = v
      generalize (findL l z x (sz - 1)).2 = u
      clear hv0 hu0 hux
      intro hu hv
    case' gb =>
      revert hv0 hu0 hgt
      generalize v0 = v
      generalize u0 = u
      intro hv hu hgt
    all_goals
      clear hgt
      refine iteD (fun hc2 => ?_) (fun hc2 => ?_)
      · simp only [decide_eq_true_eq, ge_iff_le] at hc2
        have hc3 : x + 127 ≤ u ∨ sz - 1 ≤ u := by split at hc2 <;> omega
        refine (p140 hk (by omega) _ _ v).mono ?_
        rintro _ _ ⟨k, kn', ev', bn', blk', rfl, rfl, g1, g2, g3, g4⟩
        refine ⟨(k, mkI kn', meI ev', bn', bks encI blk'), ⟨rfl, rfl⟩, ⟨trivial, ⟨rfl, rfl, rfl⟩, trivial, trivial, trivial, trivial, trivial⟩, ⟨rfl, idx, blk', kn', ev', rfl, rfl, rfl, rfl, g1, hx, hx2, hv, hu, g2, g3, .inl ⟨rfl, hc, hc3, by omega⟩⟩, ?_⟩
        rintro w t y k' _ _ _ _ _ _ ⟨idx2, blk2, kn2, ev2, rfl, rfl, rfl, rfl, hk2, hy, hy2, hw, ht, hk0, hkb, hor⟩
        have hwy : IntKind.i64.wrap (y + 128) = y + 128 := wrap_i64 (by omega) (by omega)
        rw [hwy, (hmin y).resolve_right (by omega)]
        refine iteD (fun hc4 => ?_) (fun hc4 => ?_)
        · simp only [Bool.and_eq_true, decide_eq_true_eq, ge_iff_le] at hc4
          have hc5 : y + 127 ≤ t ∨ sz - 1 ≤ t := by have := hc4.2; split at this <;> omega
          refine ⟨⟨fun e he => by simp at he; subst he; rfl, by rw [ixs_len]; omega⟩, rfl, ⟨idx2 ++ [k'], blk2, kn2, ev2, by simp [ixs], rfl, rfl, rfl, hk2.push hk0 hkb fun j u' hj hlt => ?_, by simp; omega, by omega, fun j h1 h2 => hw j (by omega) h2, ht, hk0, hkb, .inr ⟨by omega, by simp; omega⟩⟩, by dsimp only; omega⟩
          obtain ⟨rfl, hj2⟩ := rep_get hj
          exact (hw _ (by omega) (by omega)).symm
        · have hnot : y + 128 ≤ y + 128 := Int.le_refl _
          have hw128 : IntKind.i64.wrap (y - 128) = y - 128 := wrap_i64 (by omega) (by omega)
          have hback : IntKind.i64.wrap (y - 128 + 128) = y := by rw [wrap_i64 (by omega) (by omega)]; omega
          rw [hw128, hback]
          simp only [Bool.and_eq_true, decide_eq_true_eq, ge_iff_le, not_and] at hc4
          have hor2 : x + 128 ≤ y ∧ blk2.length ≤ idx2.length := by
            rcases hor with ⟨h1, h2, h3, h4⟩ | h
            · exfalso
              have := hc4 h2
              split at this <;> omega
            · exact h
          exact ⟨rfl, ⟨idx2, blk2, kn2, ev2, rfl, rfl, rfl, rfl, hk2, hy, hor2.2, hy2, hw, ht⟩, by dsimp only; omega⟩
      · clear hc2
        refine ⟨⟨rfl, idx, blk, kn, ev, rfl, rfl, rfl, rfl, hk, hx, hb, rfl, hc, Int.le_refl _, by omega, hu, fun j h1 h2 => hv j (by omega) h2, List.replicate 128 0, by simp, zerosI, fun q u' _ hq _ => by simp at hq⟩, ?_⟩
        rintro w t y i _ _ _ _ _ _ _ ⟨idx2, blk2, kn2, ev2, rfl, rfl, rfl, rfl, hk2, hy, hb2, hyx, hy2, i0, i1, ht, hw, b, hbl, rfl, hbq⟩
        have hwyi : IntKind.i64.wrap (y + i) = y + i := wrap_i64 (by omega) (by omega)
        have hwi : IntKind.i64.wrap (i + 1) = i + 1 := wrap_i64 (by omega) (by omega)
        have hwy : IntKind.i64.wrap (y + 128) = y + 128 := wrap_i64 (by omega) (by omega)
        rw [hwyi, hwi, hwy]
        have step : ∀ (v' u' : Int), (∀ j, y + i ≤ j → j ≤ u' → F j = v') → u' ≤ sz - 1 → (y + i < sz → F (y + i) = v') → i < 128 →
            ∃ idx blk kn ev, ixs idx2 = ixs idx ∧ bks encI blk2 = bks encI blk ∧ mkI kn2 = mkI kn ∧ meI ev2 = meI ev ∧ TInv sz F idx blk kn ev ∧ y = 128 * idx.length ∧ blk.length ≤ idx.length ∧ y = x ∧ y < sz ∧ 0 ≤ i + 1 ∧ i + 1 ≤ 128 ∧ u' ≤ sz - 1 ∧ (∀ j, y + (i + 1) ≤ j → j ≤ u' → F j = v') ∧
              ∃ c : List Int, c.length = 128 ∧ (b.set i.toNat v').flatMap encI = c.flatMap encI ∧ ∀ (q : Nat) u, c[q]? = some u → q < (i + 1).toNat → y + q < sz → u = F (y + q) := fun v' u' h1 h2 h3 h4 => by
          refine ⟨idx2, blk2, kn2, ev2, rfl, rfl, rfl, rfl, hk2, hy, hb2, hyx, hy2, by omega, by omega, h2, fun j a1 a2 => h1 j (by omega) a2, b.set i.toNat v', by simpa using hbl, rfl, fun q u hq hq2 hq3 => ?_⟩
          rw [List.getElem?_set] at hq
          by_cases e : i.toNat = q
          · rw [if_pos e, if_pos (by omega)] at hq
            cases hq
            have e2 : y + (q : Int) = y + i := by omega
            rw [e2]
            exact (h3 (by omega)).symm
          · rw [if_neg e] at hq
            exact hbq q u hq (by omega) hq3
        refine iteD (fun hc5 => ?_) (fun hc5 => ?_)
        · simp only [decide_eq_true_eq] at hc5
          refine iteD (fun hc6 => ?_) (fun hc6 => ?_)
          · simp only [Bool.and_eq_true, decide_eq_true_eq, gt_iff_lt] at hc6
            refine (p139 n f l z (y + i) (sz - 1) hl hok).mono ?_
            rintro _ rfl
            obtain ⟨q1, q2, q3, q4⟩ := hF (y + i) (by omega)
            refine ⟨_, rfl, rfl, _, rfl, _, rfl, _, rfl, _, rfl, ⟨i0, hc5⟩, ⟨rfl, by rw [flenI]; omega⟩, rfl, ?_, by dsimp only; omega⟩
            rw [putI b i.toNat (by omega)]
            exact step _ _ q4 q3 (fun _ => q1.symm) hc5
          · simp only [Bool.and_eq_true, decide_eq_true_eq, gt_iff_lt, not_and] at hc6
            refine ⟨⟨i0, hc5⟩, ⟨rfl, by rw [flenI]; omega⟩, rfl, ?_, by dsimp only; omega⟩
            rw [putI b i.toNat (by omega)]
            exact step _ _ hw ht (fun h => hw (y + i) (Int.le_refl _) ((Int.lt_or_le t (y + i)).elim (fun h2 => absurd h (hc6 h2)) id)) hc5
        · simp only [decide_eq_true_eq] at hc5
          have hi : i = 128 := by omega
          subst hi
          obtain ⟨B, hB⟩ : ∃ B : Blk Int, B.1 = b := ⟨⟨b, hbl⟩, rfl⟩
          subst hB
          have hcI : B.1.flatMap encI = cI B := rfl
          rw [hcI, cI_all]
          refine ⟨by rw [List.drop_zero, cI_len]; omega, (fun h => ⟨h, h⟩) ?_⟩
          refine (p141 hk2 (by omega) _ _ B).mono ?_
          rintro _ _ ⟨k, kn', bn', blk', rfl, rfl, h1, h2, h3, h4⟩
          refine ⟨(k, mkI kn', bn', bks encI blk'), ⟨rfl, rfl⟩, ⟨trivial, ⟨rfl, rfl, rfl⟩, trivial, trivial, trivial, trivial, trivial⟩, ⟨fun e he => by simp at he; subst he; rfl, by rw [ixs_len]; omega⟩, rfl, ⟨idx2 ++ [k], blk', kn', ev2, by simp [ixs, kvI], rfl, rfl, rfl, h1.push h2 h3 fun j u' hj hlt => ?_, by simp; omega, by simp; omega, by omega, fun j a1 a2 => hw j (by omega) a2, ht⟩, by dsimp only; omega⟩
          have hj2 : j < 128 := by have := (List.getElem?_eq_some_iff.1 hj).1; simp only [hbl] at this; exact this
          rw [← hy]
          exact hbq j u' hj (by omega) (by omega)
  · simp only [decide_eq_true_eq] at hc
    exact ⟨_, _, _, _, idx, blk, rfl, by omega, hk.idx_ok⟩
end Go.Eng
set_option linter.unusedVariables false
set_option maxRecDepth 100000
set_option linter.constructorNameAsVariable false
namespace Go.Eng
open Go Go.Proofs
def r_trie_find_ucd_flags (n f : Bool) (es : List (List PV)) (za zb zc zd : Bool) (i last : Int) (J : (Int) → (Int) → (Bool) → (Bool) → (Bool) → (Bool) → Prop) (μ : (Int) → (Int) → (Bool) → (Bool) → (Bool) → (Bool) → Nat) (R : PV → Prop) : Prop :=
 (Same1 ([(2, LV.pv (PV.int .i64 i)), (3, LV.pv (PV.int .i64 last)), (5, LV.box 0 0), (8, LV.box 1 0), (12, LV.pv (PV.sl n f es)), (13, LV.pv (PV.int .i64 (↑es.length : Int))), (14, LV.pv (PV.int .i64 (0 : Int)))], [Ob.box [LV.pv (PV.bool
 za), LV.pv (PV.bool zb), LV.pv (PV.bool zc), LV.pv (PV.bool zd)], Ob.box [LV.pv (PV.bool false), LV.pv (PV.bool false), LV.pv (PV.bool false), LV.pv (PV.bool false)]]) ∧ J last (0 : Int) false false false false) ∧ ∀ (x3 x14 : Int) (h1_0
 h1_1 h1_2 h1_3 : Bool), J x3 x14 h1_0 h1_1 h1_2 h1_3 → if decide (x14 < (↑es.length : Int)) = true then idxOK es x14 6 ∧ ∃ (n1 : Int), (es.getD x14.toNat []).head? = some (PV.int .i64 n1) ∧ ∃ (n2 : Int), (es.getD x14.toNat []).tail.head? =
 some (PV.int .i64 n2) ∧ ∃ (b : Bool), (es.getD x14.toNat []).tail.tail.head? = some (PV.bool b) ∧ ∃ (b1 : Bool), (es.getD x14.toNat []).tail.tail.tail.head? = some (PV.bool b1) ∧ ∃ (b2 : Bool), (es.getD x14.toNat
 []).tail.tail.tail.tail.head? = some (PV.bool b2) ∧ ∃ (b3 : Bool), (es.getD x14.toNat []).tail.tail.tail.tail.tail.head? = some (PV.bool b3) ∧ if decide (n1 ≤ i) = true then if decide (i ≤ n2) = true then (R (PV.tup [PV.agg [PV.bool b,
 PV.bool b1, PV.bool b2, PV.bool b3], PV.int .i64 (if x3 < n2 then x3 else n2)]) ∧ R (PV.tup [PV.agg [PV.bool b, PV.bool b1, PV.bool b2, PV.bool b3], PV.int .i64 (if x3 < n2 then x3 else n2)])) ∧ R (PV.tup [PV.agg [PV.bool b, PV.bool b1,
 PV.bool b2, PV.bool b3], PV.int .i64 (if x3 < n2 then x3 else n2)]) else if decide (i < n1) = true then if decide (n1 ≤ x3) = true then Same1 ([(2, LV.pv (PV.int .i64 i)), (3, LV.pv (PV.int .i64 (IntKind.i64.wrap (n1 - (1 : Int))))), (5,
 LV.box 0 0), ((8 : Nat), LV.box 1 0), (12, LV.pv (PV.sl n f es)), (13, LV.pv (PV.int .i64 (↑es.length : Int))), (14, LV.pv (PV.int .i64 (IntKind.i64.wrap (x14 + (1 : Int)))))], [Ob.box [LV.pv (PV.bool za), LV.pv (PV.bool zb), LV.pv (PV.bool
 zc), LV.pv (PV.bool zd)], Ob.box [LV.pv (PV.bool h1_0), LV.pv (PV.bool h1_1), LV.pv (PV.bool h1_2), LV.pv (PV.bool h1_3)]]) ∧ J (IntKind.i64.wrap (n1 - (1 : Int))) (IntKind.i64.wrap (x14 + (1 : Int))) h1_0 h1_1 h1_2 h1_3 ∧ μ
 (IntKind.i64.wrap (n1 - (1 : Int))) (IntKind.i64.wrap (x14 + (1 : Int))) h1_0 h1_1 h1_2 h1_3 < μ x3 x14 h1_0 h1_1 h1_2 h1_3 else Same1 ([(2, LV.pv (PV.int .i64 i)), (3, LV.pv (PV.int .i64 x3)), (5, LV.box 0 0), (8, LV.box 1 0), (12, LV.pv
 (PV.sl n f es)), (13, LV.pv (PV.int .i64 (↑es.length : Int))), (14, LV.pv (PV.int .i64 (IntKind.i64.wrap (x14 + (1 : Int)))))], [Ob.box [LV.pv (PV.bool za), LV.pv (PV.bool zb), LV.pv (PV.bool zc), LV.pv (PV.bool zd)], Ob.box [LV.pv (PV.bool
 h1_0), LV.pv (PV.bool h1_1), LV.pv (PV.bool h1_2), LV.pv (PV.bool h1_3)]]) ∧ J x3 (IntKind.i64.wrap (x14 + (1 : Int))) h1_0 h1_1 h1_2 h1_3 ∧ μ x3 (IntKind.i64.wrap (x14 + (1 : Int))) h1_0 h1_1 h1_2 h1_3 < μ x3 x14 h1_0 h1_1 h1_2 h1_3 else
 Same1 ([(2, LV.pv (PV.int .i64 i)), (3, LV.pv (PV.int .i64 x3)), (5, LV.box 0 0), (8, LV.box 1 0), (12, LV.pv (PV.sl n f es)), (13, LV.pv (PV.int .i64 (↑es.length : Int))), (14, LV.pv (PV.int .i64 (IntKind.i64.wrap (x14 + (1 : Int)))))],
 [Ob.box [LV.pv (PV.bool za), LV.pv (PV.bool zb), LV.pv (PV.bool zc), LV.pv (PV.bool zd)], Ob.box [LV.pv (PV.bool h1_0), LV.pv (PV.bool h1_1), LV.pv (PV.bool h1_2), LV.pv (PV.bool h1_3)]]) ∧ J x3 (IntKind.i64.wrap (x14 + (1 : Int))) h1_0
 h1_1 h1_2 h1_3 ∧ μ x3 (IntKind.i64.wrap (x14 + (1 : Int))) h1_0 h1_1 h1_2 h1_3 < μ x3 x14 h1_0 h1_1 h1_2 h1_3 else if decide (i < n1) = true then if decide (n1 ≤ x3) = true then Same1 ([(2, LV.pv (PV.int .i64 i)), (3, LV.pv (PV.int .i64
 (IntKind.i64.wrap (n1 - (1 : Int))))), (5, LV.box 0 0), (8, LV.box 1 0), (12, LV.pv (PV.sl n f es)), (13, LV.pv (PV.int .i64 (↑es.length : Int))), (14, LV.pv (PV.int .i64 (IntKind.i64.wrap (x14 + (1 : Int)))))], [Ob.box [LV.pv (PV.bool za),
 LV.pv (PV.bool zb), LV.pv (PV.bool zc), LV.pv (PV.bool zd)], Ob.box [LV.pv (PV.bool h1_0), LV.pv (PV.bool h1_1), LV.pv (PV.bool h1_2), LV.pv (PV.bool h1_3)]]) ∧ J (IntKind.i64.wrap (n1 - (1 : Int))) (IntKind.i64.wrap (x14 + (1 : Int))) h1_0
 h1_1 h1_2 h1_3 ∧ μ (IntKind.i64.wrap (n1 - (1 : Int))) (IntKind.i64.wrap (x14 + (1 : Int))) h1_0 h1_1 h1_2 h1_3 < μ x3 x14 h1_0 h1_1 h1_2 h1_3 else Same1 ([(2, LV.pv (PV.int .i64 i)), (3, LV.pv (PV.int .i64 x3)), (5, LV.box 0 0), (8, LV.box
 1 0), (12, LV.pv (PV.sl n f es)), (13, LV.pv (PV.int .i64 (↑es.length : Int))), ((14 : Nat), LV.pv (PV.int .i64 (IntKind.i64.wrap (x14 + (1 : Int)))))], [Ob.box [LV.pv (PV.bool za), LV.pv (PV.bool zb), LV.pv (PV.bool zc), LV.pv (PV.bool
 zd)], Ob.box [LV.pv (PV.bool h1_0), LV.pv (PV.bool h1_1), LV.pv (PV.bool h1_2), LV.pv (PV.bool h1_3)]]) ∧ J x3 (IntKind.i64.wrap (x14 + (1 : Int))) h1_0 h1_1 h1_2 h1_3 ∧ μ x3 (IntKind.i64.wrap (x14 + (1 : Int))) h1_0 h1_1 h1_2 h1_3 < μ x3
 x14 h1_0 h1_1 h1_2 h1_3 else Same1 ([(2, LV.pv (PV.int .i64 i)), (3, LV.pv (PV.int .i64 x3)), (5, LV.box 0 0), (8, LV.box 1 0), (12, LV.pv (PV.sl n f es)), (13, LV.pv (PV.int .i64 (↑es.length : Int))), (14, LV.pv (PV.int .i64
 (IntKind.i64.wrap (x14 + (1 : Int)))))], [Ob.box [LV.pv (PV.bool za), LV.pv (PV.bool zb), LV.pv (PV.bool zc), LV.pv (PV.bool zd)], Ob.box [LV.pv (PV.bool h1_0), LV.pv (PV.bool h1_1), LV.pv (PV.bool h1_2), LV.pv (PV.bool h1_3)]]) ∧ J x3
 (IntKind.i64.wrap (x14 + (1 : Int))) h1_0 h1_1 h1_2 h1_3 ∧ μ x3 (IntKind.i64.wrap (x14 + (1 : Int))) h1_0 h1_1 h1_2 h1_3 < μ x3 x14 h1_0 h1_1 h1_2 h1_3 else R (PV.tup [PV.agg [PV.bool za, PV.bool zb, PV.bool zc, PV.bool zd], PV.int .i64
 x3])
theorem e_trie_find_ucd_flags (n f : Bool) (es : List (List PV)) (za zb zc zd : Bool) (i last : Int) (J : (Int) → (Int) → (Bool) → (Bool) → (Bool) → (Bool) → Prop) (μ : (Int) → (Int) → (Bool) → (Bool) → (Bool) → (Bool) → Nat) (R : PV → Prop) : aFn Try.prog (fun _ => none) Try.f96 [0, 1, 2, 3, 5, 8, 9, 11, 12, 13, 14, 15, 18, 35] (fun zz_ => match zz_ with | 2 => some ⟨Int × Int × Bool × Bool × Bool × Bool, fun s => (fun (x3 : Int) (x14 : Int) (h1_0 : Bool) (h1_1 : Bool) (h1_2 : Bool) (h1_3 : Bool) => ([(2, LV.pv (PV.int IntKind.i64 i)), (3, .pv (.int IntKind.i64 x3)), (5, LV.box 0 0), (8, LV.box 1 0), (12, LV.pv (PV.sl n f es)), (13, LV.pv (PV.int IntKind.i64 ↑es.length)), (14, .pv (.int IntKind.i64 x14))], [.box [LV.pv (PV.bool za), LV.pv (PV.bool zb), LV.pv (PV.bool zc), LV.pv (PV.bool zd)], .box [.pv (.bool h1_0), .pv (.bool h1_1), .pv (.bool h1_2), .pv (.bool h1_3)]])) s.1 s.2.1 s.2.2.1 s.2.2.2.1 s.2.2.2.2.1 s.2.2.2.2.2, fun _ s => J s.1 s.2.1 s.2.2.1 s.2.2.2.1 s.2.2.2.2.1 s.2.2.2.2.2, fun s => μ s.1 s.2.1 s.2.2.1 s.2.2.2.1 s.2.2.2.2.1 s.2.2.2.2.2, fun e h => (gI e 3, gI e 14, hB h 1 0, hB h 1 1, hB h 1 2, hB h 1 3), [], [2, 3, 5, 8, 12, 13, 14], [], fun p => ∀ (x3 : Int) (x14 : Int) (h1_0 : Bool) (h1_1 : Bool) (h1_2 : Bool) (h1_3 : Bool), p (x3, x14, h1_0, h1_1, h1_2, h1_3), fun p h s => h s.1 s.2.1 s.2.2.1 s.2.2.2.1 s.2.2.2.2.1 s.2.2.2.2.2⟩ | _ => none) (Try.f96.body.getD .skip) [.sl n f es, .agg [.bool za, .bool zb, .bool zc, .bool zd], .int .i64 i, .int .i64 last] R = r_trie_find_ucd_flags n f es za zb zc zd i last J μ R := by kernel_rfl
theorem a_trie_find_ucd_flags (n f : Bool) (es : List (List PV)) (za zb zc zd : Bool) (i last : Int) (J : (Int) → (Int) → (Bool) → (Bool) → (Bool) → (Bool) → Prop) (μ : (Int) → (Int) → (Bool) → (Bool) → (Bool) → (Bool) → Nat) {R : PV → Prop} (h : r_trie_find_ucd_flags n f es za zb zc zd i last J μ R) : PCall Try.prog 96 [.sl n f es, .agg [.bool za, .bool zb, .bool zc, .bool zd], .int .i64 i, .int .i64 last] R :=
  PCall.of Try.func96 (by kernel_rfl) (by kernel_rfl) (Nat.le_of_ble_eq_true (by kernel_rfl)) (Eq.mpr (e_trie_find_ucd_flags n f es za zb zc zd i last J μ R) h)

def r_trie_Trie_ucd_flags_Get (sz : Int) (n f n2 f2 : Bool) (es bs : List (List PV)) (i : Int) (R : PV → Prop) : Prop :=
 if decide (i < (0 : Int)) = true then R (PV.agg [PV.bool false, PV.bool false, PV.bool false, PV.bool false]) else ∃ (n1 : Int), some (PV.int .i64 sz) = some (PV.int .i64 n1) ∧ if decide (i ≥ n1) = true then R (PV.agg [PV.bool false,
 PV.bool false, PV.bool false, PV.bool false]) else ∃ (n3 : Bool), ∃ (f1 : Bool), ∃ (es1 : List (List PV)), some (PV.sl n2 f2 bs) = some (PV.sl n3 f1 es1) ∧ ∃ (n4 : Bool), ∃ (f3 : Bool), ∃ (es2 : List (List PV)), some (PV.sl n f es) = some
 (PV.sl n4 f3 es2) ∧ idxOK es2 (IntKind.i64.wrap (i.tdiv (128 : Int))) 1 ∧ ∃ (n5 : Int), (es2.getD (IntKind.i64.wrap (i.tdiv (128 : Int))).toNat []).head? = some (PV.int .i64 n5) ∧ idxOK es1 n5 512 ∧ ((0 : Int) ≤ i.tmod (128 : Int) ∧ i.tmod
 (128 : Int) < (↑128 : Int)) ∧ ∃ (b : Bool), (List.drop ((i.tmod (128 : Int)).toNat * 4) (es1.getD n5.toNat [])).head? = some (PV.bool b) ∧ ∃ (b1 : Bool), (List.drop ((i.tmod (128 : Int)).toNat * 4) (es1.getD n5.toNat [])).tail.head? = some
 (PV.bool b1) ∧ ∃ (b2 : Bool), (List.drop ((i.tmod (128 : Int)).toNat * 4) (es1.getD n5.toNat [])).tail.tail.head? = some (PV.bool b2) ∧ ∃ (b3 : Bool), (List.drop ((i.tmod (128 : Int)).toNat * 4) (es1.getD n5.toNat [])).tail.tail.tail.head?
 = some (PV.bool b3) ∧ R (PV.agg [PV.bool b, PV.bool b1, PV.bool b2, PV.bool b3])
theorem e_trie_Trie_ucd_flags_Get (sz : Int) (n f n2 f2 : Bool) (es bs : List (List PV)) (i : Int) (R : PV → Prop) : aFn Try.prog (fun _ => none) Try.f82 [0, 1, 4, 5, 19] (fun _ => none) (Try.f82.body.getD .skip) [.ptr [.int .i64 sz, .sl n f es, .sl n2 f2 bs], .int .i64 i] R = r_trie_Trie_ucd_flags_Get sz n f n2 f2 es bs i R := by kernel_rfl
theorem a_trie_Trie_ucd_flags_Get (sz : Int) (n f n2 f2 : Bool) (es bs : List (List PV)) (i : Int) {R : PV → Prop} (h : r_trie_Trie_ucd_flags_Get sz n f n2 f2 es bs i R) : PCall Try.prog 82 [.ptr [.int .i64 sz, .sl n f es, .sl n2 f2 bs], .int .i64 i] R :=
  PCall.of Try.func82 (by kernel_rfl) (by kernel_rfl) (Nat.le_of_ble_eq_true (by kernel_rfl)) (Eq.mpr (e_trie_Trie_ucd_flags_Get sz n f n2 f2 es bs i R) h)

def r_trie_maker_ucd_flags_place (sz : Int) (kn ev : List (PV × PV)) (ixm ixn bkm bkn : Bool) (ix bk : List (List PV)) (b : List PV) (R : LV → Hp → Prop) : Prop :=
 512 ≤ (List.drop 0 b).length ∧ keysOk Try.prog 156 kn ∧ keyOk Try.prog 156 (PV.agg (List.take 512 (List.drop 0 b))) = true ∧ (∀ (v : PV), mapGet (PV.agg (List.take 512 (List.drop 0 b))) kn = some v → ∃ (n : Int), v = PV.int .i64 n ∧ R
 (LV.pv (PV.int .i64 n)) [Ob.box [LV.box 1 0, LV.mp 2, LV.mp 3], Ob.box [LV.pv (PV.int .i64 sz), LV.own 4, LV.own 5], Ob.mp kn, Ob.mp ev, Ob.sl (3, 1) ixm ixn ix, Ob.sl (156, 512) bkm bkn bk]) ∧ (mapGet (PV.agg (List.take 512 (List.drop 0
 b))) kn = none → 512 ≤ (List.drop 0 b).length ∧ keysOk Try.prog 156 kn ∧ keyOk Try.prog 156 (PV.agg (List.take 512 (List.drop 0 b))) = true ∧ 512 ≤ (List.drop 0 b).length ∧ ((List.take 512 (List.drop 0 b)).length = 512 ∧ (szOK [List.take
 512 (List.drop 0 b)] 512 ∧ (bk.length + 1) * 512 ≤ 140737488355328) ∧ R (LV.pv (PV.int .i64 (↑bk.length : Int))) [Ob.box [LV.box 1 0, LV.mp 2, LV.mp 3], Ob.box [LV.pv (PV.int .i64 sz), LV.own 4, LV.own 5], Ob.mp (mapSet (PV.agg (List.take
 512 (List.drop 0 b))) (PV.int .i64 (↑bk.length : Int)) kn), Ob.mp ev, Ob.sl (3, (1 : Nat)) ixm ixn ix, Ob.sl (156, 512) true (bkn && false) (bk ++ [List.take 512 (List.drop 0 b)])]) ∧ (List.take 512 (List.drop 0 b)).length = 512 ∧ ((szOK
 [List.take 512 (List.drop 0 b)] 512 ∧ (bk.length + 1) * 512 ≤ 140737488355328) ∧ R (LV.pv (PV.int .i64 (↑bk.length : Int))) [Ob.box [LV.box 1 0, LV.mp 2, LV.mp 3], Ob.box [LV.pv (PV.int .i64 sz), LV.own 4, LV.own 5], Ob.mp (mapSet (PV.agg
 (List.take 512 (List.drop 0 b))) (PV.int .i64 (↑bk.length : Int)) kn), Ob.mp ev, Ob.sl ((3 : Nat), 1) ixm ixn ix, Ob.sl (156, 512) true (bkn && false) (bk ++ [List.take 512 (List.drop 0 b)])]) ∧ (szOK [List.take 512 (List.drop 0 b)] 512 ∧
 (bk.length + 1) * 512 ≤ 140737488355328) ∧ R (LV.pv (PV.int .i64 (↑bk.length : Int))) [Ob.box [LV.box 1 0, LV.mp 2, LV.mp 3], Ob.box [LV.pv (PV.int .i64 sz), LV.own 4, LV.own 5], Ob.mp (mapSet (PV.agg (List.take 512 (List.drop 0 b)))
 (PV.int .i64 (↑bk.length : Int)) kn), Ob.mp ev, Ob.sl (3, 1) ixm ixn ix, Ob.sl (156, 512) true (bkn && false) (bk ++ [List.take 512 (List.drop 0 b)])])
theorem e_trie_maker_ucd_flags_place (sz : Int) (kn ev : List (PV × PV)) (ixm ixn bkm bkn : Bool) (ix bk : List (List PV)) (b : List PV) (R : LV → Hp → Prop) : aFnH Try.prog (fun _ => none) Try.f98 [0, 1, 3, 4, 5, 6, 17] (fun _ => none) [0,1,2,3,4,5] (Try.f98.body.getD .skip) [.box 0 0, .pv (.agg b)] [.box [.box 1 0, .mp 2, .mp 3], .box [.pv (.int .i64 sz), .own 4, .own 5], .mp kn, .mp ev, .sl (3, 1) ixm ixn ix, .sl (156, 512) bkm bkn bk] R = r_trie_maker_ucd_flags_place sz kn ev ixm ixn bkm bkn ix bk b R := by kernel_rfl
theorem a_trie_maker_ucd_flags_place (sz : Int) (kn ev : List (PV × PV)) (ixm ixn bkm bkn : Bool) (ix bk : List (List PV)) (b : List PV) {R : LV → Hp → Prop} (h : r_trie_maker_ucd_flags_place sz kn ev ixm ixn bkm bkn ix bk b R) : ACall Try.prog 98 [.box 0 0, .pv (.agg b)] [.box [.box 1 0, .mp 2, .mp 3], .box [.pv (.int .i64 sz), .own 4, .own 5], .mp kn, .mp ev, .sl (3, 1) ixm ixn ix, .sl (156, 512) bkm bkn bk] R :=
  ACall.of Try.func98 (by kernel_rfl) (by kernel_rfl) (Nat.le_of_ble_eq_true (by kernel_rfl)) (Eq.mpr (e_trie_maker_ucd_flags_place sz kn ev ixm ixn bkm bkn ix bk b R) h)

def r_trie_maker_ucd_flags_plain (sz : Int) (kn ev : List (PV × PV)) (ixm ixn bkm bkn : Bool) (ix bk : List (List PV)) (va vb vc vd : Bool) (J : (Int) → (List (PV × PV)) → (List (PV × PV)) → (List PV) → Prop) (μ : (Int) → (List (PV × PV)) → (List (PV × PV)) → (List PV) → Nat) (R : LV → Hp → Prop) : Prop :=
 keysOk Try.prog 99 ev ∧ keyOk Try.prog 99 (PV.agg [PV.bool va, PV.bool vb, PV.bool vc, PV.bool vd]) = true ∧ (∀ (v : PV), mapGet (PV.agg [PV.bool va, PV.bool vb, PV.bool vc, PV.bool vd]) ev = some v → ∃ (n : Int), v = PV.int .i64 n ∧ R
 (LV.pv (PV.int .i64 n)) [Ob.box [LV.box 1 0, LV.mp 2, LV.mp 3], Ob.box [LV.pv (PV.int .i64 sz), LV.own 4, LV.own 5], Ob.mp kn, Ob.mp ev, Ob.sl (3, 1) ixm ixn ix, Ob.sl (156, 512) bkm bkn bk]) ∧ (mapGet (PV.agg [PV.bool va, PV.bool vb,
 PV.bool vc, PV.bool vd]) ev = none → (SameSt ([(0, LV.box 0 0), (3, LV.box 6 0), (7, LV.box 7 0), (20, LV.pv (PV.int .i64 (0 : Int)))], [Ob.box [LV.box 1 0, LV.mp 2, LV.mp 3], Ob.box [LV.pv (PV.int .i64 sz), LV.own 4, LV.own 5], Ob.mp kn,
 Ob.mp ev, Ob.sl (3, 1) (bif false then true else ixm) ixn ix, Ob.sl (156, 512) (bif false then true else bkm) bkn bk, Ob.box [LV.pv (PV.bool va), LV.pv (PV.bool vb), LV.pv (PV.bool vc), LV.pv (PV.bool vd)], Ob.arr (List.replicate 512
 (PV.bool false))]) ([(0, LV.box 0 0), (3, LV.box 6 0), (7, LV.box 7 0), (20, LV.pv (PV.int .i64 (0 : Int)))], [Ob.box [LV.box 1 0, LV.mp 2, LV.mp 3], Ob.box [LV.pv (PV.int .i64 sz), LV.own 4, LV.own 5], Ob.mp kn, Ob.mp ev, Ob.sl (3, 1) ixm
 ixn ix, Ob.sl (156, 512) bkm bkn bk, Ob.box [LV.pv (PV.bool va), LV.pv (PV.bool vb), LV.pv (PV.bool vc), LV.pv (PV.bool vd)], Ob.arr (List.replicate 512 (PV.bool false))]) ∧ J (0 : Int) kn ev (List.replicate 512 (PV.bool false))) ∧ ∀ (x20 :
 Int) (m_2 m_3 : List (PV × PV)) (c_7 : List PV), J x20 m_2 m_3 c_7 → if decide (x20 < (128 : Int)) = true then ((0 : Int) ≤ x20 ∧ x20 < (↑128 : Int)) ∧ (4 = 4 ∧ 0 + x20.toNat * 4 + 4 ≤ c_7.length) ∧ SameSt ([(0, LV.box 0 0), (3, LV.box 6
 0), ((7 : Nat), LV.box 7 0), (20, LV.pv (PV.int .i64 (IntKind.i64.wrap (x20 + (1 : Int)))))], [Ob.box [LV.box 1 0, LV.mp 2, LV.mp 3], Ob.box [LV.pv (PV.int .i64 sz), LV.own 4, LV.own 5], Ob.mp m_2, Ob.mp m_3, Ob.sl (3, 1) (bif false then
 true else ixm) ixn ix, Ob.sl (156, 512) (bif false then true else bkm) bkn bk, Ob.box [LV.pv (PV.bool va), LV.pv (PV.bool vb), LV.pv (PV.bool vc), LV.pv (PV.bool vd)], Ob.arr (spl c_7 (0 + x20.toNat * 4) [PV.bool va, PV.bool vb, PV.bool vc,
 PV.bool vd])]) ([(0, LV.box 0 0), (3, LV.box 6 0), (7, LV.box 7 0), (20, LV.pv (PV.int .i64 (IntKind.i64.wrap (x20 + (1 : Int)))))], [Ob.box [LV.box 1 0, LV.mp 2, LV.mp 3], Ob.box [LV.pv (PV.int .i64 sz), LV.own 4, LV.own 5], Ob.mp m_2,
 Ob.mp m_3, Ob.sl (3, 1) ixm ixn ix, Ob.sl (156, 512) bkm bkn bk, Ob.box [LV.pv (PV.bool va), LV.pv (PV.bool vb), LV.pv (PV.bool vc), LV.pv (PV.bool vd)], Ob.arr (spl c_7 (0 + x20.toNat * 4) [PV.bool va, PV.bool vb, PV.bool vc, PV.bool
 vd])]) ∧ J (IntKind.i64.wrap (x20 + (1 : Int))) m_2 m_3 (spl c_7 (0 + x20.toNat * (4 : Nat)) [PV.bool va, PV.bool vb, PV.bool vc, PV.bool vd]) ∧ μ (IntKind.i64.wrap (x20 + (1 : Int))) m_2 m_3 (spl c_7 (0 + x20.toNat * 4) [PV.bool va,
 PV.bool vb, PV.bool vc, PV.bool vd]) < μ x20 m_2 m_3 c_7 else (512 : Nat) ≤ (List.drop 0 c_7).length ∧ ACall Try.prog 98 [LV.box 0 0, LV.pv (PV.agg (List.take 512 (List.drop 0 c_7)))] [Ob.box [LV.box 1 0, LV.mp 2, LV.mp 3], Ob.box [LV.pv
 (PV.int .i64 sz), LV.own 4, LV.own 5], Ob.mp m_2, Ob.mp m_3, Ob.sl (3, 1) false ixn ix, Ob.sl (156, 512) false bkn bk] fun (r : LV) (h' : Hp) ↦ ∃ (t : Int × List (PV × PV) × Bool × List (List PV)), (r = LV.pv (PV.int .i64 t.1) ∧ h' =
 [Ob.box [LV.box 1 0, LV.mp 2, LV.mp 3], Ob.box [LV.pv (PV.int .i64 sz), LV.own 4, LV.own 5], Ob.mp t.snd.fst, Ob.mp m_3, Ob.sl (3, 1) false ixn ix, Ob.sl (156, 512) true t.snd.snd.fst t.snd.snd.snd]) ∧ (True ∧ ((3, 1) = (3, 1) ∧ ixn = ixn ∧
 ix.length = ix.length) ∧ True ∧ True ∧ True ∧ True ∧ True) ∧ keysOk Try.prog 99 m_3 ∧ keyOk Try.prog 99 (PV.agg [PV.bool va, PV.bool vb, PV.bool vc, PV.bool vd]) = true ∧ R (LV.pv (PV.int .i64 t.1)) [Ob.box [LV.box 1 0, LV.mp 2, LV.mp 3],
 Ob.box [LV.pv (PV.int .i64 sz), LV.own 4, LV.own 5], Ob.mp t.snd.fst, Ob.mp (mapSet (PV.agg [PV.bool va, PV.bool vb, PV.bool vc, PV.bool vd]) (PV.int .i64 t.1) m_3), Ob.sl (3, 1) (ixm || false) ixn ix, Ob.sl (156, 512) (bkm || true)
 t.snd.snd.fst t.snd.snd.snd])
theorem e_trie_maker_ucd_flags_plain (sz : Int) (kn ev : List (PV × PV)) (ixm ixn bkm bkn : Bool) (ix bk : List (List PV)) (va vb vc vd : Bool) (J : (Int) → (List (PV × PV)) → (List (PV × PV)) → (List PV) → Prop) (μ : (Int) → (List (PV × PV)) → (List (PV × PV)) → (List PV) → Nat) (R : LV → Hp → Prop) : aFnH Try.prog (fun zz_ => match zz_ with | 98 => some ⟨Int × List (PV × PV) × Bool × List (List PV), fun _ hs t => (.pv (.int .i64 t.1), match hs with | [m, r, .mp _, ev, ix, .sl a _ _ _] => [m, r, .mp t.2.1, ev, ix, .sl a true t.2.2.1 t.2.2.2] | h => h), none⟩ | _ => none) Try.f97 [0, 1, 3, 4, 5, 6, 7, 8, 19, 20, 21] (fun zz_ => match zz_ with | 5 => some ⟨Int × (List (PV × PV)) × (List (PV × PV)) × (List PV), fun s => (fun (x20 : Int) (m_2 : List (PV × PV)) (m_3 : List (PV × PV)) (c_7 : List PV) => ([(0, LV.box 0 0), (3, LV.box 6 0), (7, LV.box 7 0), (20, .pv (.int IntKind.i64 x20))], [.box [LV.box 1 0, LV.mp 2, LV.mp 3], .box [LV.pv (PV.int IntKind.i64 sz), LV.own 4, LV.own 5], .mp m_2, .mp m_3, .sl (3, 1) ixm ixn ix, .sl (156, 512) bkm bkn bk, .box [LV.pv (PV.bool va), LV.pv (PV.bool vb), LV.pv (PV.bool vc), LV.pv (PV.bool vd)], .arr c_7])) s.1 s.2.1 s.2.2.1 s.2.2.2, fun _ s => J s.1 s.2.1 s.2.2.1 s.2.2.2, fun s => μ s.1 s.2.1 s.2.2.1 s.2.2.2, fun e h => (gI e 20, oM h 2, oM h 3, oA h 7), [], [0, 3, 7, 20], [], fun p => ∀ (x20 : Int) (m_2 : List (PV × PV)) (m_3 : List (PV × PV)) (c_7 : List PV), p (x20, m_2, m_3, c_7), fun p h s => h s.1 s.2.1 s.2.2.1 s.2.2.2⟩ | _ => none) [0,1,2,3,4,5] (Try.f97.body.getD .skip) [.box 0 0, .pv (.agg [.bool va, .bool vb, .bool vc, .bool vd])] [.box [.box 1 0, .mp 2, .mp 3], .box [.pv (.int .i64 sz), .own 4, .own 5], .mp kn, .mp ev, .sl (3, 1) ixm ixn ix, .sl (156, 512) bkm bkn bk] R = r_trie_maker_ucd_flags_plain sz kn ev ixm ixn bkm bkn ix bk va vb vc vd J μ R := by kernel_rfl
theorem a_trie_maker_ucd_flags_plain (sz : Int) (kn ev : List (PV × PV)) (ixm ixn bkm bkn : Bool) (ix bk : List (List PV)) (va vb vc vd : Bool) (J : (Int) → (List (PV × PV)) → (List (PV × PV)) → (List PV) → Prop) (μ : (Int) → (List (PV × PV)) → (List (PV × PV)) → (List PV) → Nat) {R : LV → Hp → Prop} (h : r_trie_maker_ucd_flags_plain sz kn ev ixm ixn bkm bkn ix bk va vb vc vd J μ R) : ACall Try.prog 97 [.box 0 0, .pv (.agg [.bool va, .bool vb, .bool vc, .bool vd])] [.box [.box 1 0, .mp 2, .mp 3], .box [.pv (.int .i64 sz), .own 4, .own 5], .mp kn, .mp ev, .sl (3, 1) ixm ixn ix, .sl (156, 512) bkm bkn bk] R :=
  ACall.of Try.func97 (by kernel_rfl) (by kernel_rfl) (Nat.le_of_ble_eq_true (by kernel_rfl)) (Eq.mpr (e_trie_maker_ucd_flags_plain sz kn ev ixm ixn bkm bkn ix bk va vb vc vd J μ R) h)

def r_trie_Build_ucd_flags (sz : Int) (za zb zc zd : Bool) (n f : Bool) (es : List (List PV)) (J : (Int) → (Int) → (Bool) → (Bool) → (Bool) → (Bool) → (Bool) → (List (List PV)) → (Bool) → (List (List PV)) → (List (PV × PV)) → (List (PV × PV)) → Prop) (μ : (Int) → (Int) → (Bool) → (Bool) → (Bool) → (Bool) → (Bool) → (List (List PV)) → (Bool) → (List (List PV)) → (List (PV × PV)) → (List (PV × PV)) → Nat) (J2 : (Int) → (Int) → (Int) → (Bool) → (Bool) → (Bool) → (Bool) → (Bool) → (List (List PV)) → (Bool) → (List (List PV)) → (List (PV × PV)) → (List (PV × PV)) → (Int) → (Int) → (Int) → (Bool) → (Bool) → (Bool) → (Bool) → (Bool) → (List (List PV)) → (Bool) → (List (List PV)) → (List (PV × PV)) → (List (PV × PV)) → Prop) (μ2 : (Int) → (Int) → (Int) → (Bool) → (Bool) → (Bool) → (Bool) → (Bool) → (List (List PV)) → (Bool) → (List (List PV)) → (List (PV × PV)) → (List (PV × PV)) → Nat) (J3 : (Int) → (Int) → (Int) → (Bool) → (Bool) → (Bool) → (Bool) → (List PV) → (Bool) → (List (List PV)) → (Bool) → (List (List PV)) → (List (PV × PV)) → (List (PV × PV)) → (Int) → (Int) → (Int) → (Bool) → (Bool) → (Bool) → (Bool) → (List PV) → (Bool) → (List (List PV)) → (Bool) → (List (List PV)) → (List (PV × PV)) → (List (PV × PV)) → Prop) (μ3 : (Int) → (Int) → (Int) → (Bool) → (Bool) → (Bool) → (Bool) → (List PV) → (Bool) → (List (List PV)) → (Bool) → (List (List PV)) → (List (PV × PV)) → (List (PV × PV)) → Nat) (R : PV → Prop) : Prop :=
 if decide (sz < (1 : Int)) = true then R PV.nilp else PCall Try.prog 96 [PV.sl n f es, PV.agg [PV.bool za, PV.bool zb, PV.bool zc, PV.bool zd], PV.int .i64 (0 : Int), PV.int .i64 (IntKind.i64.wrap (sz - (1 : Int)))] fun (v : PV) ↦ ∃ (vs :
 List PV), v = PV.tup vs ∧ vs.length = 2 ∧ ∃ (x : PV), vs.head? = some x ∧ ∃ (cs : List PV), x = PV.agg cs ∧ cs.length = 4 ∧ ∃ (b : Bool), cs.head? = some (PV.bool b) ∧ ∃ (b1 : Bool), cs.tail.head? = some (PV.bool b1) ∧ ∃ (b2 : Bool),
 cs.tail.tail.head? = some (PV.bool b2) ∧ ∃ (b3 : Bool), cs.tail.tail.tail.head? = some (PV.bool b3) ∧ ∃ (x1 : PV), vs.tail.head? = some x1 ∧ ∃ (n1 : Int), x1 = PV.int .i64 n1 ∧ (Same1 ([(0, LV.pv (PV.int .i64 sz)), (2, LV.pv (PV.sl n f
 es)), (4, LV.box 0 0), (7, LV.box 1 0), (8, LV.box 2 0), (9, LV.box 3 0), (10, LV.pv (PV.int .i64 n1)), (11, LV.pv (PV.int .i64 (0 : Int)))], [Ob.box [LV.pv (PV.bool za), LV.pv (PV.bool zb), LV.pv (PV.bool zc), LV.pv (PV.bool zd)], Ob.box
 [LV.pv (PV.int .i64 sz), LV.own 4, LV.own 5], Ob.box [LV.box 1 0, LV.mp 6, LV.mp 7], Ob.box [LV.pv (PV.bool b), LV.pv (PV.bool b1), LV.pv (PV.bool b2), LV.pv (PV.bool b3)], Ob.sl (3, 1) true true [], Ob.sl (156, 512) true true [], Ob.mp [],
 Ob.mp []]) ∧ J n1 (0 : Int) b b1 b2 b3 true [] true [] [] []) ∧ ∀ (x10 x11 : Int) (h3_0 h3_1 h3_2 h3_3 n_4 : Bool) (s_4 : List (List PV)) (n_5 : Bool) (s_5 : List (List PV)) (m_6 m_7 : List (PV × PV)), J x10 x11 h3_0 h3_1 h3_2 h3_3 n_4 s_4
 n_5 s_5 m_6 m_7 → if decide (x11 < sz) = true then if decide (x11 > x10) = true then PCall Try.prog 96 [PV.sl n f es, PV.agg [PV.bool za, PV.bool zb, PV.bool zc, PV.bool zd], PV.int .i64 x11, PV.int .i64 (IntKind.i64.wrap (sz - (1 : Int)))]
 fun (v1 : PV) ↦ ∃ (vs1 : List PV), v1 = PV.tup vs1 ∧ vs1.length = 2 ∧ ∃ (x2 : PV), vs1.head? = some x2 ∧ ∃ (cs1 : List PV), x2 = PV.agg cs1 ∧ cs1.length = 4 ∧ ∃ (b4 : Bool), cs1.head? = some (PV.bool b4) ∧ ∃ (b5 : Bool), cs1.tail.head? =
 some (PV.bool b5) ∧ ∃ (b6 : Bool), cs1.tail.tail.head? = some (PV.bool b6) ∧ ∃ (b7 : Bool), cs1.tail.tail.tail.head? = some (PV.bool b7) ∧ ∃ (x3 : PV), vs1.tail.head? = some x3 ∧ ∃ (n2 : Int), x3 = PV.int .i64 n2 ∧ if decide (n2 ≥
 IntKind.i64.wrap ((if sz < IntKind.i64.wrap (x11 + (128 : Int)) then sz else IntKind.i64.wrap (x11 + (128 : Int))) - (1 : Int))) = true then ACall Try.prog 97 [LV.box 0 0, LV.pv (PV.agg [PV.bool b4, PV.bool b5, PV.bool b6, PV.bool b7])]
 [Ob.box [LV.box 1 0, LV.mp 2, LV.mp 3], Ob.box [LV.pv (PV.int .i64 sz), LV.own 4, LV.own 5], Ob.mp m_6, Ob.mp m_7, Ob.sl (3, 1) false n_4 s_4, Ob.sl (156, 512) false n_5 s_5] fun (r : LV) (h' : Hp) ↦ ∃ (t : Int × List (PV × PV) × List (PV ×
 PV) × Bool × List (List PV)), (r = LV.pv (PV.int .i64 t.1) ∧ h' = [Ob.box [LV.box 1 0, LV.mp 2, LV.mp 3], Ob.box [LV.pv (PV.int .i64 sz), LV.own 4, LV.own 5], Ob.mp t.snd.fst, Ob.mp t.snd.snd.fst, Ob.sl (3, (1 : Nat)) false n_4 s_4, Ob.sl
 (156, 512) true t.snd.snd.snd.fst t.snd.snd.snd.snd]) ∧ (True ∧ ((3, 1) = (3, 1) ∧ n_4 = n_4 ∧ s_4.length = s_4.length) ∧ True ∧ True ∧ True ∧ True ∧ True) ∧ (Same1 ([(0, LV.pv (PV.int .i64 sz)), (2, LV.pv (PV.sl n f es)), (4, LV.box 0 0),
 (7, LV.box 1 0), (8, LV.box 2 0), (9, LV.box 3 0), (10, LV.pv (PV.int .i64 n2)), (11, LV.pv (PV.int .i64 x11)), (13, LV.pv (PV.int .i64 t.1))], [Ob.box [LV.pv (PV.bool za), LV.pv (PV.bool zb), LV.pv (PV.bool zc), LV.pv (PV.bool zd)], Ob.box
 [LV.pv (PV.int .i64 sz), LV.own 4, LV.own 5], Ob.box [LV.box 1 0, LV.mp 6, LV.mp 7], Ob.box [LV.pv (PV.bool b4), LV.pv (PV.bool b5), LV.pv (PV.bool b6), LV.pv (PV.bool b7)], Ob.sl (3, 1) true n_4 s_4, Ob.sl (156, 512) true t.snd.snd.snd.fst
 t.snd.snd.snd.snd, Ob.mp t.snd.fst, Ob.mp t.snd.snd.fst]) ∧ J2 n2 x11 t.1 b4 b5 b6 b7 n_4 s_4 t.snd.snd.snd.fst t.snd.snd.snd.snd t.snd.fst t.snd.snd.fst n2 x11 t.1 b4 b5 b6 b7 n_4 s_4 t.snd.snd.snd.fst t.snd.snd.snd.snd t.snd.fst
 t.snd.snd.fst) ∧ ∀ (x101 x111 x13 : Int) (h3_01 h3_11 h3_21 h3_31 n_41 : Bool) (s_41 : List (List PV)) (n_51 : Bool) (s_51 : List (List PV)) (m_61 m_71 : List (PV × PV)), J2 n2 x11 t.1 b4 b5 b6 b7 n_4 s_4 t.snd.snd.snd.fst t.snd.snd.snd.snd
 t.snd.fst t.snd.snd.fst x101 x111 x13 h3_01 h3_11 h3_21 h3_31 n_41 s_41 n_51 s_51 m_61 m_71 → if (decide (x111 < sz) && decide (x101 ≥ IntKind.i64.wrap ((if sz < IntKind.i64.wrap (x111 + (128 : Int)) then sz else IntKind.i64.wrap (x111 +
 (128 : Int))) - (1 : Int)))) = true then (szOK [[PV.int .i64 x13]] 1 ∧ (s_41.length + 1) * 8 ≤ 140737488355328) ∧ Same1 ([(0, LV.pv (PV.int .i64 sz)), (2, LV.pv (PV.sl n f es)), (4, LV.box 0 0), (7, LV.box 1 0), (8, LV.box 2 0), (9, LV.box
 3 0), (10, LV.pv (PV.int .i64 x101)), (11, LV.pv (PV.int .i64 (IntKind.i64.wrap (x111 + (128 : Int))))), (13, LV.pv (PV.int .i64 x13))], [Ob.box [LV.pv (PV.bool za), LV.pv (PV.bool zb), LV.pv (PV.bool zc), LV.pv (PV.bool zd)], Ob.box [LV.pv
 (PV.int .i64 sz), LV.own 4, LV.own 5], Ob.box [LV.box 1 0, LV.mp 6, LV.mp 7], Ob.box [LV.pv (PV.bool h3_01), LV.pv (PV.bool h3_11), LV.pv (PV.bool h3_21), LV.pv (PV.bool h3_31)], Ob.sl (3, 1) true (n_41 && false) (s_41 ++ [[PV.int .i64
 x13]]), Ob.sl (156, 512) true n_51 s_51, Ob.mp m_61, Ob.mp m_71]) ∧ J2 n2 x11 t.1 b4 b5 b6 b7 n_4 s_4 t.snd.snd.snd.fst t.snd.snd.snd.snd t.snd.fst t.snd.snd.fst x101 (IntKind.i64.wrap (x111 + (128 : Int))) x13 h3_01 h3_11 h3_21 h3_31 (n_41
 && false) (s_41 ++ [[PV.int .i64 x13]]) n_51 s_51 m_61 m_71 ∧ μ2 x101 (IntKind.i64.wrap (x111 + (128 : Int))) x13 h3_01 h3_11 h3_21 h3_31 (n_41 && false) (s_41 ++ [[PV.int .i64 x13]]) n_51 s_51 m_61 m_71 < μ2 x101 x111 x13 h3_01 h3_11 h3_21
 h3_31 n_41 s_41 n_51 s_51 m_61 m_71 else Same1 ([(0, LV.pv (PV.int .i64 sz)), (2, LV.pv (PV.sl n f es)), (4, LV.box 0 0), (7, LV.box 1 0), (8, LV.box 2 0), (9, LV.box 3 0), (10, LV.pv (PV.int .i64 x101)), (11, LV.pv (PV.int .i64
 (IntKind.i64.wrap (IntKind.i64.wrap (x111 - (128 : Int)) + (128 : Int)))))], [Ob.box [LV.pv (PV.bool za), LV.pv (PV.bool zb), LV.pv (PV.bool zc), LV.pv (PV.bool zd)], Ob.box [LV.pv (PV.int .i64 sz), LV.own 4, LV.own 5], Ob.box [LV.box 1 0,
 LV.mp 6, LV.mp 7], Ob.box [LV.pv (PV.bool h3_01), LV.pv (PV.bool h3_11), LV.pv (PV.bool h3_21), LV.pv (PV.bool h3_31)], Ob.sl (3, 1) true n_41 s_41, Ob.sl (156, 512) true n_51 s_51, Ob.mp m_61, Ob.mp m_71]) ∧ J x101 (IntKind.i64.wrap
 (IntKind.i64.wrap (x111 - (128 : Int)) + (128 : Int))) h3_01 h3_11 h3_21 h3_31 n_41 s_41 n_51 s_51 m_61 m_71 ∧ μ x101 (IntKind.i64.wrap (IntKind.i64.wrap (x111 - (128 : Int)) + (128 : Int))) h3_01 h3_11 h3_21 h3_31 n_41 s_41 n_51 s_51 m_61
 m_71 < μ x10 x11 h3_0 h3_1 h3_2 h3_3 n_4 s_4 n_5 s_5 m_6 m_7 else (Same1 ([(0, LV.pv (PV.int .i64 sz)), (2, LV.pv (PV.sl n f es)), (4, LV.box 0 0), (7, LV.box 1 0), (8, LV.box 2 0), (9, LV.box 3 0), (10, LV.pv (PV.int .i64 n2)), (11, LV.pv
 (PV.int .i64 x11)), (14, LV.box 4 0), (88, LV.pv (PV.int .i64 (0 : Int)))], [Ob.box [LV.pv (PV.bool za), LV.pv (PV.bool zb), LV.pv (PV.bool zc), LV.pv (PV.bool zd)], Ob.box [LV.pv (PV.int .i64 sz), LV.own 5, LV.own 6], Ob.box [LV.box 1 0,
 LV.mp 7, LV.mp 8], Ob.box [LV.pv (PV.bool b4), LV.pv (PV.bool b5), LV.pv (PV.bool b6), LV.pv (PV.bool b7)], Ob.arr [PV.bool false, PV.bool false, PV.bool false, PV.bool false, PV.bool false, PV.bool false, PV.bool false, PV.bool false,
 PV.bool false, PV.bool false, PV.bool false, PV.bool false, PV.bool false, PV.bool false, PV.bool false, PV.bool false, PV.bool false, PV.bool false, PV.bool false, PV.bool false, PV.bool false, PV.bool false, PV.bool false, PV.bool false,
 PV.bool false, PV.bool false, PV.bool false, PV.bool false, PV.bool false, PV.bool false, PV.bool false, PV.bool false, PV.bool false, PV.bool false, PV.bool false, PV.bool false, PV.bool false, PV.bool false, PV.bool false, PV.bool false,
 PV.bool false, PV.bool false, PV.bool false, PV.bool false, PV.bool false, PV.bool false, PV.bool false, PV.bool false, PV.bool false, PV.bool false, PV.bool false, PV.bool false, PV.bool false, PV.bool false, PV.bool false, PV.bool false,
 PV.bool false, PV.bool false, PV.bool false, PV.bool false, PV.bool false, PV.bool false, PV.bool false, PV.bool false, PV.bool false, PV.bool false, PV.bool false, PV.bool false, PV.bool false, PV.bool false, PV.bool false, PV.bool false,
 PV.bool false, PV.bool false, PV.bool false, PV.bool false, PV.bool false, PV.bool false, PV.bool false, PV.bool false, PV.bool false, PV.bool false, PV.bool false, PV.bool false, PV.bool false, PV.bool false, PV.bool false, PV.bool false,
 PV.bool false, PV.bool false, PV.bool false, PV.bool false, PV.bool false, PV.bool false, PV.bool false, PV.bool false, PV.bool false, PV.bool false, PV.bool false, PV.bool false, PV.bool false, PV.bool false, PV.bool false, PV.bool false,
 PV.bool false, PV.bool false, PV.bool false, PV.bool false, PV.bool false, PV.bool false, PV.bool false, PV.bool false, PV.bool false, PV.bool false, PV.bool false, PV.bool false, PV.bool false, PV.bool false, PV.bool false, PV.bool false,
 PV.bool false, PV.bool false, PV.bool false, PV.bool false, PV.bool false, PV.bool false, PV.bool false, PV.bool false, PV.bool false, PV.bool false, PV.bool false, PV.bool false, PV.bool false, PV.bool false, PV.bool false, PV.bool false,
 PV.bool false, PV.bool false, PV.bool false, PV.bool false, PV.bool false, PV.bool false, PV.bool false, PV.bool false, PV.bool false, PV.bool false, PV.bool false, PV.bool false, PV.bool false, PV.bool false, PV.bool false, PV.bool false,
 PV.bool false, PV.bool false, PV.bool false, PV.bool false, PV.bool false, PV.bool false, PV.bool false, PV.bool false, PV.bool false, PV.bool false, PV.bool false, PV.bool false, PV.bool false, PV.bool false, PV.bool false, PV.bool false,
 PV.bool false, PV.bool false, PV.bool false, PV.bool false, PV.bool false, PV.bool false, PV.bool false, PV.bool false, PV.bool false, PV.bool false, PV.bool false, PV.bool false, PV.bool false, PV.bool false, PV.bool false, PV.bool false,
 PV.bool false, PV.bool false, PV.bool false, PV.bool false, PV.bool false, PV.bool false, PV.bool false, PV.bool false, PV.bool false, PV.bool false, PV.bool false, PV.bool false, PV.bool false, PV.bool false, PV.bool false, PV.bool false,
 PV.bool false, PV.bool false, PV.bool false, PV.bool false, PV.bool false, PV.bool false, PV.bool false, PV.bool false, PV.bool false, PV.bool false, PV.bool false, PV.bool false, PV.bool false, PV.bool false, PV.bool false, PV.bool false,
 PV.bool false, PV.bool false, PV.bool false, PV.bool false, PV.bool false, PV.bool false, PV.bool false, PV.bool false, PV.bool false, PV.bool false, PV.bool false, PV.bool false, PV.bool false, PV.bool false, PV.bool false, PV.bool false,
 PV.bool false, PV.bool false, PV.bool false, PV.bool false, PV.bool false, PV.bool false, PV.bool false, PV.bool false, PV.bool false, PV.bool false, PV.bool false, PV.bool false, PV.bool false, PV.bool false, PV.bool false, PV.bool false,
 PV.bool false, PV.bool false, PV.bool false, PV.bool false, PV.bool false, PV.bool false, PV.bool false, PV.bool false, PV.bool false, PV.bool false, PV.bool false, PV.bool false, PV.bool false, PV.bool false, PV.bool false, PV.bool false,
 PV.bool false, PV.bool false, PV.bool false, PV.bool false, PV.bool false, PV.bool false, PV.bool false, PV.bool false, PV.bool false, PV.bool false, PV.bool false, PV.bool false, PV.bool false, PV.bool false, PV.bool false, PV.bool false,
 PV.bool false, PV.bool false, PV.bool false, PV.bool false, PV.bool false, PV.bool false, PV.bool false, PV.bool false, PV.bool false, PV.bool false, PV.bool false, PV.bool false, PV.bool false, PV.bool false, PV.bool false, PV.bool false,
 PV.bool false, PV.bool false, PV.bool false, PV.bool false, PV.bool false, PV.bool false, PV.bool false, PV.bool false, PV.bool false, PV.bool false, PV.bool false, PV.bool false, PV.bool false, PV.bool false, PV.bool false, PV.bool false,
 PV.bool false, PV.bool false, PV.bool false, PV.bool false, PV.bool false, PV.bool false, PV.bool false, PV.bool false, PV.bool false, PV.bool false, PV.bool false, PV.bool false, PV.bool false, PV.bool false, PV.bool false, PV.bool false,
 PV.bool false, PV.bool false, PV.bool false, PV.bool false, PV.bool false, PV.bool false, PV.bool false, PV.bool false, PV.bool false, PV.bool false, PV.bool false, PV.bool false, PV.bool false, PV.bool false, PV.bool false, PV.bool false,
 PV.bool false, PV.bool false, PV.bool false, PV.bool false, PV.bool false, PV.bool false, PV.bool false, PV.bool false, PV.bool false, PV.bool false, PV.bool false, PV.bool false, PV.bool false, PV.bool false, PV.bool false, PV.bool false,
 PV.bool false, PV.bool false, PV.bool false, PV.bool false, PV.bool false, PV.bool false, PV.bool false, PV.bool false, PV.bool false, PV.bool false, PV.bool false, PV.bool false, PV.bool false, PV.bool false, PV.bool false, PV.bool false,
 PV.bool false, PV.bool false, PV.bool false, PV.bool false, PV.bool false, PV.bool false, PV.bool false, PV.bool false, PV.bool false, PV.bool false, PV.bool false, PV.bool false, PV.bool false, PV.bool false, PV.bool false, PV.bool false,
 PV.bool false, PV.bool false, PV.bool false, PV.bool false, PV.bool false, PV.bool false, PV.bool false, PV.bool false, PV.bool false, PV.bool false, PV.bool false, PV.bool false, PV.bool false, PV.bool false, PV.bool false, PV.bool false,
 PV.bool false, PV.bool false, PV.bool false, PV.bool false, PV.bool false, PV.bool false, PV.bool false, PV.bool false, PV.bool false, PV.bool false, PV.bool false, PV.bool false, PV.bool false, PV.bool false, PV.bool false, PV.bool false,
 PV.bool false, PV.bool false, PV.bool false, PV.bool false, PV.bool false, PV.bool false, PV.bool false, PV.bool false, PV.bool false, PV.bool false, PV.bool false, PV.bool false, PV.bool false, PV.bool false, PV.bool false, PV.bool false,
 PV.bool false, PV.bool false, PV.bool false, PV.bool false, PV.bool false, PV.bool false, PV.bool false, PV.bool false, PV.bool false, PV.bool false, PV.bool false, PV.bool false, PV.bool false, PV.bool false, PV.bool false, PV.bool false,
 PV.bool false, PV.bool false, PV.bool false, PV.bool false, PV.bool false, PV.bool false, PV.bool false, PV.bool false, PV.bool false, PV.bool false, PV.bool false, PV.bool false, PV.bool false, PV.bool false, PV.bool false, PV.bool false,
 PV.bool false, PV.bool false, PV.bool false, PV.bool false, PV.bool false, PV.bool false, PV.bool false, PV.bool false, PV.bool false, PV.bool false, PV.bool false, PV.bool false, PV.bool false, PV.bool false, PV.bool false, PV.bool false,
 PV.bool false, PV.bool false, PV.bool false, PV.bool false, PV.bool false, PV.bool false, PV.bool false, PV.bool false, PV.bool false, PV.bool false, PV.bool false, PV.bool false, PV.bool false, PV.bool false, PV.bool false, PV.bool false,
 PV.bool false, PV.bool false, PV.bool false, PV.bool false, PV.bool false, PV.bool false, PV.bool false, PV.bool false], Ob.sl (3, 1) true n_4 s_4, Ob.sl (156, 512) true n_5 s_5, Ob.mp m_6, Ob.mp m_7]) ∧ J3 n2 x11 (0 : Int) b4 b5 b6 b7
 [PV.bool false, PV.bool false, PV.bool false, PV.bool false, PV.bool false, PV.bool false, PV.bool false, PV.bool false, PV.bool false, PV.bool false, PV.bool false, PV.bool false, PV.bool false, PV.bool false, PV.bool false, PV.bool false,
 PV.bool false, PV.bool false, PV.bool false, PV.bool false, PV.bool false, PV.bool false, PV.bool false, PV.bool false, PV.bool false, PV.bool false, PV.bool false, PV.bool false, PV.bool false, PV.bool false, PV.bool false, PV.bool false,
 PV.bool false, PV.bool false, PV.bool false, PV.bool false, PV.bool false, PV.bool false, PV.bool false, PV.bool false, PV.bool false, PV.bool false, PV.bool false, PV.bool false, PV.bool false, PV.bool false, PV.bool false, PV.bool false,
 PV.bool false, PV.bool false, PV.bool false, PV.bool false, PV.bool false, PV.bool false, PV.bool false, PV.bool false, PV.bool false, PV.bool false, PV.bool false, PV.bool false, PV.bool false, PV.bool false, PV.bool false, PV.bool false,
 PV.bool false, PV.bool false, PV.bool false, PV.bool false, PV.bool false, PV.bool false, PV.bool false, PV.bool false, PV.bool false, PV.bool false, PV.bool false, PV.bool false, PV.bool false, PV.bool false, PV.bool false, PV.bool false,
 PV.bool false, PV.bool false, PV.bool false, PV.bool false, PV.bool false, PV.bool false, PV.bool false, PV.bool false, PV.bool false, PV.bool false, PV.bool false, PV.bool false, PV.bool false, PV.bool false, PV.bool false, PV.bool false,
 PV.bool false, PV.bool false, PV.bool false, PV.bool false, PV.bool false, PV.bool false, PV.bool false, PV.bool false, PV.bool false, PV.bool false, PV.bool false, PV.bool false, PV.bool false, PV.bool false, PV.bool false, PV.bool false,
 PV.bool false, PV.bool false, PV.bool false, PV.bool false, PV.bool false, PV.bool false, PV.bool false, PV.bool false, PV.bool false, PV.bool false, PV.bool false, PV.bool false, PV.bool false, PV.bool false, PV.bool false, PV.bool false,
 PV.bool false, PV.bool false, PV.bool false, PV.bool false, PV.bool false, PV.bool false, PV.bool false, PV.bool false, PV.bool false, PV.bool false, PV.bool false, PV.bool false, PV.bool false, PV.bool false, PV.bool false, PV.bool false,
 PV.bool false, PV.bool false, PV.bool false, PV.bool false, PV.bool false, PV.bool false, PV.bool false, PV.bool false, PV.bool false, PV.bool false, PV.bool false, PV.bool false, PV.bool false, PV.bool false, PV.bool false, PV.bool false,
 PV.bool false, PV.bool false, PV.bool false, PV.bool false, PV.bool false, PV.bool false, PV.bool false, PV.bool false, PV.bool false, PV.bool false, PV.bool false, PV.bool false, PV.bool false, PV.bool false, PV.bool false, PV.bool false,
 PV.bool false, PV.bool false, PV.bool false, PV.bool false, PV.bool false, PV.bool false, PV.bool false, PV.bool false, PV.bool false, PV.bool false, PV.bool false, PV.bool false, PV.bool false, PV.bool false, PV.bool false, PV.bool false,
 PV.bool false, PV.bool false, PV.bool false, PV.bool false, PV.bool false, PV.bool false, PV.bool false, PV.bool false, PV.bool false, PV.bool false, PV.bool false, PV.bool false, PV.bool false, PV.bool false, PV.bool false, PV.bool false,
 PV.bool false, PV.bool false, PV.bool false, PV.bool false, PV.bool false, PV.bool false, PV.bool false, PV.bool false, PV.bool false, PV.bool false, PV.bool false, PV.bool false, PV.bool false, PV.bool false, PV.bool false, PV.bool false,
 PV.bool false, PV.bool false, PV.bool false, PV.bool false, PV.bool false, PV.bool false, PV.bool false, PV.bool false, PV.bool false, PV.bool false, PV.bool false, PV.bool false, PV.bool false, PV.bool false, PV.bool false, PV.bool false,
 PV.bool false, PV.bool false, PV.bool false, PV.bool false, PV.bool false, PV.bool false, PV.bool false, PV.bool false, PV.bool false, PV.bool false, PV.bool false, PV.bool false, PV.bool false, PV.bool false, PV.bool false, PV.bool false,
 PV.bool false, PV.bool false, PV.bool false, PV.bool false, PV.bool false, PV.bool false, PV.bool false, PV.bool false, PV.bool false, PV.bool false, PV.bool false, PV.bool false, PV.bool false, PV.bool false, PV.bool false, PV.bool false,
 PV.bool false, PV.bool false, PV.bool false, PV.bool false, PV.bool false, PV.bool false, PV.bool false, PV.bool false, PV.bool false, PV.bool false, PV.bool false, PV.bool false, PV.bool false, PV.bool false, PV.bool false, PV.bool false,
 PV.bool false, PV.bool false, PV.bool false, PV.bool false, PV.bool false, PV.bool false, PV.bool false, PV.bool false, PV.bool false, PV.bool false, PV.bool false, PV.bool false, PV.bool false, PV.bool false, PV.bool false, PV.bool false,
 PV.bool false, PV.bool false, PV.bool false, PV.bool false, PV.bool false, PV.bool false, PV.bool false, PV.bool false, PV.bool false, PV.bool false, PV.bool false, PV.bool false, PV.bool false, PV.bool false, PV.bool false, PV.bool false,
 PV.bool false, PV.bool false, PV.bool false, PV.bool false, PV.bool false, PV.bool false, PV.bool false, PV.bool false, PV.bool false, PV.bool false, PV.bool false, PV.bool false, PV.bool false, PV.bool false, PV.bool false, PV.bool false,
 PV.bool false, PV.bool false, PV.bool false, PV.bool false, PV.bool false, PV.bool false, PV.bool false, PV.bool false, PV.bool false, PV.bool false, PV.bool false, PV.bool false, PV.bool false, PV.bool false, PV.bool false, PV.bool false,
 PV.bool false, PV.bool false, PV.bool false, PV.bool false, PV.bool false, PV.bool false, PV.bool false, PV.bool false, PV.bool false, PV.bool false, PV.bool false, PV.bool false, PV.bool false, PV.bool false, PV.bool false, PV.bool false,
 PV.bool false, PV.bool false, PV.bool false, PV.bool false, PV.bool false, PV.bool false, PV.bool false, PV.bool false, PV.bool false, PV.bool false, PV.bool false, PV.bool false, PV.bool false, PV.bool false, PV.bool false, PV.bool false,
 PV.bool false, PV.bool false, PV.bool false, PV.bool false, PV.bool false, PV.bool false, PV.bool false, PV.bool false, PV.bool false, PV.bool false, PV.bool false, PV.bool false, PV.bool false, PV.bool false, PV.bool false, PV.bool false,
 PV.bool false, PV.bool false, PV.bool false, PV.bool false, PV.bool false, PV.bool false, PV.bool false, PV.bool false, PV.bool false, PV.bool false, PV.bool false, PV.bool false, PV.bool false, PV.bool false, PV.bool false, PV.bool false,
 PV.bool false, PV.bool false, PV.bool false, PV.bool false, PV.bool false, PV.bool false, PV.bool false, PV.bool false, PV.bool false, PV.bool false, PV.bool false, PV.bool false, PV.bool false, PV.bool false, PV.bool false, PV.bool false,
 PV.bool false, PV.bool false, PV.bool false, PV.bool false, PV.bool false, PV.bool false, PV.bool false, PV.bool false, PV.bool false, PV.bool false, PV.bool false, PV.bool false, PV.bool false, PV.bool false, PV.bool false, PV.bool false,
 PV.bool false, PV.bool false, PV.bool false, PV.bool false, PV.bool false, PV.bool false, PV.bool false, PV.bool false, PV.bool false, PV.bool false, PV.bool false, PV.bool false, PV.bool false, PV.bool false, PV.bool false, PV.bool false,
 PV.bool false, PV.bool false, PV.bool false, PV.bool false, PV.bool false, PV.bool false, PV.bool false, PV.bool false, PV.bool false, PV.bool false, PV.bool false, PV.bool false, PV.bool false, PV.bool false, PV.bool false, PV.bool false,
 PV.bool false, PV.bool false, PV.bool false, PV.bool false, PV.bool false, PV.bool false, PV.bool false, PV.bool false, PV.bool false, PV.bool false, PV.bool false, PV.bool false, PV.bool false, PV.bool false, PV.bool false, PV.bool false,
 PV.bool false, PV.bool false, PV.bool false, PV.bool false, PV.bool false, PV.bool false, PV.bool false, PV.bool false, PV.bool false, PV.bool false, PV.bool false, PV.bool false, PV.bool false, PV.bool false, PV.bool false, PV.bool false]
 n_4 s_4 n_5 s_5 m_6 m_7 n2 x11 (0 : Int) b4 b5 b6 b7 [PV.bool false, PV.bool false, PV.bool false, PV.bool false, PV.bool false, PV.bool false, PV.bool false, PV.bool false, PV.bool false, PV.bool false, PV.bool false, PV.bool false,
 PV.bool false, PV.bool false, PV.bool false, PV.bool false, PV.bool false, PV.bool false, PV.bool false, PV.bool false, PV.bool false, PV.bool false, PV.bool false, PV.bool false, PV.bool false, PV.bool false, PV.bool false, PV.bool false,
 PV.bool false, PV.bool false, PV.bool false, PV.bool false, PV.bool false, PV.bool false, PV.bool false, PV.bool false, PV.bool false, PV.bool false, PV.bool false, PV.bool false, PV.bool false, PV.bool false, PV.bool false, PV.bool false,
 PV.bool false, PV.bool false, PV.bool false, PV.bool false, PV.bool false, PV.bool false, PV.bool false, PV.bool false, PV.bool false, PV.bool false, PV.bool false, PV.bool false, PV.bool false, PV.bool false, PV.bool false, PV.bool false,
 PV.bool false, PV.bool false, PV.bool false, PV.bool false, PV.bool false, PV.bool false, PV.bool false, PV.bool false, PV.bool false, PV.bool false, PV.bool false, PV.bool false, PV.bool false, PV.bool false, PV.bool false, PV.bool false,
 PV.bool false, PV.bool false, PV.bool false, PV.bool false, PV.bool false, PV.bool false, PV.bool false, PV.bool false, PV.bool false, PV.bool false, PV.bool false, PV.bool false, PV.bool false, PV.bool false, PV.bool false, PV.bool false,
 PV.bool false, PV.bool false, PV.bool false, PV.bool false, PV.bool false, PV.bool false, PV.bool false, PV.bool false, PV.bool false, PV.bool false, PV.bool false, PV.bool false, PV.bool false, PV.bool false, PV.bool false, PV.bool false,
 PV.bool false, PV.bool false, PV.bool false, PV.bool false, PV.bool false, PV.bool false, PV.bool false, PV.bool false, PV.bool false, PV.bool false, PV.bool false, PV.bool false, PV.bool false, PV.bool false, PV.bool false, PV.bool false,
 PV.bool false, PV.bool false, PV.bool false, PV.bool false, PV.bool false, PV.bool false, PV.bool false, PV.bool false, PV.bool false, PV.bool false, PV.bool false, PV.bool false, PV.bool false, PV.bool false, PV.bool false, PV.bool false,
 PV.bool false, PV.bool false, PV.bool false, PV.bool false, PV.bool false, PV.bool false, PV.bool false, PV.bool false, PV.bool false, PV.bool false, PV.bool false, PV.bool false, PV.bool false, PV.bool false, PV.bool false, PV.bool false,
 PV.bool false, PV.bool false, PV.bool false, PV.bool false, PV.bool false, PV.bool false, PV.bool false, PV.bool false, PV.bool false, PV.bool false, PV.bool false, PV.bool false, PV.bool false, PV.bool false, PV.bool false, PV.bool false,
 PV.bool false, PV.bool false, PV.bool false, PV.bool false, PV.bool false, PV.bool false, PV.bool false, PV.bool false, PV.bool false, PV.bool false, PV.bool false, PV.bool false, PV.bool false, PV.bool false, PV.bool false, PV.bool false,
 PV.bool false, PV.bool false, PV.bool false, PV.bool false, PV.bool false, PV.bool false, PV.bool false, PV.bool false, PV.bool false, PV.bool false, PV.bool false, PV.bool false, PV.bool false, PV.bool false, PV.bool false, PV.bool false,
 PV.bool false, PV.bool false, PV.bool false, PV.bool false, PV.bool false, PV.bool false, PV.bool false, PV.bool false, PV.bool false, PV.bool false, PV.bool false, PV.bool false, PV.bool false, PV.bool false, PV.bool false, PV.bool false,
 PV.bool false, PV.bool false, PV.bool false, PV.bool false, PV.bool false, PV.bool false, PV.bool false, PV.bool false, PV.bool false, PV.bool false, PV.bool false, PV.bool false, PV.bool false, PV.bool false, PV.bool false, PV.bool false,
 PV.bool false, PV.bool false, PV.bool false, PV.bool false, PV.bool false, PV.bool false, PV.bool false, PV.bool false, PV.bool false, PV.bool false, PV.bool false, PV.bool false, PV.bool false, PV.bool false, PV.bool false, PV.bool false,
 PV.bool false, PV.bool false, PV.bool false, PV.bool false, PV.bool false, PV.bool false, PV.bool false, PV.bool false, PV.bool false, PV.bool false, PV.bool false, PV.bool false, PV.bool false, PV.bool false, PV.bool false, PV.bool false,
 PV.bool false, PV.bool false, PV.bool false, PV.bool false, PV.bool false, PV.bool false, PV.bool false, PV.bool false, PV.bool false, PV.bool false, PV.bool false, PV.bool false, PV.bool false, PV.bool false, PV.bool false, PV.bool false,
 PV.bool false, PV.bool false, PV.bool false, PV.bool false, PV.bool false, PV.bool false, PV.bool false, PV.bool false, PV.bool false, PV.bool false, PV.bool false, PV.bool false, PV.bool false, PV.bool false, PV.bool false, PV.bool false,
 PV.bool false, PV.bool false, PV.bool false, PV.bool false, PV.bool false, PV.bool false, PV.bool false, PV.bool false, PV.bool false, PV.bool false, PV.bool false, PV.bool false, PV.bool false, PV.bool false, PV.bool false, PV.bool false,
 PV.bool false, PV.bool false, PV.bool false, PV.bool false, PV.bool false, PV.bool false, PV.bool false, PV.bool false, PV.bool false, PV.bool false, PV.bool false, PV.bool false, PV.bool false, PV.bool false, PV.bool false, PV.bool false,
 PV.bool false, PV.bool false, PV.bool false, PV.bool false, PV.bool false, PV.bool false, PV.bool false, PV.bool false, PV.bool false, PV.bool false, PV.bool false, PV.bool false, PV.bool false, PV.bool false, PV.bool false, PV.bool false,
 PV.bool false, PV.bool false, PV.bool false, PV.bool false, PV.bool false, PV.bool false, PV.bool false, PV.bool false, PV.bool false, PV.bool false, PV.bool false, PV.bool false, PV.bool false, PV.bool false, PV.bool false, PV.bool false,
 PV.bool false, PV.bool false, PV.bool false, PV.bool false, PV.bool false, PV.bool false, PV.bool false, PV.bool false, PV.bool false, PV.bool false, PV.bool false, PV.bool false, PV.bool false, PV.bool false, PV.bool false, PV.bool false,
 PV.bool false, PV.bool false, PV.bool false, PV.bool false, PV.bool false, PV.bool false, PV.bool false, PV.bool false, PV.bool false, PV.bool false, PV.bool false, PV.bool false, PV.bool false, PV.bool false, PV.bool false, PV.bool false,
 PV.bool false, PV.bool false, PV.bool false, PV.bool false, PV.bool false, PV.bool false, PV.bool false, PV.bool false, PV.bool false, PV.bool false, PV.bool false, PV.bool false, PV.bool false, PV.bool false, PV.bool false, PV.bool false,
 PV.bool false, PV.bool false, PV.bool false, PV.bool false, PV.bool false, PV.bool false, PV.bool false, PV.bool false, PV.bool false, PV.bool false, PV.bool false, PV.bool false, PV.bool false, PV.bool false, PV.bool false, PV.bool false,
 PV.bool false, PV.bool false, PV.bool false, PV.bool false, PV.bool false, PV.bool false, PV.bool false, PV.bool false, PV.bool false, PV.bool false, PV.bool false, PV.bool false, PV.bool false, PV.bool false, PV.bool false, PV.bool false,
 PV.bool false, PV.bool false, PV.bool false, PV.bool false, PV.bool false, PV.bool false, PV.bool false, PV.bool false, PV.bool false, PV.bool false, PV.bool false, PV.bool false, PV.bool false, PV.bool false, PV.bool false, PV.bool false,
 PV.bool false, PV.bool false, PV.bool false, PV.bool false, PV.bool false, PV.bool false, PV.bool false, PV.bool false, PV.bool false, PV.bool false, PV.bool false, PV.bool false, PV.bool false, PV.bool false, PV.bool false, PV.bool false,
 PV.bool false, PV.bool false, PV.bool false, PV.bool false, PV.bool false, PV.bool false, PV.bool false, PV.bool false, PV.bool false, PV.bool false, PV.bool false, PV.bool false, PV.bool false, PV.bool false, PV.bool false, PV.bool false,
 PV.bool false, PV.bool false, PV.bool false, PV.bool false, PV.bool false, PV.bool false, PV.bool false, PV.bool false, PV.bool false, PV.bool false, PV.bool false, PV.bool false, PV.bool false, PV.bool false, PV.bool false, PV.bool false,
 PV.bool false, PV.bool false, PV.bool false, PV.bool false] n_4 s_4 n_5 s_5 m_6 m_7) ∧ ∀ (x101 x111 x88 : Int) (h3_01 h3_11 h3_21 h3_31 : Bool) (c_4 : List PV) (n_51 : Bool) (s_51 : List (List PV)) (n_6 : Bool) (s_6 : List (List PV)) (m_71
 m_8 : List (PV × PV)), J3 n2 x11 (0 : Int) b4 b5 b6 b7 [PV.bool false, PV.bool false, PV.bool false, PV.bool false, PV.bool false, PV.bool false, PV.bool false, PV.bool false, PV.bool false, PV.bool false, PV.bool false, PV.bool false,
 PV.bool false, PV.bool false, PV.bool false, PV.bool false, PV.bool false, PV.bool false, PV.bool false, PV.bool false, PV.bool false, PV.bool false, PV.bool false, PV.bool false, PV.bool false, PV.bool false, PV.bool false, PV.bool false,
 PV.bool false, PV.bool false, PV.bool false, PV.bool false, PV.bool false, PV.bool false, PV.bool false, PV.bool false, PV.bool false, PV.bool false, PV.bool false, PV.bool false, PV.bool false, PV.bool false, PV.bool false, PV.bool false,
 PV.bool false, PV.bool false, PV.bool false, PV.bool false, PV.bool false, PV.bool false, PV.bool false, PV.bool false, PV.bool false, PV.bool false, PV.bool false, PV.bool false, PV.bool false, PV.bool false, PV.bool false, PV.bool false,
 PV.bool false, PV.bool false, PV.bool false, PV.bool false, PV.bool false, PV.bool false, PV.bool false, PV.bool false, PV.bool false, PV.bool false, PV.bool false, PV.bool false, PV.bool false, PV.bool false, PV.bool false, PV.bool false,
 PV.bool false, PV.bool false, PV.bool false, PV.bool false, PV.bool false, PV.bool false, PV.bool false, PV.bool false, PV.bool false, PV.bool false, PV.bool false, PV.bool false, PV.bool false, PV.bool false, PV.bool false, PV.bool false,
 PV.bool false, PV.bool false, PV.bool false, PV.bool false, PV.bool false, PV.bool false, PV.bool false, PV.bool false, PV.bool false, PV.bool false, PV.bool false, PV.bool false, PV.bool false, PV.bool false, PV.bool false, PV.bool false,
 PV.bool false, PV.bool false, PV.bool false, PV.bool false, PV.bool false, PV.bool false, PV.bool false, PV.bool false, PV.bool false, PV.bool false, PV.bool false, PV.bool false, PV.bool false, PV.bool false, PV.bool false, PV.bool false,
 PV.bool false, PV.bool false, PV.bool false, PV.bool false, PV.bool false, PV.bool false, PV.bool false, PV.bool false, PV.bool false, PV.bool false, PV.bool false, PV.bool false, PV.bool false, PV.bool false, PV.bool false, PV.bool false,
 PV.bool false, PV.bool false, PV.bool false, PV.bool false, PV.bool false, PV.bool false, PV.bool false, PV.bool false, PV.bool false, PV.bool false, PV.bool false, PV.bool false, PV.bool false, PV.bool false, PV.bool false, PV.bool false,
 PV.bool false, PV.bool false, PV.bool false, PV.bool false, PV.bool false, PV.bool false, PV.bool false, PV.bool false, PV.bool false, PV.bool false, PV.bool false, PV.bool false, PV.bool false, PV.bool false, PV.bool false, PV.bool false,
 PV.bool false, PV.bool false, PV.bool false, PV.bool false, PV.bool false, PV.bool false, PV.bool false, PV.bool false, PV.bool false, PV.bool false, PV.bool false, PV.bool false, PV.bool false, PV.bool false, PV.bool false, PV.bool false,
 PV.bool false, PV.bool false, PV.bool false, PV.bool false, PV.bool false, PV.bool false, PV.bool false, PV.bool false, PV.bool false, PV.bool false, PV.bool false, PV.bool false, PV.bool false, PV.bool false, PV.bool false, PV.bool false,
 PV.bool false, PV.bool false, PV.bool false, PV.bool false, PV.bool false, PV.bool false, PV.bool false, PV.bool false, PV.bool false, PV.bool false, PV.bool false, PV.bool false, PV.bool false, PV.bool false, PV.bool false, PV.bool false,
 PV.bool false, PV.bool false, PV.bool false, PV.bool false, PV.bool false, PV.bool false, PV.bool false, PV.bool false, PV.bool false, PV.bool false, PV.bool false, PV.bool false, PV.bool false, PV.bool false, PV.bool false, PV.bool false,
 PV.bool false, PV.bool false, PV.bool false, PV.bool false, PV.bool false, PV.bool false, PV.bool false, PV.bool false, PV.bool false, PV.bool false, PV.bool false, PV.bool false, PV.bool false, PV.bool false, PV.bool false, PV.bool false,
 PV.bool false, PV.bool false, PV.bool false, PV.bool false, PV.bool false, PV.bool false, PV.bool false, PV.bool false, PV.bool false, PV.bool false, PV.bool false, PV.bool false, PV.bool false, PV.bool false, PV.bool false, PV.bool false,
 PV.bool false, PV.bool false, PV.bool false, PV.bool false, PV.bool false, PV.bool false, PV.bool false, PV.bool false, PV.bool false, PV.bool false, PV.bool false, PV.bool false, PV.bool false, PV.bool false, PV.bool false, PV.bool false,
 PV.bool false, PV.bool false, PV.bool false, PV.bool false, PV.bool false, PV.bool false, PV.bool false, PV.bool false, PV.bool false, PV.bool false, PV.bool false, PV.bool false, PV.bool false, PV.bool false, PV.bool false, PV.bool false,
 PV.bool false, PV.bool false, PV.bool false, PV.bool false, PV.bool false, PV.bool false, PV.bool false, PV.bool false, PV.bool false, PV.bool false, PV.bool false, PV.bool false, PV.bool false, PV.bool false, PV.bool false, PV.bool false,
 PV.bool false, PV.bool false, PV.bool false, PV.bool false, PV.bool false, PV.bool false, PV.bool false, PV.bool false, PV.bool false, PV.bool false, PV.bool false, PV.bool false, PV.bool false, PV.bool false, PV.bool false, PV.bool false,
 PV.bool false, PV.bool false, PV.bool false, PV.bool false, PV.bool false, PV.bool false, PV.bool false, PV.bool false, PV.bool false, PV.bool false, PV.bool false, PV.bool false, PV.bool false, PV.bool false, PV.bool false, PV.bool false,
 PV.bool false, PV.bool false, PV.bool false, PV.bool false, PV.bool false, PV.bool false, PV.bool false, PV.bool false, PV.bool false, PV.bool false, PV.bool false, PV.bool false, PV.bool false, PV.bool false, PV.bool false, PV.bool false,
 PV.bool false, PV.bool false, PV.bool false, PV.bool false, PV.bool false, PV.bool false, PV.bool false, PV.bool false, PV.bool false, PV.bool false, PV.bool false, PV.bool false, PV.bool false, PV.bool false, PV.bool false, PV.bool false,
 PV.bool false, PV.bool false, PV.bool false, PV.bool false, PV.bool false, PV.bool false, PV.bool false, PV.bool false, PV.bool false, PV.bool false, PV.bool false, PV.bool false, PV.bool false, PV.bool false, PV.bool false, PV.bool false,
 PV.bool false, PV.bool false, PV.bool false, PV.bool false, PV.bool false, PV.bool false, PV.bool false, PV.bool false, PV.bool false, PV.bool false, PV.bool false, PV.bool false, PV.bool false, PV.bool false, PV.bool false, PV.bool false,
 PV.bool false, PV.bool false, PV.bool false, PV.bool false, PV.bool false, PV.bool false, PV.bool false, PV.bool false, PV.bool false, PV.bool false, PV.bool false, PV.bool false, PV.bool false, PV.bool false, PV.bool false, PV.bool false,
 PV.bool false, PV.bool false, PV.bool false, PV.bool false, PV.bool false, PV.bool false, PV.bool false, PV.bool false, PV.bool false, PV.bool false, PV.bool false, PV.bool false, PV.bool false, PV.bool false, PV.bool false, PV.bool false,
 PV.bool false, PV.bool false, PV.bool false, PV.bool false, PV.bool false, PV.bool false, PV.bool false, PV.bool false, PV.bool false, PV.bool false, PV.bool false, PV.bool false, PV.bool false, PV.bool false, PV.bool false, PV.bool false,
 PV.bool false, PV.bool false, PV.bool false, PV.bool false, PV.bool false, PV.bool false, PV.bool false, PV.bool false, PV.bool false, PV.bool false, PV.bool false, PV.bool false, PV.bool false, PV.bool false, PV.bool false, PV.bool false,
 PV.bool false, PV.bool false, PV.bool false, PV.bool false, PV.bool false, PV.bool false, PV.bool false, PV.bool false, PV.bool false, PV.bool false, PV.bool false, PV.bool false, PV.bool false, PV.bool false, PV.bool false, PV.bool false,
 PV.bool false, PV.bool false, PV.bool false, PV.bool false, PV.bool false, PV.bool false, PV.bool false, PV.bool false, PV.bool false, PV.bool false, PV.bool false, PV.bool false, PV.bool false, PV.bool false, PV.bool false, PV.bool false,
 PV.bool false, PV.bool false, PV.bool false, PV.bool false] n_4 s_4 n_5 s_5 m_6 m_7 x101 x111 x88 h3_01 h3_11 h3_21 h3_31 c_4 n_51 s_51 n_6 s_6 m_71 m_8 → if decide (x88 < (128 : Int)) = true then if (decide (IntKind.i64.wrap (x111 + x88) >
 x101) && decide (IntKind.i64.wrap (x111 + x88) < sz)) = true then PCall Try.prog 96 [PV.sl n f es, PV.agg [PV.bool za, PV.bool zb, PV.bool zc, PV.bool zd], PV.int .i64 (IntKind.i64.wrap (x111 + x88)), PV.int .i64 (IntKind.i64.wrap (sz - (1
 : Int)))] fun (v2 : PV) ↦ ∃ (vs2 : List PV), v2 = PV.tup vs2 ∧ vs2.length = 2 ∧ ∃ (x4 : PV), vs2.head? = some x4 ∧ ∃ (cs2 : List PV), x4 = PV.agg cs2 ∧ cs2.length = 4 ∧ ∃ (b8 : Bool), cs2.head? = some (PV.bool b8) ∧ ∃ (b9 : Bool),
 cs2.tail.head? = some (PV.bool b9) ∧ ∃ (b10 : Bool), cs2.tail.tail.head? = some (PV.bool b10) ∧ ∃ (b11 : Bool), cs2.tail.tail.tail.head? = some (PV.bool b11) ∧ ∃ (x5 : PV), vs2.tail.head? = some x5 ∧ ∃ (n3 : Int), x5 = PV.int .i64 n3 ∧ ((0
 : Int) ≤ x88 ∧ x88 < (↑128 : Int)) ∧ (4 = 4 ∧ 0 + x88.toNat * 4 + 4 ≤ c_4.length) ∧ Same1 ([(0, LV.pv (PV.int .i64 sz)), (2, LV.pv (PV.sl n f es)), (4, LV.box 0 0), (7, LV.box 1 0), (8, LV.box 2 0), (9, LV.box 3 0), (10, LV.pv (PV.int .i64
 n3)), (11, LV.pv (PV.int .i64 x111)), (14, LV.box 4 0), (88, LV.pv (PV.int .i64 (IntKind.i64.wrap (x88 + (1 : Int)))))], [Ob.box [LV.pv (PV.bool za), LV.pv (PV.bool zb), LV.pv (PV.bool zc), LV.pv (PV.bool zd)], Ob.box [LV.pv (PV.int .i64
 sz), LV.own 5, LV.own 6], Ob.box [LV.box 1 0, LV.mp 7, LV.mp 8], Ob.box [LV.pv (PV.bool b8), LV.pv (PV.bool b9), LV.pv (PV.bool b10), LV.pv (PV.bool b11)], Ob.arr (spl c_4 (0 + x88.toNat * 4) [PV.bool b8, PV.bool b9, PV.bool b10, PV.bool
 b11]), Ob.sl (3, 1) true n_51 s_51, Ob.sl (156, 512) true n_6 s_6, Ob.mp m_71, Ob.mp m_8]) ∧ J3 n2 x11 (0 : Int) b4 b5 b6 b7 [PV.bool false, PV.bool false, PV.bool false, PV.bool false, PV.bool false, PV.bool false, PV.bool false, PV.bool
 false, PV.bool false, PV.bool false, PV.bool false, PV.bool false, PV.bool false, PV.bool false, PV.bool false, PV.bool false, PV.bool false, PV.bool false, PV.bool false, PV.bool false, PV.bool false, PV.bool false, PV.bool false, PV.bool
 false, PV.bool false, PV.bool false, PV.bool false, PV.bool false, PV.bool false, PV.bool false, PV.bool false, PV.bool false, PV.bool false, PV.bool false, PV.bool false, PV.bool false, PV.bool false, PV.bool false, PV.bool false, PV.bool
 false, PV.bool false, PV.bool false, PV.bool false, PV.bool false, PV.bool false, PV.bool false, PV.bool false, PV.bool false, PV.bool false, PV.bool false, PV.bool false, PV.bool false, PV.bool false, PV.bool false, PV.bool false, PV.bool
 false, PV.bool false, PV.bool false, PV.bool false, PV.bool false, PV.bool false, PV.bool false, PV.bool false, PV.bool false, PV.bool false, PV.bool false, PV.bool false, PV.bool false, PV.bool false, PV.bool false, PV.bool false, PV.bool
 false, PV.bool false, PV.bool false, PV.bool false, PV.bool false, PV.bool false, PV.bool false, PV.bool false, PV.bool false, PV.bool false, PV.bool false, PV.bool false, PV.bool false, PV.bool false, PV.bool false, PV.bool false, PV.bool
 false, PV.bool false, PV.bool false, PV.bool false, PV.bool false, PV.bool false, PV.bool false, PV.bool false, PV.bool false, PV.bool false, PV.bool false, PV.bool false, PV.bool false, PV.bool false, PV.bool false, PV.bool false, PV.bool
 false, PV.bool false, PV.bool false, PV.bool false, PV.bool false, PV.bool false, PV.bool false, PV.bool false, PV.bool false, PV.bool false, PV.bool false, PV.bool false, PV.bool false, PV.bool false, PV.bool false, PV.bool false, PV.bool
 false, PV.bool false, PV.bool false, PV.bool false, PV.bool false, PV.bool false, PV.bool false, PV.bool false, PV.bool false, PV.bool false, PV.bool false, PV.bool false, PV.bool false, PV.bool false, PV.bool false, PV.bool false, PV.bool
 false, PV.bool false, PV.bool false, PV.bool false, PV.bool false, PV.bool false, PV.bool false, PV.bool false, PV.bool false, PV.bool false, PV.bool false, PV.bool false, PV.bool false, PV.bool false, PV.bool false, PV.bool false, PV.bool
 false, PV.bool false, PV.bool false, PV.bool false, PV.bool false, PV.bool false, PV.bool false, PV.bool false, PV.bool false, PV.bool false, PV.bool false, PV.bool false, PV.bool false, PV.bool false, PV.bool false, PV.bool false, PV.bool
 false, PV.bool false, PV.bool false, PV.bool false, PV.bool false, PV.bool false, PV.bool false, PV.bool false, PV.bool false, PV.bool false, PV.bool false, PV.bool false, PV.bool false, PV.bool false, PV.bool false, PV.bool false, PV.bool
 false, PV.bool false, PV.bool false, PV.bool false, PV.bool false, PV.bool false, PV.bool false, PV.bool false, PV.bool false, PV.bool false, PV.bool false, PV.bool false, PV.bool false, PV.bool false, PV.bool false, PV.bool false, PV.bool
 false, PV.bool false, PV.bool false, PV.bool false, PV.bool false, PV.bool false, PV.bool false, PV.bool false, PV.bool false, PV.bool false, PV.bool false, PV.bool false, PV.bool false, PV.bool false, PV.bool false, PV.bool false, PV.bool
 false, PV.bool false, PV.bool false, PV.bool false, PV.bool false, PV.bool false, PV.bool false, PV.bool false, PV.bool false, PV.bool false, PV.bool false, PV.bool false, PV.bool false, PV.bool false, PV.bool false, PV.bool false, PV.bool
 false, PV.bool false, PV.bool false, PV.bool false, PV.bool false, PV.bool false, PV.bool false, PV.bool false, PV.bool false, PV.bool false, PV.bool false, PV.bool false, PV.bool false, PV.bool false, PV.bool false, PV.bool false, PV.bool
 false, PV.bool false, PV.bool false, PV.bool false, PV.bool false, PV.bool false, PV.bool false, PV.bool false, PV.bool false, PV.bool false, PV.bool false, PV.bool false, PV.bool false, PV.bool false, PV.bool false, PV.bool false, PV.bool
 false, PV.bool false, PV.bool false, PV.bool false, PV.bool false, PV.bool false, PV.bool false, PV.bool false, PV.bool false, PV.bool false, PV.bool false, PV.bool false, PV.bool false, PV.bool false, PV.bool false, PV.bool false, PV.bool
 false, PV.bool false, PV.bool false, PV.bool false, PV.bool false, PV.bool false, PV.bool false, PV.bool false, PV.bool false, PV.bool false, PV.bool false, PV.bool false, PV.bool false, PV.bool false, PV.bool false, PV.bool false, PV.bool
 false, PV.bool false, PV.bool false, PV.bool false, PV.bool false, PV.bool false, PV.bool false, PV.bool false, PV.bool false, PV.bool false, PV.bool false, PV.bool false, PV.bool false, PV.bool false, PV.bool false, PV.bool false, PV.bool
 false, PV.bool false, PV.bool false, PV.bool false, PV.bool false, PV.bool false, PV.bool false, PV.bool false, PV.bool false, PV.bool false, PV.bool false, PV.bool false, PV.bool false, PV.bool false, PV.bool false, PV.bool false, PV.bool
 false, PV.bool false, PV.bool false, PV.bool false, PV.bool false, PV.bool false, PV.bool false, PV.bool false, PV.bool false, PV.bool false, PV.bool false, PV.bool false, PV.bool false, PV.bool false, PV.bool false, PV.bool false, PV.bool
 false, PV.bool false, PV.bool false, PV.bool false, PV.bool false, PV.bool false, PV.bool false, PV.bool false, PV.bool false, PV.bool false, PV.bool false, PV.bool false, PV.bool false, PV.bool false, PV.bool false, PV.bool false, PV.bool
 false, PV.bool false, PV.bool false, PV.bool false, PV.bool false, PV.bool false, PV.bool false, PV.bool false, PV.bool false, PV.bool false, PV.bool false, PV.bool false, PV.bool false, PV.bool false, PV.bool false, PV.bool false, PV.bool
 false, PV.bool false, PV.bool false, PV.bool false, PV.bool false, PV.bool false, PV.bool false, PV.bool false, PV.bool false, PV.bool false, PV.bool false, PV.bool false, PV.bool false, PV.bool false, PV.bool false, PV.bool false, PV.bool
 false, PV.bool false, PV.bool false, PV.bool false, PV.bool false, PV.bool false, PV.bool false, PV.bool false, PV.bool false, PV.bool false, PV.bool false, PV.bool false, PV.bool false, PV.bool false, PV.bool false, PV.bool false, PV.bool
 false, PV.bool false, PV.bool false, PV.bool false, PV.bool false, PV.bool false, PV.bool false, PV.bool false, PV.bool false, PV.bool false, PV.bool false, PV.bool false, PV.bool false, PV.bool false, PV.bool false, PV.bool false, PV.bool
 false, PV.bool false, PV.bool false, PV.bool false, PV.bool false, PV.bool false, PV.bool false, PV.bool false, PV.bool false, PV.bool false, PV.bool false, PV.bool false, PV.bool false, PV.bool false, PV.bool false, PV.bool false, PV.bool
 false, PV.bool false, PV.bool false, PV.bool false, PV.bool false, PV.bool false, PV.bool false, PV.bool false, PV.bool false, PV.bool false, PV.bool false, PV.bool false, PV.bool false, PV.bool false, PV.bool false, PV.bool false, PV.bool
 false, PV.bool false, PV.bool false, PV.bool false, PV.bool false, PV.bool false, PV.bool false, PV.bool false, PV.bool false, PV.bool false, PV.bool false, PV.bool false, PV.bool false, PV.bool false, PV.bool false, PV.bool false, PV.bool
 false, PV.bool false, PV.bool false, PV.bool false, PV.bool false, PV.bool false, PV.bool false, PV.bool false, PV.bool false, PV.bool false, PV.bool false, PV.bool false, PV.bool false, PV.bool false, PV.bool false, PV.bool false, PV.bool
 false, PV.bool false, PV.bool false, PV.bool false, PV.bool false, PV.bool false, PV.bool false, PV.bool false, PV.bool false, PV.bool false, PV.bool false, PV.bool false, PV.bool false, PV.bool false, PV.bool false, PV.bool false, PV.bool
 false, PV.bool false, PV.bool false, PV.bool false, PV.bool false, PV.bool false, PV.bool false, PV.bool false, PV.bool false] n_4 s_4 n_5 s_5 m_6 m_7 n3 x111 (IntKind.i64.wrap (x88 + (1 : Int))) b8 b9 b10 b11 (spl c_4 (0 + x88.toNat * 4)
 [PV.bool b8, PV.bool b9, PV.bool b10, PV.bool b11]) n_51 s_51 n_6 s_6 m_71 m_8 ∧ μ3 n3 x111 (IntKind.i64.wrap (x88 + (1 : Int))) b8 b9 b10 b11 (spl c_4 (0 + x88.toNat * 4) [PV.bool b8, PV.bool b9, PV.bool b10, PV.bool b11]) n_51 s_51 n_6
 s_6 m_71 m_8 < μ3 x101 x111 x88 h3_01 h3_11 h3_21 h3_31 c_4 n_51 s_51 n_6 s_6 m_71 m_8 else ((0 : Int) ≤ x88 ∧ x88 < (↑128 : Int)) ∧ (4 = (4 : Nat) ∧ 0 + x88.toNat * 4 + 4 ≤ c_4.length) ∧ Same1 ([(0, LV.pv (PV.int .i64 sz)), ((2 : Nat),
 LV.pv (PV.sl n f es)), (4, LV.box 0 0), (7, LV.box 1 0), (8, LV.box 2 0), (9, LV.box 3 0), (10, LV.pv (PV.int .i64 x101)), (11, LV.pv (PV.int .i64 x111)), (14, LV.box 4 0), (88, LV.pv (PV.int .i64 (IntKind.i64.wrap (x88 + (1 : Int)))))],
 [Ob.box [LV.pv (PV.bool za), LV.pv (PV.bool zb), LV.pv (PV.bool zc), LV.pv (PV.bool zd)], Ob.box [LV.pv (PV.int .i64 sz), LV.own 5, LV.own 6], Ob.box [LV.box 1 0, LV.mp 7, LV.mp 8], Ob.box [LV.pv (PV.bool h3_01), LV.pv (PV.bool h3_11),
 LV.pv (PV.bool h3_21), LV.pv (PV.bool h3_31)], Ob.arr (spl c_4 (0 + x88.toNat * 4) [PV.bool h3_01, PV.bool h3_11, PV.bool h3_21, PV.bool h3_31]), Ob.sl (3, 1) true n_51 s_51, Ob.sl (156, 512) true n_6 s_6, Ob.mp m_71, Ob.mp m_8]) ∧ J3 n2
 x11 (0 : Int) b4 b5 b6 b7 [PV.bool false, PV.bool false, PV.bool false, PV.bool false, PV.bool false, PV.bool false, PV.bool false, PV.bool false, PV.bool false, PV.bool false, PV.bool false, PV.bool false, PV.bool false, PV.bool false,
 PV.bool false, PV.bool false, PV.bool false, PV.bool false, PV.bool false, PV.bool false, PV.bool false, PV.bool false, PV.bool false, PV.bool false, PV.bool false, PV.bool false, PV.bool false, PV.bool false, PV.bool false, PV.bool false,
 PV.bool false, PV.bool false, PV.bool false, PV.bool false, PV.bool false, PV.bool false, PV.bool false, PV.bool false, PV.bool false, PV.bool false, PV.bool false, PV.bool false, PV.bool false, PV.bool false, PV.bool false, PV.bool false,
 PV.bool false, PV.bool false, PV.bool false, PV.bool false, PV.bool false, PV.bool false, PV.bool false, PV.bool false, PV.bool false, PV.bool false, PV.bool false, PV.bool false, PV.bool false, PV.bool false, PV.bool false, PV.bool false,
 PV.bool false, PV.bool false, PV.bool false, PV.bool false, PV.bool false, PV.bool false, PV.bool false, PV.bool false, PV.bool false, PV.bool false, PV.bool false, PV.bool false, PV.bool false, PV.bool false, PV.bool false, PV.bool false,
 PV.bool false, PV.bool false, PV.bool false, PV.bool false, PV.bool false, PV.bool false, PV.bool false, PV.bool false, PV.bool false, PV.bool false, PV.bool false, PV.bool false, PV.bool false, PV.bool false, PV.bool false, PV.bool false,
 PV.bool false, PV.bool false, PV.bool false, PV.bool false, PV.bool false, PV.bool false, PV.bool false, PV.bool false, PV.bool false, PV.bool false, PV.bool false, PV.bool false, PV.bool false, PV.bool false, PV.bool false, PV.bool false,
 PV.bool false, PV.bool false, PV.bool false, PV.bool false, PV.bool false, PV.bool false, PV.bool false, PV.bool false, PV.bool false, PV.bool false, PV.bool false, PV.bool false, PV.bool false, PV.bool false, PV.bool false, PV.bool false,
 PV.bool false, PV.bool false, PV.bool false, PV.bool false, PV.bool false, PV.bool false, PV.bool false, PV.bool false, PV.bool false, PV.bool false, PV.bool false, PV.bool false, PV.bool false, PV.bool false, PV.bool false, PV.bool false,
 PV.bool false, PV.bool false, PV.bool false, PV.bool false, PV.bool false, PV.bool false, PV.bool false, PV.bool false, PV.bool false, PV.bool false, PV.bool false, PV.bool false, PV.bool false, PV.bool false, PV.bool false, PV.bool false,
 PV.bool false, PV.bool false, PV.bool false, PV.bool false, PV.bool false, PV.bool false, PV.bool false, PV.bool false, PV.bool false, PV.bool false, PV.bool false, PV.bool false, PV.bool false, PV.bool false, PV.bool false, PV.bool false,
 PV.bool false, PV.bool false, PV.bool false, PV.bool false, PV.bool false, PV.bool false, PV.bool false, PV.bool false, PV.bool false, PV.bool false, PV.bool false, PV.bool false, PV.bool false, PV.bool false, PV.bool false, PV.bool false,
 PV.bool false, PV.bool false, PV.bool false, PV.bool false, PV.bool false, PV.bool false, PV.bool false, PV.bool false, PV.bool false, PV.bool false, PV.bool false, PV.bool false, PV.bool false, PV.bool false, PV.bool false, PV.bool false,
 PV.bool false, PV.bool false, PV.bool false, PV.bool false, PV.bool false, PV.bool false, PV.bool false, PV.bool false, PV.bool false, PV.bool false, PV.bool false, PV.bool false, PV.bool false, PV.bool false, PV.bool false, PV.bool false,
 PV.bool false, PV.bool false, PV.bool false, PV.bool false, PV.bool false, PV.bool false, PV.bool false, PV.bool false, PV.bool false, PV.bool false, PV.bool false, PV.bool false, PV.bool false, PV.bool false, PV.bool false, PV.bool false,
 PV.bool false, PV.bool false, PV.bool false, PV.bool false, PV.bool false, PV.bool false, PV.bool false, PV.bool false, PV.bool false, PV.bool false, PV.bool false, PV.bool false, PV.bool false, PV.bool false, PV.bool false, PV.bool false,
 PV.bool false, PV.bool false, PV.bool false, PV.bool false, PV.bool false, PV.bool false, PV.bool false, PV.bool false, PV.bool false, PV.bool false, PV.bool false, PV.bool false, PV.bool false, PV.bool false, PV.bool false, PV.bool false,
 PV.bool false, PV.bool false, PV.bool false, PV.bool false, PV.bool false, PV.bool false, PV.bool false, PV.bool false, PV.bool false, PV.bool false, PV.bool false, PV.bool false, PV.bool false, PV.bool false, PV.bool false, PV.bool false,
 PV.bool false, PV.bool false, PV.bool false, PV.bool false, PV.bool false, PV.bool false, PV.bool false, PV.bool false, PV.bool false, PV.bool false, PV.bool false, PV.bool false, PV.bool false, PV.bool false, PV.bool false, PV.bool false,
 PV.bool false, PV.bool false, PV.bool false, PV.bool false, PV.bool false, PV.bool false, PV.bool false, PV.bool false, PV.bool false, PV.bool false, PV.bool false, PV.bool false, PV.bool false, PV.bool false, PV.bool false, PV.bool false,
 PV.bool false, PV.bool false, PV.bool false, PV.bool false, PV.bool false, PV.bool false, PV.bool false, PV.bool false, PV.bool false, PV.bool false, PV.bool false, PV.bool false, PV.bool false, PV.bool false, PV.bool false, PV.bool false,
 PV.bool false, PV.bool false, PV.bool false, PV.bool false, PV.bool false, PV.bool false, PV.bool false, PV.bool false, PV.bool false, PV.bool false, PV.bool false, PV.bool false, PV.bool false, PV.bool false, PV.bool false, PV.bool false,
 PV.bool false, PV.bool false, PV.bool false, PV.bool false, PV.bool false, PV.bool false, PV.bool false, PV.bool false, PV.bool false, PV.bool false, PV.bool false, PV.bool false, PV.bool false, PV.bool false, PV.bool false, PV.bool false,
 PV.bool false, PV.bool false, PV.bool false, PV.bool false, PV.bool false, PV.bool false, PV.bool false, PV.bool false, PV.bool false, PV.bool false, PV.bool false, PV.bool false, PV.bool false, PV.bool false, PV.bool false, PV.bool false,
 PV.bool false, PV.bool false, PV.bool false, PV.bool false, PV.bool false, PV.bool false, PV.bool false, PV.bool false, PV.bool false, PV.bool false, PV.bool false, PV.bool false, PV.bool false, PV.bool false, PV.bool false, PV.bool false,
 PV.bool false, PV.bool false, PV.bool false, PV.bool false, PV.bool false, PV.bool false, PV.bool false, PV.bool false, PV.bool false, PV.bool false, PV.bool false, PV.bool false, PV.bool false, PV.bool false, PV.bool false, PV.bool false,
 PV.bool false, PV.bool false, PV.bool false, PV.bool false, PV.bool false, PV.bool false, PV.bool false, PV.bool false, PV.bool false, PV.bool false, PV.bool false, PV.bool false, PV.bool false, PV.bool false, PV.bool false, PV.bool false,
 PV.bool false, PV.bool false, PV.bool false, PV.bool false, PV.bool false, PV.bool false, PV.bool false, PV.bool false, PV.bool false, PV.bool false, PV.bool false, PV.bool false, PV.bool false, PV.bool false, PV.bool false, PV.bool false,
 PV.bool false, PV.bool false, PV.bool false, PV.bool false, PV.bool false, PV.bool false, PV.bool false, PV.bool false, PV.bool false, PV.bool false, PV.bool false, PV.bool false, PV.bool false, PV.bool false, PV.bool false, PV.bool false,
 PV.bool false, PV.bool false, PV.bool false, PV.bool false, PV.bool false, PV.bool false, PV.bool false, PV.bool false, PV.bool false, PV.bool false, PV.bool false, PV.bool false, PV.bool false, PV.bool false, PV.bool false, PV.bool false,
 PV.bool false, PV.bool false, PV.bool false, PV.bool false, PV.bool false, PV.bool false, PV.bool false, PV.bool false, PV.bool false, PV.bool false, PV.bool false, PV.bool false, PV.bool false, PV.bool false, PV.bool false, PV.bool false,
 PV.bool false, PV.bool false, PV.bool false, PV.bool false, PV.bool false, PV.bool false, PV.bool false, PV.bool false, PV.bool false, PV.bool false, PV.bool false, PV.bool false, PV.bool false, PV.bool false, PV.bool false, PV.bool false,
 PV.bool false, PV.bool false] n_4 s_4 n_5 s_5 m_6 m_7 x101 x111 (IntKind.i64.wrap (x88 + (1 : Int))) h3_01 h3_11 h3_21 h3_31 (spl c_4 (0 + x88.toNat * 4) [PV.bool h3_01, PV.bool h3_11, PV.bool h3_21, PV.bool h3_31]) n_51 s_51 n_6 s_6 m_71
 m_8 ∧ μ3 x101 x111 (IntKind.i64.wrap (x88 + (1 : Int))) h3_01 h3_11 h3_21 h3_31 (spl c_4 (0 + x88.toNat * 4) [PV.bool h3_01, PV.bool h3_11, PV.bool h3_21, PV.bool h3_31]) n_51 s_51 n_6 s_6 m_71 m_8 < μ3 x101 x111 x88 h3_01 h3_11 h3_21 h3_31
 c_4 n_51 s_51 n_6 s_6 m_71 m_8 else 512 ≤ (List.drop 0 c_4).length ∧ (ACall Try.prog 98 [LV.box 0 0, LV.pv (PV.agg (List.take 512 (List.drop 0 c_4)))] [Ob.box [LV.box 1 0, LV.mp 2, LV.mp 3], Ob.box [LV.pv (PV.int .i64 sz), LV.own 4, LV.own
 5], Ob.mp m_71, Ob.mp m_8, Ob.sl (3, 1) false n_51 s_51, Ob.sl (156, 512) false n_6 s_6] fun (r : LV) (h' : Hp) ↦ ∃ (t : Int × List (PV × PV) × Bool × List (List PV)), (r = LV.pv (PV.int .i64 t.1) ∧ h' = [Ob.box [LV.box 1 0, LV.mp 2, LV.mp
 3], Ob.box [LV.pv (PV.int .i64 sz), LV.own 4, LV.own 5], Ob.mp t.snd.fst, Ob.mp m_8, Ob.sl (3, 1) false n_51 s_51, Ob.sl (156, 512) true t.snd.snd.fst t.snd.snd.snd]) ∧ (True ∧ ((3, 1) = (3, 1) ∧ n_51 = n_51 ∧ s_51.length = s_51.length) ∧
 True ∧ True ∧ True ∧ True ∧ True) ∧ (szOK [[PV.int .i64 t.1]] 1 ∧ (s_51.length + 1) * 8 ≤ 140737488355328) ∧ Same1 ([(0, LV.pv (PV.int .i64 sz)), (2, LV.pv (PV.sl n f es)), (4, LV.box 0 0), (7, LV.box 1 0), (8, LV.box 2 0), (9, LV.box 3 0),
 (10, LV.pv (PV.int .i64 x101)), (11, LV.pv (PV.int .i64 (IntKind.i64.wrap (x111 + (128 : Int)))))], [Ob.box [LV.pv (PV.bool za), LV.pv (PV.bool zb), LV.pv (PV.bool zc), LV.pv (PV.bool zd)], Ob.box [LV.pv (PV.int .i64 sz), LV.own 4, LV.own
 5], Ob.box [LV.box 1 0, LV.mp 6, LV.mp 7], Ob.box [LV.pv (PV.bool h3_01), LV.pv (PV.bool h3_11), LV.pv (PV.bool h3_21), LV.pv (PV.bool h3_31)], Ob.sl (3, 1) true (n_51 && false) (s_51 ++ [[PV.int .i64 t.1]]), Ob.sl (156, 512) true
 t.snd.snd.fst t.snd.snd.snd, Ob.mp t.snd.fst, Ob.mp m_8]) ∧ J x101 (IntKind.i64.wrap (x111 + (128 : Int))) h3_01 h3_11 h3_21 h3_31 (n_51 && false) (s_51 ++ [[PV.int .i64 t.1]]) t.snd.snd.fst t.snd.snd.snd t.snd.fst m_8 ∧ μ x101
 (IntKind.i64.wrap (x111 + (128 : Int))) h3_01 h3_11 h3_21 h3_31 (n_51 && false) (s_51 ++ [[PV.int .i64 t.1]]) t.snd.snd.fst t.snd.snd.snd t.snd.fst m_8 < μ x10 x11 h3_0 h3_1 h3_2 h3_3 n_4 s_4 n_5 s_5 m_6 m_7) ∧ ACall Try.prog 98 [LV.box 0
 0, LV.pv (PV.agg (List.take 512 (List.drop 0 c_4)))] [Ob.box [LV.box 1 0, LV.mp 2, LV.mp 3], Ob.box [LV.pv (PV.int .i64 sz), LV.own 4, LV.own 5], Ob.mp m_71, Ob.mp m_8, Ob.sl (3, 1) false n_51 s_51, Ob.sl (156, 512) false n_6 s_6] fun (r :
 LV) (h' : Hp) ↦ ∃ (t : Int × List (PV × PV) × Bool × List (List PV)), (r = LV.pv (PV.int .i64 t.1) ∧ h' = [Ob.box [LV.box 1 0, LV.mp 2, LV.mp 3], Ob.box [LV.pv (PV.int .i64 sz), LV.own 4, LV.own 5], Ob.mp t.snd.fst, Ob.mp m_8, Ob.sl (3, 1)
 false n_51 s_51, Ob.sl (156, 512) true t.snd.snd.fst t.snd.snd.snd]) ∧ (True ∧ ((3, 1) = (3, 1) ∧ n_51 = n_51 ∧ s_51.length = s_51.length) ∧ True ∧ True ∧ True ∧ True ∧ True) ∧ (szOK [[PV.int .i64 t.1]] 1 ∧ (s_51.length + 1) * 8 ≤
 140737488355328) ∧ Same1 ([(0, LV.pv (PV.int .i64 sz)), (2, LV.pv (PV.sl n f es)), (4, LV.box 0 0), (7, LV.box 1 0), (8, LV.box 2 0), (9, LV.box 3 0), (10, LV.pv (PV.int .i64 x101)), (11, LV.pv (PV.int .i64 (IntKind.i64.wrap (x111 + (128 :
 Int)))))], [Ob.box [LV.pv (PV.bool za), LV.pv (PV.bool zb), LV.pv (PV.bool zc), LV.pv (PV.bool zd)], Ob.box [LV.pv (PV.int .i64 sz), LV.own 4, LV.own 5], Ob.box [LV.box 1 0, LV.mp 6, LV.mp 7], Ob.box [LV.pv (PV.bool h3_01), LV.pv (PV.bool
 h3_11), LV.pv (PV.bool h3_21), LV.pv (PV.bool h3_31)], Ob.sl (3, 1) true (n_51 && false) (s_51 ++ [[PV.int .i64 t.1]]), Ob.sl (156, 512) true t.snd.snd.fst t.snd.snd.snd, Ob.mp t.snd.fst, Ob.mp m_8]) ∧ J x101 (IntKind.i64.wrap (x111 + (128
 : Int))) h3_01 h3_11 h3_21 h3_31 (n_51 && false) (s_51 ++ [[PV.int .i64 t.1]]) t.snd.snd.fst t.snd.snd.snd t.snd.fst m_8 ∧ μ x101 (IntKind.i64.wrap (x111 + (128 : Int))) h3_01 h3_11 h3_21 h3_31 (n_51 && false) (s_51 ++ [[PV.int .i64 t.1]])
 t.snd.snd.fst t.snd.snd.snd t.snd.fst m_8 < μ x10 x11 h3_0 h3_1 h3_2 h3_3 n_4 s_4 n_5 s_5 m_6 m_7 else if decide (x10 ≥ IntKind.i64.wrap ((if sz < IntKind.i64.wrap (x11 + (128 : Int)) then sz else IntKind.i64.wrap (x11 + (128 : Int))) - (1
 : Int))) = true then ACall Try.prog 97 [LV.box 0 0, LV.pv (PV.agg [PV.bool h3_0, PV.bool h3_1, PV.bool h3_2, PV.bool h3_3])] [Ob.box [LV.box 1 0, LV.mp 2, LV.mp 3], Ob.box [LV.pv (PV.int .i64 sz), LV.own 4, LV.own 5], Ob.mp m_6, Ob.mp m_7,
 Ob.sl (3, 1) false n_4 s_4, Ob.sl (156, 512) false n_5 s_5] fun (r : LV) (h' : Hp) ↦ ∃ (t : Int × List (PV × PV) × List (PV × PV) × Bool × List (List PV)), (r = LV.pv (PV.int .i64 t.1) ∧ h' = [Ob.box [LV.box 1 0, LV.mp 2, LV.mp 3], Ob.box
 [LV.pv (PV.int .i64 sz), LV.own 4, LV.own 5], Ob.mp t.snd.fst, Ob.mp t.snd.snd.fst, Ob.sl (3, 1) false n_4 s_4, Ob.sl (156, 512) true t.snd.snd.snd.fst t.snd.snd.snd.snd]) ∧ (True ∧ ((3, 1) = (3, 1) ∧ n_4 = n_4 ∧ s_4.length = s_4.length) ∧
 True ∧ True ∧ True ∧ True ∧ True) ∧ (Same1 ([(0, LV.pv (PV.int .i64 sz)), (2, LV.pv (PV.sl n f es)), (4, LV.box 0 0), (7, LV.box 1 0), ((8 : Nat), LV.box 2 0), (9, LV.box 3 0), (10, LV.pv (PV.int .i64 x10)), (11, LV.pv (PV.int .i64 x11)),
 (13, LV.pv (PV.int .i64 t.1))], [Ob.box [LV.pv (PV.bool za), LV.pv (PV.bool zb), LV.pv (PV.bool zc), LV.pv (PV.bool zd)], Ob.box [LV.pv (PV.int .i64 sz), LV.own 4, LV.own 5], Ob.box [LV.box 1 0, LV.mp 6, LV.mp 7], Ob.box [LV.pv (PV.bool
 h3_0), LV.pv (PV.bool h3_1), LV.pv (PV.bool h3_2), LV.pv (PV.bool h3_3)], Ob.sl (3, 1) true n_4 s_4, Ob.sl (156, 512) true t.snd.snd.snd.fst t.snd.snd.snd.snd, Ob.mp t.snd.fst, Ob.mp t.snd.snd.fst]) ∧ J2 x10 x11 t.1 h3_0 h3_1 h3_2 h3_3 n_4
 s_4 t.snd.snd.snd.fst t.snd.snd.snd.snd t.snd.fst t.snd.snd.fst x10 x11 t.1 h3_0 h3_1 h3_2 h3_3 n_4 s_4 t.snd.snd.snd.fst t.snd.snd.snd.snd t.snd.fst t.snd.snd.fst) ∧ ∀ (x101 x111 x13 : Int) (h3_01 h3_11 h3_21 h3_31 n_41 : Bool) (s_41 :
 List (List PV)) (n_51 : Bool) (s_51 : List (List PV)) (m_61 m_71 : List (PV × PV)), J2 x10 x11 t.1 h3_0 h3_1 h3_2 h3_3 n_4 s_4 t.snd.snd.snd.fst t.snd.snd.snd.snd t.snd.fst t.snd.snd.fst x101 x111 x13 h3_01 h3_11 h3_21 h3_31 n_41 s_41 n_51
 s_51 m_61 m_71 → if (decide (x111 < sz) && decide (x101 ≥ IntKind.i64.wrap ((if sz < IntKind.i64.wrap (x111 + (128 : Int)) then sz else IntKind.i64.wrap (x111 + (128 : Int))) - (1 : Int)))) = true then (szOK [[PV.int .i64 x13]] 1 ∧
 (s_41.length + 1) * 8 ≤ 140737488355328) ∧ Same1 ([(0, LV.pv (PV.int .i64 sz)), (2, LV.pv (PV.sl n f es)), (4, LV.box 0 0), (7, LV.box 1 0), (8, LV.box 2 0), (9, LV.box 3 0), (10, LV.pv (PV.int .i64 x101)), (11, LV.pv (PV.int .i64
 (IntKind.i64.wrap (x111 + (128 : Int))))), (13, LV.pv (PV.int .i64 x13))], [Ob.box [LV.pv (PV.bool za), LV.pv (PV.bool zb), LV.pv (PV.bool zc), LV.pv (PV.bool zd)], Ob.box [LV.pv (PV.int .i64 sz), LV.own 4, LV.own 5], Ob.box [LV.box 1 0,
 LV.mp 6, LV.mp 7], Ob.box [LV.pv (PV.bool h3_01), LV.pv (PV.bool h3_11), LV.pv (PV.bool h3_21), LV.pv (PV.bool h3_31)], Ob.sl (3, 1) true (n_41 && false) (s_41 ++ [[PV.int .i64 x13]]), Ob.sl (156, 512) true n_51 s_51, Ob.mp m_61, Ob.mp
 m_71]) ∧ J2 x10 x11 t.1 h3_0 h3_1 h3_2 h3_3 n_4 s_4 t.snd.snd.snd.fst t.snd.snd.snd.snd t.snd.fst t.snd.snd.fst x101 (IntKind.i64.wrap (x111 + (128 : Int))) x13 h3_01 h3_11 h3_21 h3_31 (n_41 && false) (s_41 ++ [[PV.int .i64 x13]]) n_51 s_51
 m_61 m_71 ∧ μ2 x101 (IntKind.i64.wrap (x111 + (128 : Int))) x13 h3_01 h3_11 h3_21 h3_31 (n_41 && false) (s_41 ++ [[PV.int .i64 x13]]) n_51 s_51 m_61 m_71 < μ2 x101 x111 x13 h3_01 h3_11 h3_21 h3_31 n_41 s_41 n_51 s_51 m_61 m_71 else Same1
 ([(0, LV.pv (PV.int .i64 sz)), (2, LV.pv (PV.sl n f es)), (4, LV.box 0 0), (7, LV.box 1 0), (8, LV.box 2 0), (9, LV.box 3 0), (10, LV.pv (PV.int .i64 x101)), (11, LV.pv (PV.int .i64 (IntKind.i64.wrap (IntKind.i64.wrap (x111 - (128 : Int)) +
 (128 : Int)))))], [Ob.box [LV.pv (PV.bool za), LV.pv (PV.bool zb), LV.pv (PV.bool zc), LV.pv (PV.bool zd)], Ob.box [LV.pv (PV.int .i64 sz), LV.own 4, LV.own 5], Ob.box [LV.box 1 0, LV.mp 6, LV.mp 7], Ob.box [LV.pv (PV.bool h3_01), LV.pv
 (PV.bool h3_11), LV.pv (PV.bool h3_21), LV.pv (PV.bool h3_31)], Ob.sl (3, 1) true n_41 s_41, Ob.sl (156, 512) true n_51 s_51, Ob.mp m_61, Ob.mp m_71]) ∧ J x101 (IntKind.i64.wrap (IntKind.i64.wrap (x111 - (128 : Int)) + (128 : Int))) h3_01
 h3_11 h3_21 h3_31 n_41 s_41 n_51 s_51 m_61 m_71 ∧ μ x101 (IntKind.i64.wrap (IntKind.i64.wrap (x111 - (128 : Int)) + (128 : Int))) h3_01 h3_11 h3_21 h3_31 n_41 s_41 n_51 s_51 m_61 m_71 < μ x10 x11 h3_0 h3_1 h3_2 h3_3 n_4 s_4 n_5 s_5 m_6 m_7
 else (Same1 ([(0, LV.pv (PV.int .i64 sz)), (2, LV.pv (PV.sl n f es)), ((4 : Nat), LV.box 0 0), (7, LV.box 1 0), (8, LV.box 2 0), (9, LV.box 3 0), (10, LV.pv (PV.int .i64 x10)), (11, LV.pv (PV.int .i64 x11)), (14, LV.box 4 0), (88, LV.pv
 (PV.int .i64 (0 : Int)))], [Ob.box [LV.pv (PV.bool za), LV.pv (PV.bool zb), LV.pv (PV.bool zc), LV.pv (PV.bool zd)], Ob.box [LV.pv (PV.int .i64 sz), LV.own 5, LV.own 6], Ob.box [LV.box 1 0, LV.mp 7, LV.mp 8], Ob.box [LV.pv (PV.bool h3_0),
 LV.pv (PV.bool h3_1), LV.pv (PV.bool h3_2), LV.pv (PV.bool h3_3)], Ob.arr (List.replicate 512 (PV.bool false)), Ob.sl (3, 1) true n_4 s_4, Ob.sl (156, 512) true n_5 s_5, Ob.mp m_6, Ob.mp m_7]) ∧ J3 x10 x11 (0 : Int) h3_0 h3_1 h3_2 h3_3
 (List.replicate 512 (PV.bool false)) n_4 s_4 n_5 s_5 m_6 m_7 x10 x11 (0 : Int) h3_0 h3_1 h3_2 h3_3 (List.replicate 512 (PV.bool false)) n_4 s_4 n_5 s_5 m_6 m_7) ∧ ∀ (x101 x111 x88 : Int) (h3_01 h3_11 h3_21 h3_31 : Bool) (c_4 : List PV)
 (n_51 : Bool) (s_51 : List (List PV)) (n_6 : Bool) (s_6 : List (List PV)) (m_71 m_8 : List (PV × PV)), J3 x10 x11 (0 : Int) h3_0 h3_1 h3_2 h3_3 (List.replicate 512 (PV.bool false)) n_4 s_4 n_5 s_5 m_6 m_7 x101 x111 x88 h3_01 h3_11 h3_21
 h3_31 c_4 n_51 s_51 n_6 s_6 m_71 m_8 → if decide (x88 < (128 : Int)) = true then if (decide (IntKind.i64.wrap (x111 + x88) > x101) && decide (IntKind.i64.wrap (x111 + x88) < sz)) = true then PCall Try.prog 96 [PV.sl n f es, PV.agg [PV.bool
 za, PV.bool zb, PV.bool zc, PV.bool zd], PV.int .i64 (IntKind.i64.wrap (x111 + x88)), PV.int .i64 (IntKind.i64.wrap (sz - (1 : Int)))] fun (v1 : PV) ↦ ∃ (vs1 : List PV), v1 = PV.tup vs1 ∧ vs1.length = 2 ∧ ∃ (x2 : PV), vs1.head? = some x2 ∧
 ∃ (cs1 : List PV), x2 = PV.agg cs1 ∧ cs1.length = 4 ∧ ∃ (b4 : Bool), cs1.head? = some (PV.bool b4) ∧ ∃ (b5 : Bool), cs1.tail.head? = some (PV.bool b5) ∧ ∃ (b6 : Bool), cs1.tail.tail.head? = some (PV.bool b6) ∧ ∃ (b7 : Bool),
 cs1.tail.tail.tail.head? = some (PV.bool b7) ∧ ∃ (x3 : PV), vs1.tail.head? = some x3 ∧ ∃ (n2 : Int), x3 = PV.int .i64 n2 ∧ ((0 : Int) ≤ x88 ∧ x88 < (↑128 : Int)) ∧ (4 = (4 : Nat) ∧ 0 + x88.toNat * 4 + 4 ≤ c_4.length) ∧ Same1 ([(0, LV.pv
 (PV.int .i64 sz)), (2, LV.pv (PV.sl n f es)), (4, LV.box 0 0), (7, LV.box 1 0), (8, LV.box 2 0), (9, LV.box 3 0), (10, LV.pv (PV.int .i64 n2)), (11, LV.pv (PV.int .i64 x111)), (14, LV.box 4 0), ((88 : Nat), LV.pv (PV.int .i64
 (IntKind.i64.wrap (x88 + (1 : Int)))))], [Ob.box [LV.pv (PV.bool za), LV.pv (PV.bool zb), LV.pv (PV.bool zc), LV.pv (PV.bool zd)], Ob.box [LV.pv (PV.int .i64 sz), LV.own 5, LV.own 6], Ob.box [LV.box 1 0, LV.mp 7, LV.mp 8], Ob.box [LV.pv
 (PV.bool b4), LV.pv (PV.bool b5), LV.pv (PV.bool b6), LV.pv (PV.bool b7)], Ob.arr (spl c_4 (0 + x88.toNat * 4) [PV.bool b4, PV.bool b5, PV.bool b6, PV.bool b7]), Ob.sl (3, 1) true n_51 s_51, Ob.sl (156, 512) true n_6 s_6, Ob.mp m_71, Ob.mp
 m_8]) ∧ J3 x10 x11 (0 : Int) h3_0 h3_1 h3_2 h3_3 [PV.bool false, PV.bool false, PV.bool false, PV.bool false, PV.bool false, PV.bool false, PV.bool false, PV.bool false, PV.bool false, PV.bool false, PV.bool false, PV.bool false, PV.bool
 false, PV.bool false, PV.bool false, PV.bool false, PV.bool false, PV.bool false, PV.bool false, PV.bool false, PV.bool false, PV.bool false, PV.bool false, PV.bool false, PV.bool false, PV.bool false, PV.bool false, PV.bool false, PV.bool
 false, PV.bool false, PV.bool false, PV.bool false, PV.bool false, PV.bool false, PV.bool false, PV.bool false, PV.bool false, PV.bool false, PV.bool false, PV.bool false, PV.bool false, PV.bool false, PV.bool false, PV.bool false, PV.bool
 false, PV.bool false, PV.bool false, PV.bool false, PV.bool false, PV.bool false, PV.bool false, PV.bool false, PV.bool false, PV.bool false, PV.bool false, PV.bool false, PV.bool false, PV.bool false, PV.bool false, PV.bool false, PV.bool
 false, PV.bool false, PV.bool false, PV.bool false, PV.bool false, PV.bool false, PV.bool false, PV.bool false, PV.bool false, PV.bool false, PV.bool false, PV.bool false, PV.bool false, PV.bool false, PV.bool false, PV.bool false, PV.bool
 false, PV.bool false, PV.bool false, PV.bool false, PV.bool false, PV.bool false, PV.bool false, PV.bool false, PV.bool false, PV.bool false, PV.bool false, PV.bool false, PV.bool false, PV.bool false, PV.bool false, PV.bool false, PV.bool
 false, PV.bool false, PV.bool false, PV.bool false, PV.bool false, PV.bool false, PV.bool false, PV.bool false, PV.bool false, PV.bool false, PV.bool false, PV.bool false, PV.bool false, PV.bool false, PV.bool false, PV.bool false, PV.bool
 false, PV.bool false, PV.bool false, PV.bool false, PV.bool false, PV.bool false, PV.bool false, PV.bool false, PV.bool false, PV.bool false, PV.bool false, PV.bool false, PV.bool false, PV.bool false, PV.bool false, PV.bool false, PV.bool
 false, PV.bool false, PV.bool false, PV.bool false, PV.bool false, PV.bool false, PV.bool false, PV.bool false, PV.bool false, PV.bool false, PV.bool false, PV.bool false, PV.bool false, PV.bool false, PV.bool false, PV.bool false, PV.bool
 false, PV.bool false, PV.bool false, PV.bool false, PV.bool false, PV.bool false, PV.bool false, PV.bool false, PV.bool false, PV.bool false, PV.bool false, PV.bool false, PV.bool false, PV.bool false, PV.bool false, PV.bool false, PV.bool
 false, PV.bool false, PV.bool false, PV.bool false, PV.bool false, PV.bool false, PV.bool false, PV.bool false, PV.bool false, PV.bool false, PV.bool false, PV.bool false, PV.bool false, PV.bool false, PV.bool false, PV.bool false, PV.bool
 false, PV.bool false, PV.bool false, PV.bool false, PV.bool false, PV.bool false, PV.bool false, PV.bool false, PV.bool false, PV.bool false, PV.bool false, PV.bool false, PV.bool false, PV.bool false, PV.bool false, PV.bool false, PV.bool
 false, PV.bool false, PV.bool false, PV.bool false, PV.bool false, PV.bool false, PV.bool false, PV.bool false, PV.bool false, PV.bool false, PV.bool false, PV.bool false, PV.bool false, PV.bool false, PV.bool false, PV.bool false, PV.bool
 false, PV.bool false, PV.bool false, PV.bool false, PV.bool false, PV.bool false, PV.bool false, PV.bool false, PV.bool false, PV.bool false, PV.bool false, PV.bool false, PV.bool false, PV.bool false, PV.bool false, PV.bool false, PV.bool
 false, PV.bool false, PV.bool false, PV.bool false, PV.bool false, PV.bool false, PV.bool false, PV.bool false, PV.bool false, PV.bool false, PV.bool false, PV.bool false, PV.bool false, PV.bool false, PV.bool false, PV.bool false, PV.bool
 false, PV.bool false, PV.bool false, PV.bool false, PV.bool false, PV.bool false, PV.bool false, PV.bool false, PV.bool false, PV.bool false, PV.bool false, PV.bool false, PV.bool false, PV.bool false, PV.bool false, PV.bool false, PV.bool
 false, PV.bool false, PV.bool false, PV.bool false, PV.bool false, PV.bool false, PV.bool false, PV.bool false, PV.bool false, PV.bool false, PV.bool false, PV.bool false, PV.bool false, PV.bool false, PV.bool false, PV.bool false, PV.bool
 false, PV.bool false, PV.bool false, PV.bool false, PV.bool false, PV.bool false, PV.bool false, PV.bool false, PV.bool false, PV.bool false, PV.bool false, PV.bool false, PV.bool false, PV.bool false, PV.bool false, PV.bool false, PV.bool
 false, PV.bool false, PV.bool false, PV.bool false, PV.bool false, PV.bool false, PV.bool false, PV.bool false, PV.bool false, PV.bool false, PV.bool false, PV.bool false, PV.bool false, PV.bool false, PV.bool false, PV.bool false, PV.bool
 false, PV.bool false, PV.bool false, PV.bool false, PV.bool false, PV.bool false, PV.bool false, PV.bool false, PV.bool false, PV.bool false, PV.bool false, PV.bool false, PV.bool false, PV.bool false, PV.bool false, PV.bool false, PV.bool
 false, PV.bool false, PV.bool false, PV.bool false, PV.bool false, PV.bool false, PV.bool false, PV.bool false, PV.bool false, PV.bool false, PV.bool false, PV.bool false, PV.bool false, PV.bool false, PV.bool false, PV.bool false, PV.bool
 false, PV.bool false, PV.bool false, PV.bool false, PV.bool false, PV.bool false, PV.bool false, PV.bool false, PV.bool false, PV.bool false, PV.bool false, PV.bool false, PV.bool false, PV.bool false, PV.bool false, PV.bool false, PV.bool
 false, PV.bool false, PV.bool false, PV.bool false, PV.bool false, PV.bool false, PV.bool false, PV.bool false, PV.bool false, PV.bool false, PV.bool false, PV.bool false, PV.bool false, PV.bool false, PV.bool false, PV.bool false, PV.bool
 false, PV.bool false, PV.bool false, PV.bool false, PV.bool false, PV.bool false, PV.bool false, PV.bool false, PV.bool false, PV.bool false, PV.bool false, PV.bool false, PV.bool false, PV.bool false, PV.bool false, PV.bool false, PV.bool
 false, PV.bool false, PV.bool false, PV.bool false, PV.bool false, PV.bool false, PV.bool false, PV.bool false, PV.bool false, PV.bool false, PV.bool false, PV.bool false, PV.bool false, PV.bool false, PV.bool false, PV.bool false, PV.bool
 false, PV.bool false, PV.bool false, PV.bool false, PV.bool false, PV.bool false, PV.bool false, PV.bool false, PV.bool false, PV.bool false, PV.bool false, PV.bool false, PV.bool false, PV.bool false, PV.bool false, PV.bool false, PV.bool
 false, PV.bool false, PV.bool false, PV.bool false, PV.bool false, PV.bool false, PV.bool false, PV.bool false, PV.bool false, PV.bool false, PV.bool false, PV.bool false, PV.bool false, PV.bool false, PV.bool false, PV.bool false, PV.bool
 false, PV.bool false, PV.bool false, PV.bool false, PV.bool false, PV.bool false, PV.bool false, PV.bool false, PV.bool false, PV.bool false, PV.bool false, PV.bool false, PV.bool false, PV.bool false, PV.bool false, PV.bool false, PV.bool
 false, PV.bool false, PV.bool false, PV.bool false, PV.bool false, PV.bool false, PV.bool false, PV.bool false, PV.bool false, PV.bool false, PV.bool false, PV.bool false, PV.bool false, PV.bool false, PV.bool false, PV.bool false, PV.bool
 false, PV.bool false, PV.bool false, PV.bool false, PV.bool false, PV.bool false, PV.bool false, PV.bool false, PV.bool false, PV.bool false, PV.bool false, PV.bool false, PV.bool false, PV.bool false, PV.bool false, PV.bool false, PV.bool
 false, PV.bool false, PV.bool false, PV.bool false, PV.bool false, PV.bool false, PV.bool false, PV.bool false, PV.bool false, PV.bool false, PV.bool false, PV.bool false, PV.bool false, PV.bool false, PV.bool false, PV.bool false, PV.bool
 false, PV.bool false, PV.bool false, PV.bool false, PV.bool false, PV.bool false, PV.bool false, PV.bool false, PV.bool false, PV.bool false, PV.bool false, PV.bool false, PV.bool false, PV.bool false, PV.bool false, PV.bool false, PV.bool
 false, PV.bool false, PV.bool false, PV.bool false] n_4 s_4 n_5 s_5 m_6 m_7 n2 x111 (IntKind.i64.wrap (x88 + (1 : Int))) b4 b5 b6 b7 (spl c_4 (0 + x88.toNat * 4) [PV.bool b4, PV.bool b5, PV.bool b6, PV.bool b7]) n_51 s_51 n_6 s_6 m_71 m_8 ∧
 μ3 n2 x111 (IntKind.i64.wrap (x88 + (1 : Int))) b4 b5 b6 b7 (spl c_4 (0 + x88.toNat * 4) [PV.bool b4, PV.bool b5, PV.bool b6, PV.bool b7]) n_51 s_51 n_6 s_6 m_71 m_8 < μ3 x101 x111 x88 h3_01 h3_11 h3_21 h3_31 c_4 n_51 s_51 n_6 s_6 m_71 m_8
 else ((0 : Int) ≤ x88 ∧ x88 < (↑128 : Int)) ∧ (4 = 4 ∧ 0 + x88.toNat * 4 + 4 ≤ c_4.length) ∧ Same1 ([(0, LV.pv (PV.int .i64 sz)), (2, LV.pv (PV.sl n f es)), (4, LV.box 0 0), (7, LV.box 1 0), (8, LV.box 2 0), (9, LV.box 3 0), (10, LV.pv
 (PV.int .i64 x101)), (11, LV.pv (PV.int .i64 x111)), (14, LV.box 4 0), (88, LV.pv (PV.int .i64 (IntKind.i64.wrap (x88 + (1 : Int)))))], [Ob.box [LV.pv (PV.bool za), LV.pv (PV.bool zb), LV.pv (PV.bool zc), LV.pv (PV.bool zd)], Ob.box [LV.pv
 (PV.int .i64 sz), LV.own 5, LV.own 6], Ob.box [LV.box 1 0, LV.mp 7, LV.mp 8], Ob.box [LV.pv (PV.bool h3_01), LV.pv (PV.bool h3_11), LV.pv (PV.bool h3_21), LV.pv (PV.bool h3_31)], Ob.arr (spl c_4 (0 + x88.toNat * 4) [PV.bool h3_01, PV.bool
 h3_11, PV.bool h3_21, PV.bool h3_31]), Ob.sl (3, 1) true n_51 s_51, Ob.sl (156, 512) true n_6 s_6, Ob.mp m_71, Ob.mp m_8]) ∧ J3 x10 x11 (0 : Int) h3_0 h3_1 h3_2 h3_3 (List.replicate 512 (PV.bool false)) n_4 s_4 n_5 s_5 m_6 m_7 x101 x111
 (IntKind.i64.wrap (x88 + (1 : Int))) h3_01 h3_11 h3_21 h3_31 (spl c_4 (0 + x88.toNat * (4 : Nat)) [PV.bool h3_01, PV.bool h3_11, PV.bool h3_21, PV.bool h3_31]) n_51 s_51 n_6 s_6 m_71 m_8 ∧ μ3 x101 x111 (IntKind.i64.wrap (x88 + (1 : Int)))
 h3_01 h3_11 h3_21 h3_31 (spl c_4 (0 + x88.toNat * 4) [PV.bool h3_01, PV.bool h3_11, PV.bool h3_21, PV.bool h3_31]) n_51 s_51 n_6 s_6 m_71 m_8 < μ3 x101 x111 x88 h3_01 h3_11 h3_21 h3_31 c_4 n_51 s_51 n_6 s_6 m_71 m_8 else 512 ≤ (List.drop 0
 c_4).length ∧ (ACall Try.prog 98 [LV.box 0 0, LV.pv (PV.agg (List.take 512 (List.drop 0 c_4)))] [Ob.box [LV.box 1 0, LV.mp 2, LV.mp 3], Ob.box [LV.pv (PV.int .i64 sz), LV.own 4, LV.own 5], Ob.mp m_71, Ob.mp m_8, Ob.sl (3, 1) false n_51
 s_51, Ob.sl (156, 512) false n_6 s_6] fun (r : LV) (h' : Hp) ↦ ∃ (t : Int × List (PV × PV) × Bool × List (List PV)), (r = LV.pv (PV.int .i64 t.1) ∧ h' = [Ob.box [LV.box 1 0, LV.mp 2, LV.mp 3], Ob.box [LV.pv (PV.int .i64 sz), LV.own 4,
 LV.own 5], Ob.mp t.snd.fst, Ob.mp m_8, Ob.sl ((3 : Nat), 1) false n_51 s_51, Ob.sl (156, 512) true t.snd.snd.fst t.snd.snd.snd]) ∧ (True ∧ ((3, 1) = (3, 1) ∧ n_51 = n_51 ∧ s_51.length = s_51.length) ∧ True ∧ True ∧ True ∧ True ∧ True) ∧
 (szOK [[PV.int .i64 t.1]] 1 ∧ (s_51.length + 1) * 8 ≤ 140737488355328) ∧ Same1 ([(0, LV.pv (PV.int .i64 sz)), (2, LV.pv (PV.sl n f es)), (4, LV.box 0 0), (7, LV.box 1 0), (8, LV.box 2 0), (9, LV.box 3 0), (10, LV.pv (PV.int .i64 x101)),
 (11, LV.pv (PV.int .i64 (IntKind.i64.wrap (x111 + (128 : Int)))))], [Ob.box [LV.pv (PV.bool za), LV.pv (PV.bool zb), LV.pv (PV.bool zc), LV.pv (PV.bool zd)], Ob.box [LV.pv (PV.int .i64 sz), LV.own 4, LV.own 5], Ob.box [LV.box 1 0, LV.mp 6,
 LV.mp 7], Ob.box [LV.pv (PV.bool h3_01), LV.pv (PV.bool h3_11), LV.pv (PV.bool h3_21), LV.pv (PV.bool h3_31)], Ob.sl (3, 1) true (n_51 && false) (s_51 ++ [[PV.int .i64 t.1]]), Ob.sl (156, 512) true t.snd.snd.fst t.snd.snd.snd, Ob.mp
 t.snd.fst, Ob.mp m_8]) ∧ J x101 (IntKind.i64.wrap (x111 + (128 : Int))) h3_01 h3_11 h3_21 h3_31 (n_51 && false) (s_51 ++ [[PV.int .i64 t.1]]) t.snd.snd.fst t.snd.snd.snd t.snd.fst m_8 ∧ μ x101 (IntKind.i64.wrap (x111 + (128 : Int))) h3_01
 h3_11 h3_21 h3_31 (n_51 && false) (s_51 ++ [[PV.int .i64 t.1]]) t.snd.snd.fst t.snd.snd.snd t.snd.fst m_8 < μ x10 x11 h3_0 h3_1 h3_2 h3_3 n_4 s_4 n_5 s_5 m_6 m_7) ∧ ACall Try.prog 98 [LV.box 0 0, LV.pv (PV.agg (List.take 512 (List.drop 0
 c_4)))] [Ob.box [LV.box 1 0, LV.mp 2, LV.mp 3], Ob.box [LV.pv (PV.int .i64 sz), LV.own 4, LV.own 5], Ob.mp m_71, Ob.mp m_8, Ob.sl (3, 1) false n_51 s_51, Ob.sl (156, 512) false n_6 s_6] fun (r : LV) (h' : Hp) ↦ ∃ (t : Int × List (PV × PV) ×
 Bool × List (List PV)), (r = LV.pv (PV.int .i64 t.1) ∧ h' = [Ob.box [LV.box 1 0, LV.mp 2, LV.mp 3], Ob.box [LV.pv (PV.int .i64 sz), LV.own 4, LV.own 5], Ob.mp t.snd.fst, Ob.mp m_8, Ob.sl (3, 1) false n_51 s_51, Ob.sl (156, 512) true
 t.snd.snd.fst t.snd.snd.snd]) ∧ (True ∧ ((3, 1) = (3, 1) ∧ n_51 = n_51 ∧ s_51.length = s_51.length) ∧ True ∧ True ∧ True ∧ True ∧ True) ∧ (szOK [[PV.int .i64 t.1]] 1 ∧ (s_51.length + 1) * 8 ≤ 140737488355328) ∧ Same1 ([(0, LV.pv (PV.int
 .i64 sz)), (2, LV.pv (PV.sl n f es)), (4, LV.box 0 0), (7, LV.box 1 0), (8, LV.box 2 0), (9, LV.box 3 0), (10, LV.pv (PV.int .i64 x101)), (11, LV.pv (PV.int .i64 (IntKind.i64.wrap (x111 + (128 : Int)))))], [Ob.box [LV.pv (PV.bool za), LV.pv
 (PV.bool zb), LV.pv (PV.bool zc), LV.pv (PV.bool zd)], Ob.box [LV.pv (PV.int .i64 sz), LV.own 4, LV.own 5], Ob.box [LV.box 1 0, LV.mp 6, LV.mp 7], Ob.box [LV.pv (PV.bool h3_01), LV.pv (PV.bool h3_11), LV.pv (PV.bool h3_21), LV.pv (PV.bool
 h3_31)], Ob.sl (3, 1) true (n_51 && false) (s_51 ++ [[PV.int .i64 t.1]]), Ob.sl (156, 512) true t.snd.snd.fst t.snd.snd.snd, Ob.mp t.snd.fst, Ob.mp m_8]) ∧ J x101 (IntKind.i64.wrap (x111 + (128 : Int))) h3_01 h3_11 h3_21 h3_31 (n_51 &&
 false) (s_51 ++ [[PV.int .i64 t.1]]) t.snd.snd.fst t.snd.snd.snd t.snd.fst m_8 ∧ μ x101 (IntKind.i64.wrap (x111 + (128 : Int))) h3_01 h3_11 h3_21 h3_31 (n_51 && false) (s_51 ++ [[PV.int .i64 t.1]]) t.snd.snd.fst t.snd.snd.snd t.snd.fst m_8
 < μ x10 x11 h3_0 h3_1 h3_2 h3_3 n_4 s_4 n_5 s_5 m_6 m_7 else R (PV.ptr [PV.int .i64 sz, PV.sl n_4 false s_4, PV.sl n_5 false s_5])
theorem e_trie_Build_ucd_flags (sz : Int) (za zb zc zd : Bool) (n f : Bool) (es : List (List PV)) (J : (Int) → (Int) → (Bool) → (Bool) → (Bool) → (Bool) → (Bool) → (List (List PV)) → (Bool) → (List (List PV)) → (List (PV × PV)) → (List (PV × PV)) → Prop) (μ : (Int) → (Int) → (Bool) → (Bool) → (Bool) → (Bool) → (Bool) → (List (List PV)) → (Bool) → (List (List PV)) → (List (PV × PV)) → (List (PV × PV)) → Nat) (J2 : (Int) → (Int) → (Int) → (Bool) → (Bool) → (Bool) → (Bool) → (Bool) → (List (List PV)) → (Bool) → (List (List PV)) → (List (PV × PV)) → (List (PV × PV)) → (Int) → (Int) → (Int) → (Bool) → (Bool) → (Bool) → (Bool) → (Bool) → (List (List PV)) → (Bool) → (List (List PV)) → (List (PV × PV)) → (List (PV × PV)) → Prop) (μ2 : (Int) → (Int) → (Int) → (Bool) → (Bool) → (Bool) → (Bool) → (Bool) → (List (List PV)) → (Bool) → (List (List PV)) → (List (PV × PV)) → (List (PV × PV)) → Nat) (J3 : (Int) → (Int) → (Int) → (Bool) → (Bool) → (Bool) → (Bool) → (List PV) → (Bool) → (List (List PV)) → (Bool) → (List (List PV)) → (List (PV × PV)) → (List (PV × PV)) → (Int) → (Int) → (Int) → (Bool) → (Bool) → (Bool) → (Bool) → (List PV) → (Bool) → (List (List PV)) → (Bool) → (List (List PV)) → (List (PV × PV)) → (List (PV × PV)) → Prop) (μ3 : (Int) → (Int) → (Int) → (Bool) → (Bool) → (Bool) → (Bool) → (List PV) → (Bool) → (List (List PV)) → (Bool) → (List (List PV)) → (List (PV × PV)) → (List (PV × PV)) → Nat) (R : PV → Prop) : aFn Try.prog (fun zz_ => match zz_ with | 98 => some ⟨Int × List (PV × PV) × Bool × List (List PV), fun _ hs t => (.pv (.int .i64 t.1), match hs with | [m, r, .mp _, ev, ix, .sl a _ _ _] => [m, r, .mp t.2.1, ev, ix, .sl a true t.2.2.1 t.2.2.2] | h => h), none⟩ | 97 => some ⟨Int × List (PV × PV) × List (PV × PV) × Bool × List (List PV), fun _ hs t => (.pv (.int .i64 t.1), match hs with | [m, r, .mp _, .mp _, ix, .sl a _ _ _] => [m, r, .mp t.2.1, .mp t.2.2.1, ix, .sl a true t.2.2.2.1 t.2.2.2.2] | h => h), none⟩ | _ => none) Try.f73 [0, 1, 2, 4, 6, 7, 8, 9, 10, 11, 12, 13, 14, 15, 17, 36, 41, 58, 73, 88, 89, 102] (fun zz_ => match zz_ with | 7 => some ⟨Int × Int × Bool × Bool × Bool × Bool × Bool × (List (List PV)) × Bool × (List (List PV)) × (List (PV × PV)) × (List (PV × PV)), fun s => (fun (x10 : Int) (x11 : Int) (h3_0 : Bool) (h3_1 : Bool) (h3_2 : Bool) (h3_3 : Bool) (n_4 : Bool) (s_4 : List (List PV)) (n_5 : Bool) (s_5 : List (List PV)) (m_6 : List (PV × PV)) (m_7 : List (PV × PV)) => ([(0, LV.pv (PV.int IntKind.i64 sz)), (2, LV.pv (PV.sl n f es)), (4, LV.box 0 0), (7, LV.box 1 0), (8, LV.box 2 0), (9, LV.box 3 0), (10, .pv (.int IntKind.i64 x10)), (11, .pv (.int IntKind.i64 x11))], [.box [LV.pv (PV.bool za), LV.pv (PV.bool zb), LV.pv (PV.bool zc), LV.pv (PV.bool zd)], .box [LV.pv (PV.int IntKind.i64 sz), LV.own 4, LV.own 5], .box [LV.box 1 0, LV.mp 6, LV.mp 7], .box [.pv (.bool h3_0), .pv (.bool h3_1), .pv (.bool h3_2), .pv (.bool h3_3)], .sl (3, 1) true n_4 s_4, .sl (156, 512) true n_5 s_5, .mp m_6, .mp m_7])) s.1 s.2.1 s.2.2.1 s.2.2.2.1 s.2.2.2.2.1 s.2.2.2.2.2.1 s.2.2.2.2.2.2.1 s.2.2.2.2.2.2.2.1 s.2.2.2.2.2.2.2.2.1 s.2.2.2.2.2.2.2.2.2.1 s.2.2.2.2.2.2.2.2.2.2.1 s.2.2.2.2.2.2.2.2.2.2.2, fun _ s => J s.1 s.2.1 s.2.2.1 s.2.2.2.1 s.2.2.2.2.1 s.2.2.2.2.2.1 s.2.2.2.2.2.2.1 s.2.2.2.2.2.2.2.1 s.2.2.2.2.2.2.2.2.1 s.2.2.2.2.2.2.2.2.2.1 s.2.2.2.2.2.2.2.2.2.2.1 s.2.2.2.2.2.2.2.2.2.2.2, fun s => μ s.1 s.2.1 s.2.2.1 s.2.2.2.1 s.2.2.2.2.1 s.2.2.2.2.2.1 s.2.2.2.2.2.2.1 s.2.2.2.2.2.2.2.1 s.2.2.2.2.2.2.2.2.1 s.2.2.2.2.2.2.2.2.2.1 s.2.2.2.2.2.2.2.2.2.2.1 s.2.2.2.2.2.2.2.2.2.2.2, fun e h => (gI e 10, gI e 11, hB h 3 0, hB h 3 1, hB h 3 2, hB h 3 3, oN h 4, oS h 4, oN h 5, oS h 5, oM h 6, oM h 7), [(1001001, 3, 1), (1001002, 156, 512)], [0, 2, 4, 7, 8, 9, 10, 11], [], fun p => ∀ (x10 : Int) (x11 : Int) (h3_0 : Bool) (h3_1 : Bool) (h3_2 : Bool) (h3_3 : Bool) (n_4 : Bool) (s_4 : List (List PV)) (n_5 : Bool) (s_5 : List (List PV)) (m_6 : List (PV × PV)) (m_7 : List (PV × PV)), p (x10, x11, h3_0, h3_1, h3_2, h3_3, n_4, s_4, n_5, s_5, m_6, m_7), fun p h s => h s.1 s.2.1 s.2.2.1 s.2.2.2.1 s.2.2.2.2.1 s.2.2.2.2.2.1 s.2.2.2.2.2.2.1 s.2.2.2.2.2.2.2.1 s.2.2.2.2.2.2.2.2.1 s.2.2.2.2.2.2.2.2.2.1 s.2.2.2.2.2.2.2.2.2.2.1 s.2.2.2.2.2.2.2.2.2.2.2⟩ | 14 => some ⟨Int × Int × Int × Bool × Bool × Bool × Bool × Bool × (List (List PV)) × Bool × (List (List PV)) × (List (PV × PV)) × (List (PV × PV)), fun s => (fun (x10 : Int) (x11 : Int) (x13 : Int) (h3_0 : Bool) (h3_1 : Bool) (h3_2 : Bool) (h3_3 : Bool) (n_4 : Bool) (s_4 : List (List PV)) (n_5 : Bool) (s_5 : List (List PV)) (m_6 : List (PV × PV)) (m_7 : List (PV × PV)) => ([(0, LV.pv (PV.int IntKind.i64 sz)), (2, LV.pv (PV.sl n f es)), (4, LV.box 0 0), (7, LV.box 1 0), (8, LV.box 2 0), (9, LV.box 3 0), (10, .pv (.int IntKind.i64 x10)), (11, .pv (.int IntKind.i64 x11)), (13, .pv (.int IntKind.i64 x13))], [.box [LV.pv (PV.bool za), LV.pv (PV.bool zb), LV.pv (PV.bool zc), LV.pv (PV.bool zd)], .box [LV.pv (PV.int IntKind.i64 sz), LV.own 4, LV.own 5], .box [LV.box 1 0, LV.mp 6, LV.mp 7], .box [.pv (.bool h3_0), .pv (.bool h3_1), .pv (.bool h3_2), .pv (.bool h3_3)], .sl (3, 1) true n_4 s_4, .sl (156, 512) true n_5 s_5, .mp m_6, .mp m_7])) s.1 s.2.1 s.2.2.1 s.2.2.2.1 s.2.2.2.2.1 s.2.2.2.2.2.1 s.2.2.2.2.2.2.1 s.2.2.2.2.2.2.2.1 s.2.2.2.2.2.2.2.2.1 s.2.2.2.2.2.2.2.2.2.1 s.2.2.2.2.2.2.2.2.2.2.1 s.2.2.2.2.2.2.2.2.2.2.2.1 s.2.2.2.2.2.2.2.2.2.2.2.2, fun t s => J2 t.1 t.2.1 t.2.2.1 t.2.2.2.1 t.2.2.2.2.1 t.2.2.2.2.2.1 t.2.2.2.2.2.2.1 t.2.2.2.2.2.2.2.1 t.2.2.2.2.2.2.2.2.1 t.2.2.2.2.2.2.2.2.2.1 t.2.2.2.2.2.2.2.2.2.2.1 t.2.2.2.2.2.2.2.2.2.2.2.1 t.2.2.2.2.2.2.2.2.2.2.2.2 s.1 s.2.1 s.2.2.1 s.2.2.2.1 s.2.2.2.2.1 s.2.2.2.2.2.1 s.2.2.2.2.2.2.1 s.2.2.2.2.2.2.2.1 s.2.2.2.2.2.2.2.2.1 s.2.2.2.2.2.2.2.2.2.1 s.2.2.2.2.2.2.2.2.2.2.1 s.2.2.2.2.2.2.2.2.2.2.2.1 s.2.2.2.2.2.2.2.2.2.2.2.2, fun s => μ2 s.1 s.2.1 s.2.2.1 s.2.2.2.1 s.2.2.2.2.1 s.2.2.2.2.2.1 s.2.2.2.2.2.2.1 s.2.2.2.2.2.2.2.1 s.2.2.2.2.2.2.2.2.1 s.2.2.2.2.2.2.2.2.2.1 s.2.2.2.2.2.2.2.2.2.2.1 s.2.2.2.2.2.2.2.2.2.2.2.1 s.2.2.2.2.2.2.2.2.2.2.2.2, fun e h => (gI e 10, gI e 11, gI e 13, hB h 3 0, hB h 3 1, hB h 3 2, hB h 3 3, oN h 4, oS h 4, oN h 5, oS h 5, oM h 6, oM h 7), [], [0, 2, 4, 7, 8, 9, 10, 11, 13], [], fun p => ∀ (x10 : Int) (x11 : Int) (x13 : Int) (h3_0 : Bool) (h3_1 : Bool) (h3_2 : Bool) (h3_3 : Bool) (n_4 : Bool) (s_4 : List (List PV)) (n_5 : Bool) (s_5 : List (List PV)) (m_6 : List (PV × PV)) (m_7 : List (PV × PV)), p (x10, x11, x13, h3_0, h3_1, h3_2, h3_3, n_4, s_4, n_5, s_5, m_6, m_7), fun p h s => h s.1 s.2.1 s.2.2.1 s.2.2.2.1 s.2.2.2.2.1 s.2.2.2.2.2.1 s.2.2.2.2.2.2.1 s.2.2.2.2.2.2.2.1 s.2.2.2.2.2.2.2.2.1 s.2.2.2.2.2.2.2.2.2.1 s.2.2.2.2.2.2.2.2.2.2.1 s.2.2.2.2.2.2.2.2.2.2.2.1 s.2.2.2.2.2.2.2.2.2.2.2.2⟩ | 20 => some ⟨Int × Int × Int × Bool × Bool × Bool × Bool × (List PV) × Bool × (List (List PV)) × Bool × (List (List PV)) × (List (PV × PV)) × (List (PV × PV)), fun s => (fun (x10 : Int) (x11 : Int) (x88 : Int) (h3_0 : Bool) (h3_1 : Bool) (h3_2 : Bool) (h3_3 : Bool) (c_4 : List PV) (n_5 : Bool) (s_5 : List (List PV)) (n_6 : Bool) (s_6 : List (List PV)) (m_7 : List (PV × PV)) (m_8 : List (PV × PV)) => ([(0, LV.pv (PV.int IntKind.i64 sz)), (2, LV.pv (PV.sl n f es)), (4, LV.box 0 0), (7, LV.box 1 0), (8, LV.box 2 0), (9, LV.box 3 0), (10, .pv (.int IntKind.i64 x10)), (11, .pv (.int IntKind.i64 x11)), (14, LV.box 4 0), (88, .pv (.int IntKind.i64 x88))], [.box [LV.pv (PV.bool za), LV.pv (PV.bool zb), LV.pv (PV.bool zc), LV.pv (PV.bool zd)], .box [LV.pv (PV.int IntKind.i64 sz), LV.own 5, LV.own 6], .box [LV.box 1 0, LV.mp 7, LV.mp 8], .box [.pv (.bool h3_0), .pv (.bool h3_1), .pv (.bool h3_2), .pv (.bool h3_3)], .arr c_4, .sl (3, 1) true n_5 s_5, .sl (156, 512) true n_6 s_6, .mp m_7, .mp m_8])) s.1 s.2.1 s.2.2.1 s.2.2.2.1 s.2.2.2.2.1 s.2.2.2.2.2.1 s.2.2.2.2.2.2.1 s.2.2.2.2.2.2.2.1 s.2.2.2.2.2.2.2.2.1 s.2.2.2.2.2.2.2.2.2.1 s.2.2.2.2.2.2.2.2.2.2.1 s.2.2.2.2.2.2.2.2.2.2.2.1 s.2.2.2.2.2.2.2.2.2.2.2.2.1 s.2.2.2.2.2.2.2.2.2.2.2.2.2, fun t s => J3 t.1 t.2.1 t.2.2.1 t.2.2.2.1 t.2.2.2.2.1 t.2.2.2.2.2.1 t.2.2.2.2.2.2.1 t.2.2.2.2.2.2.2.1 t.2.2.2.2.2.2.2.2.1 t.2.2.2.2.2.2.2.2.2.1 t.2.2.2.2.2.2.2.2.2.2.1 t.2.2.2.2.2.2.2.2.2.2.2.1 t.2.2.2.2.2.2.2.2.2.2.2.2.1 t.2.2.2.2.2.2.2.2.2.2.2.2.2 s.1 s.2.1 s.2.2.1 s.2.2.2.1 s.2.2.2.2.1 s.2.2.2.2.2.1 s.2.2.2.2.2.2.1 s.2.2.2.2.2.2.2.1 s.2.2.2.2.2.2.2.2.1 s.2.2.2.2.2.2.2.2.2.1 s.2.2.2.2.2.2.2.2.2.2.1 s.2.2.2.2.2.2.2.2.2.2.2.1 s.2.2.2.2.2.2.2.2.2.2.2.2.1 s.2.2.2.2.2.2.2.2.2.2.2.2.2, fun s => μ3 s.1 s.2.1 s.2.2.1 s.2.2.2.1 s.2.2.2.2.1 s.2.2.2.2.2.1 s.2.2.2.2.2.2.1 s.2.2.2.2.2.2.2.1 s.2.2.2.2.2.2.2.2.1 s.2.2.2.2.2.2.2.2.2.1 s.2.2.2.2.2.2.2.2.2.2.1 s.2.2.2.2.2.2.2.2.2.2.2.1 s.2.2.2.2.2.2.2.2.2.2.2.2.1 s.2.2.2.2.2.2.2.2.2.2.2.2.2, fun e h => (gI e 10, gI e 11, gI e 88, hB h 3 0, hB h 3 1, hB h 3 2, hB h 3 3, oA h 4, oN h 5, oS h 5, oN h 6, oS h 6, oM h 7, oM h 8), [], [0, 2, 4, 7, 8, 9, 10, 11, 14, 88], [], fun p => ∀ (x10 : Int) (x11 : Int) (x88 : Int) (h3_0 : Bool) (h3_1 : Bool) (h3_2 : Bool) (h3_3 : Bool) (c_4 : List PV) (n_5 : Bool) (s_5 : List (List PV)) (n_6 : Bool) (s_6 : List (List PV)) (m_7 : List (PV × PV)) (m_8 : List (PV × PV)), p (x10, x11, x88, h3_0, h3_1, h3_2, h3_3, c_4, n_5, s_5, n_6, s_6, m_7, m_8), fun p h s => h s.1 s.2.1 s.2.2.1 s.2.2.2.1 s.2.2.2.2.1 s.2.2.2.2.2.1 s.2.2.2.2.2.2.1 s.2.2.2.2.2.2.2.1 s.2.2.2.2.2.2.2.2.1 s.2.2.2.2.2.2.2.2.2.1 s.2.2.2.2.2.2.2.2.2.2.1 s.2.2.2.2.2.2.2.2.2.2.2.1 s.2.2.2.2.2.2.2.2.2.2.2.2.1 s.2.2.2.2.2.2.2.2.2.2.2.2.2⟩ | _ => none) (Try.f73.body.getD .skip) [.int .i64 sz, .agg [.bool za, .bool zb, .bool zc, .bool zd], .sl n f es] R = r_trie_Build_ucd_flags sz za zb zc zd n f es J μ J2 μ2 J3 μ3 R := by kernel_rfl
theorem a_trie_Build_ucd_flags (sz : Int) (za zb zc zd : Bool) (n f : Bool) (es : List (List PV)) (J : (Int) → (Int) → (Bool) → (Bool) → (Bool) → (Bool) → (Bool) → (List (List PV)) → (Bool) → (List (List PV)) → (List (PV × PV)) → (List (PV × PV)) → Prop) (μ : (Int) → (Int) → (Bool) → (Bool) → (Bool) → (Bool) → (Bool) → (List (List PV)) → (Bool) → (List (List PV)) → (List (PV × PV)) → (List (PV × PV)) → Nat) (J2 : (Int) → (Int) → (Int) → (Bool) → (Bool) → (Bool) → (Bool) → (Bool) → (List (List PV)) → (Bool) → (List (List PV)) → (List (PV × PV)) → (List (PV × PV)) → (Int) → (Int) → (Int) → (Bool) → (Bool) → (Bool) → (Bool) → (Bool) → (List (List PV)) → (Bool) → (List (List PV)) → (List (PV × PV)) → (List (PV × PV)) → Prop) (μ2 : (Int) → (Int) → (Int) → (Bool) → (Bool) → (Bool) → (Bool) → (Bool) → (List (List PV)) → (Bool) → (List (List PV)) → (List (PV × PV)) → (List (PV × PV)) → Nat) (J3 : (Int) → (Int) → (Int) → (Bool) → (Bool) → (Bool) → (Bool) → (List PV) → (Bool) → (List (List PV)) → (Bool) → (List (List PV)) → (List (PV × PV)) → (List (PV × PV)) → (Int) → (Int) → (Int) → (Bool) → (Bool) → (Bool) → (Bool) → (List PV) → (Bool) → (List (List PV)) → (Bool) → (List (List PV)) → (List (PV × PV)) → (List (PV × PV)) → Prop) (μ3 : (Int) → (Int) → (Int) → (Bool) → (Bool) → (Bool) → (Bool) → (List PV) → (Bool) → (List (List PV)) → (Bool) → (List (List PV)) → (List (PV × PV)) → (List (PV × PV)) → Nat) {R : PV → Prop} (h : r_trie_Build_ucd_flags sz za zb zc zd n f es J μ J2 μ2 J3 μ3 R) : PCall Try.prog 73 [.int .i64 sz, .agg [.bool za, .bool zb, .bool zc, .bool zd], .sl n f es] R :=
  PCall.of Try.func73 (by kernel_rfl) (by kernel_rfl) (Nat.le_of_ble_eq_true (by kernel_rfl)) (Eq.mpr (e_trie_Build_ucd_flags sz za zb zc zd n f es J μ J2 μ2 J3 μ3 R) h)

end Go.Eng
