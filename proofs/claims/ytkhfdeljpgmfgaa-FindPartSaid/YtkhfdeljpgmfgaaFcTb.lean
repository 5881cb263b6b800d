/- Abstract states run over the code; what each function gives, printed by program and checked by the kernel; and what follows of it. -/
import Derived.Test.YtkhfdeljpgmfgaaFcTa
set_option linter.unusedVariables false
set_option linter.unusedSimpArgs false
namespace Go.Eng.Trie
open Go Go.Eng
structure Pc (α : Type) where
  fr : Int
  to : Int
  v : α
variable {α : Type}
def findL : List (Pc α) → α → Int → Int → α × Int
  | [], z, _, last => (z, last)
  | p :: r, z, i, last => if p.fr ≤ i ∧ i ≤ p.to then (p.v, if last < p.to then last else p.to) else if i < p.fr ∧ p.fr ≤ last then findL r z i (p.fr - 1) else findL r z i last
theorem xO (p : Pc α) (r : List (Pc α)) (z : α) (i last : Int) : findL (p :: r) z i last = if p.fr ≤ i ∧ i ≤ p.to then (p.v, if last < p.to then last else p.to) else if i < p.fr ∧ p.fr ≤ last then findL r z i (p.fr - 1) else findL r z i last := rfl
def eB : List (Pc α) → α → Int → α
  | [], z, _ => z
  | p :: r, z, i => if p.fr ≤ i ∧ i ≤ p.to then p.v else eB r z i
theorem oY : ∀ (l : List (Pc α)) (z : α) (i last : Int), i ≤ last → (findL l z i last).1 = eB l z i ∧ i ≤ (findL l z i last).2 ∧ (findL l z i last).2 ≤ last ∧ ∀ j, i ≤ j → j ≤ (findL l z i last).2 → eB l z j = (findL l z i last).1
  | [], z, i, last, h => ⟨rfl, h, Int.le_refl _, fun _ _ _ => rfl⟩
  | p :: r, z, i, last, h => by
    unfold findL eB
    by_cases h1 : p.fr ≤ i ∧ i ≤ p.to
    · rw [if_pos h1, if_pos h1]
      dsimp only
      have : (if last < p.to then last else p.to) ≤ last ∧ (if last < p.to then last else p.to) ≤ p.to ∧ i ≤ (if last < p.to then last else p.to) := by split <;> omega
      refine ⟨rfl, this.2.2, this.1, fun j hj hj2 => ?_⟩
      rw [if_pos (by omega)]
    · rw [if_neg h1, if_neg h1]
      by_cases h2 : i < p.fr ∧ p.fr ≤ last
      · rw [if_pos h2]
        obtain ⟨a, b, c, d⟩ := oY r z i (p.fr - 1) (by omega)
        refine ⟨a, b, by omega, fun j hj hj2 => ?_⟩
        rw [if_neg (by omega)]
        exact d j hj hj2
      · rw [if_neg h2]
        obtain ⟨a, b, c, d⟩ := oY r z i last h
        refine ⟨a, b, c, fun j hj hj2 => ?_⟩
        rw [if_neg (by omega)]
        exact d j hj hj2
def aQ (α : Type) := { l : List α // l.length = 128 }
instance [DecidableEq α] : DecidableEq (aQ α) := fun a b => if h : a.1 = b.1 then isTrue (Subtype.ext h) else isFalse fun e => h (by rw [e])
def rep (v : α) : aQ α := ⟨List.replicate 128 v, by simp⟩
variable {sz : Int} {F : Int → α} {idx : List Int} {blk : List (aQ α)}
structure TOK (sz : Int) (F : Int → α) (idx : List Int) (blk : List (aQ α)) : Prop where
  len : sz ≤ 128 * idx.length
  ok : ∀ (q : Nat) k, idx[q]? = some k → 0 ≤ k ∧ ∃ b : aQ α, blk[k.toNat]? = some b ∧ ∀ (j : Nat) u, b.1[j]? = some u → (128 * q + j : Int) < sz → u = F (128 * q + j)
theorem TOK.get (h : TOK sz F idx blk) {i : Int} (h0 : 0 ≤ i) (h1 : i < sz) : ∃ (hq : (i / 128).toNat < idx.length), 0 ≤ idx[(i / 128).toNat] ∧ ∃ (hk : idx[(i / 128).toNat].toNat < blk.length), ∃ (hj : (i % 128).toNat < (blk[idx[(i / 128).toNat].toNat]).1.length), (blk[idx[(i / 128).toNat].toNat]).1[(i % 128).toNat] = F i := by
  have hl := h.len
  have hq : (i / 128).toNat < idx.length := by omega
  obtain ⟨g0, b, g1, g2⟩ := h.ok (i / 128).toNat _ (List.getElem?_eq_getElem hq)
  obtain ⟨hk, hb⟩ := List.getElem?_eq_some_iff.1 g1
  have hj : (i % 128).toNat < (blk[idx[(i / 128).toNat].toNat]).1.length := by rw [(blk[idx[(i / 128).toNat].toNat]).2]; omega
  refine ⟨hq, g0, hk, hj, ?_⟩
  have hj' : (i % 128).toNat < b.1.length := by rw [b.2]; omega
  have := g2 (i % 128).toNat _ (List.getElem?_eq_getElem hj') (by omega)
  have e : (128 * ((i / 128).toNat : Int) + ((i % 128).toNat : Int)) = i := by omega
  rw [e] at this
  simp only [hb]
  exact this
theorem xP {b c : aQ α} {k : Nat} (h : blk[k]? = some b) : (blk ++ [c])[k]? = some b := by
  have := (List.getElem?_eq_some_iff.1 h).1
  rw [List.getElem?_append_left this]; exact h
variable [DecidableEq α]
structure TInv (sz : Int) (F : Int → α) (idx : List Int) (blk : List (aQ α)) (kn : List (aQ α × Int)) (ev : List (α × Int)) : Prop where
  kn_ok : ∀ b k, bQ b kn = some k → 0 ≤ k ∧ blk[k.toNat]? = some b
  ev_ok : ∀ v k, bQ v ev = some k → 0 ≤ k ∧ blk[k.toNat]? = some (rep v)
  idx_ok : ∀ (q : Nat) k, idx[q]? = some k → 0 ≤ k ∧ ∃ b : aQ α, blk[k.toNat]? = some b ∧ ∀ (j : Nat) u, b.1[j]? = some u → (128 * q + j : Int) < sz → u = F (128 * q + j)
variable {kn : List (aQ α × Int)} {ev : List (α × Int)}
theorem TInv.nil : TInv sz F [] [] [] [] := ⟨fun _ _ h => (by cases h), fun _ _ h => (by cases h), fun _ _ h => (by simp at h)⟩
theorem TInv.place (h : TInv sz F idx blk kn ev) (b : aQ α) : TInv sz F idx (blk ++ [b]) (bJ b (blk.length : Int) kn) ev := by
  refine ⟨fun c k hc => ?_, fun v k hv => ?_, fun q k hq => ?_⟩
  · rw [kR] at hc
    split at hc
    · rename_i e
      cases hc
      exact ⟨by omega, by simp [e]⟩
    · exact ⟨(h.kn_ok c k hc).1, xP (h.kn_ok c k hc).2⟩
  · exact ⟨(h.ev_ok v k hv).1, xP (h.ev_ok v k hv).2⟩
  · obtain ⟨h1, c, h2, h3⟩ := h.idx_ok q k hq
    exact ⟨h1, c, xP h2, h3⟩
theorem TInv.even (h : TInv sz F idx blk kn ev) {v : α} {k : Int} (h0 : 0 ≤ k) (hk : blk[k.toNat]? = some (rep v)) : TInv sz F idx blk kn (bJ v k ev) := by
  refine ⟨h.kn_ok, fun c k' hc => ?_, h.idx_ok⟩
  rw [kR] at hc
  split at hc
  · rename_i e
    cases hc
    exact ⟨h0, by rw [e]; exact hk⟩
  · exact h.ev_ok c k' hc
theorem TInv.push (h : TInv sz F idx blk kn ev) {b : aQ α} {k : Int} (h0 : 0 ≤ k) (hk : blk[k.toNat]? = some b) (hb : ∀ (j : Nat) u, b.1[j]? = some u → (128 * idx.length + j : Int) < sz → u = F (128 * idx.length + j)) : TInv sz F (idx ++ [k]) blk kn ev := by
  refine ⟨h.kn_ok, h.ev_ok, fun q k' hq => ?_⟩
  rcases Nat.lt_trichotomy q idx.length with hl | hl | hl
  · rw [List.getElem?_append_left hl] at hq
    exact h.idx_ok q k' hq
  · subst hl
    simp at hq
    subst hq
    exact ⟨h0, b, hk, hb⟩
  · rw [List.getElem?_eq_none (by simp; omega)] at hq; cases hq
end Go.Eng.Trie



namespace Go.Eng.Rows
open Go Go.Eng Go.Eng.Trie
def bU (rows : List Row) (k r : Int) : Option (Int × Int) := if 0 ≤ r ∧ r ≤ 1114111 then first rows k r else none
def aH (rows : List Row) (k r : Int) : Int := match bU rows k r with | some p => p.1 | none => 0
def eK (rows : List Row) (k r : Int) : Bool := match bU rows k r with | some p => decide (p.1 = 1) | none => false
def aF (rows : List Row) (r : Int) : Int × Int := match bU rows 2 r with | some p => p | none => (0, 0)
def cW (rows : List Row) (r : Int) : Bool × Bool × Bool × Bool := (eK rows 5 r, eK rows 7 r, eK rows 8 r, eK rows 3 r)
def fR (rows : List Row) (r : Int) : Bool :=
  !decide (aF rows r = (0, 0)) && (decide ((aF rows r).2 = 0) || (eK rows 3 r || (!decide (aH rows 1 r = 0) || !decide (aH rows 1 (aF rows r).1 = 0))))
theorem zeb {rows : List Row} {k r a b : Int} : c8 (aG k rows) r a b ↔ bU rows k r = some (a, b) := by
  rw [zk8]
  unfold bU
  by_cases h : 0 ≤ r ∧ r ≤ 1114111
  · rw [if_pos h]; exact ⟨fun h => h.2, fun h2 => ⟨h, h2⟩⟩
  · rw [if_neg h]; exact ⟨fun h2 => absurd h2.1 h, fun h2 => by cases h2⟩
theorem xQ {rows : List Row} {k r : Int} {p : Int × Int} (h : bU rows k r = some p) : ∃ s ∈ aG k rows, s.has r ∧ s.a = p.1 ∧ s.b = p.2 := by
  obtain ⟨s, h1, h2, h3, h4⟩ := zeb.2 (show bU rows k r = some (p.1, p.2) from h)
  exact ⟨s, h1, h2, h3, h4⟩
theorem kX {rows : List Row} {k r : Int} {s : Sp} (hs : s ∈ aG k rows) (h : s.has r) : bU rows k r = some (s.a, s.b) := zeb.1 ⟨s, hs, h, rfl, rfl⟩
theorem zlk {rows : List Row} {k r : Int} (h : bU rows k r = none) : ∀ s ∈ aG k rows, ¬ s.has r := fun s hs h2 => by rw [kX hs h2] at h; cases h
theorem sE {rows : List Row} {k r : Int} (h : ∀ s ∈ aG k rows, ¬ s.has r) : bU rows k r = none := by
  cases hf : bU rows k r with
  | none => rfl
  | some p => obtain ⟨s, h1, h2, _⟩ := xQ hf; exact absurd h2 (h s h1)
theorem sF {α : Type} {F : Int → α} {z : α} {i : Int} : ∀ {l : List (Pc α)}, (∀ p ∈ l, p.fr ≤ i → i ≤ p.to → p.v = F i) → ((∀ p ∈ l, ¬ (p.fr ≤ i ∧ i ≤ p.to)) → F i = z) → eB l z i = F i
  | [], _, h2 => (h2 (fun p hp => by cases hp)).symm
  | p :: r, h1, h2 => by
    unfold eB
    by_cases h : p.fr ≤ i ∧ i ≤ p.to
    · rw [if_pos h]; exact h1 p List.mem_cons_self h.1 h.2
    · rw [if_neg h]
      refine sF (fun q hq => h1 q (List.mem_cons_of_mem _ hq)) fun h3 => h2 fun q hq => ?_
      rcases List.mem_cons.1 hq with rfl | hq
      · exact h
      · exact h3 q hq
theorem zll (rows : List Row) (k i : Int) : eB ((aG k rows).map fun s => (⟨s.fr, s.to, s.a⟩ : Pc Int)) 0 i = aH rows k i := by
  refine sF (F := aH rows k) (fun p hp h1 h2 => ?_) (fun h => ?_)
  · obtain ⟨s, hs, rfl⟩ := List.mem_map.1 hp
    unfold aH; rw [kX hs ⟨h1, h2⟩]
  · unfold aH; rw [sE fun s hs h2 => h _ (List.mem_map_of_mem hs) ⟨h2.1, h2.2⟩]
theorem zlm (rows : List Row) (i : Int) : eB ((aG 2 rows).map fun s => (⟨s.fr, s.to, (s.a, s.b)⟩ : Pc (Int × Int))) (0, 0) i = aF rows i := by
  refine sF (F := aF rows) (fun p hp h1 h2 => ?_) (fun h => ?_)
  · obtain ⟨s, hs, rfl⟩ := List.mem_map.1 hp
    unfold aF; rw [kX hs ⟨h1, h2⟩]
  · unfold aF; rw [sE fun s hs h2 => h _ (List.mem_map_of_mem hs) ⟨h2.1, h2.2⟩]
def c9 (at' last : Int) : List Sp → Int
  | [] => last
  | s :: r => if s.fr > at' ∧ s.fr ≤ last then c9 at' (s.fr - 1) r else c9 at' last r
theorem oZ {a : Int} : ∀ {l : List Sp} {last : Int}, c9 a last l ≤ last
  | [], last => Int.le_refl _
  | s :: r, last => by
    unfold c9
    split
    · have := oZ (a := a) (l := r) (last := s.fr - 1); omega
    · exact oZ
theorem xR {a : Int} : ∀ {l : List Sp} {last : Int}, ∀ s ∈ l, s.fr > a → s.fr > c9 a last l
  | s :: r, last, x, hx, h => by
    unfold c9
    have hle1 := oZ (a := a) (l := r) (last := s.fr - 1)
    have hle2 := oZ (a := a) (l := r) (last := last)
    rcases List.mem_cons.1 hx with rfl | hx
    · split <;> omega
    · split
      · exact xR x hx h
      · exact xR x hx h
theorem xS {a i : Int} : ∀ {l : List Sp} {last : Int}, i ≤ last → (∀ s ∈ l, s.fr > a → s.fr > i) → i ≤ c9 a last l
  | [], last, h, _ => h
  | s :: r, last, h, h2 => by
    unfold c9
    split
    · rename_i hc
      exact xS (by have := h2 s List.mem_cons_self hc.1; omega) fun x hx => h2 x (List.mem_cons_of_mem _ hx)
    · exact xS h fun x hx => h2 x (List.mem_cons_of_mem _ hx)
theorem zec (a : Int) : ∀ (l m : List Sp) (last : Int), c9 a last (l ++ m) = c9 a (c9 a last l) m
  | [], m, last => rfl
  | s :: r, m, last => by
    simp only [List.cons_append, c9]
    split <;> exact zec a r m _
def jS (ll : List (List Sp)) (x : Int) : Prop := x = 0 ∨ ∃ l ∈ ll, ∃ s ∈ l, x = s.fr ∨ x = s.to + 1
theorem zln {ll : List (List Sp)} {a i : Int} (h1 : a ≤ i) (h2 : ∀ x, jS ll x → x ≤ a ∨ i < x) {l : List Sp} (hl : l ∈ ll) {s : Sp} (hs : s ∈ l) : s.has i ↔ s.has a := by
  have c1 := h2 s.fr (.inr ⟨l, hl, s, hs, .inl rfl⟩)
  have c2 := h2 (s.to + 1) (.inr ⟨l, hl, s, hs, .inr rfl⟩)
  unfold Sp.has
  omega
theorem zlo {t : List Int} {i : Int} (h0 : ∃ x ∈ t, x ≤ i) : ∃ a ∈ t, a ≤ i ∧ ∀ x ∈ t, x ≤ a ∨ i < x := by
  induction t with
  | nil => obtain ⟨x, hx, _⟩ := h0; cases hx
  | cons y r ih =>
    by_cases hr : ∃ x ∈ r, x ≤ i
    · obtain ⟨a, h1, h2, h3⟩ := ih hr
      by_cases hy : y ≤ i ∧ a < y
      · refine ⟨y, List.mem_cons_self, hy.1, fun x hx => ?_⟩
        rcases List.mem_cons.1 hx with rfl | hx
        · exact .inl (Int.le_refl _)
        · have := h3 x hx; omega
      · refine ⟨a, List.mem_cons_of_mem _ h1, h2, fun x hx => ?_⟩
        rcases List.mem_cons.1 hx with rfl | hx
        · omega
        · exact h3 x hx
    · obtain ⟨x, hx, hxi⟩ := h0
      rcases List.mem_cons.1 hx with rfl | hx
      · refine ⟨x, List.mem_cons_self, hxi, fun z hz => ?_⟩
        rcases List.mem_cons.1 hz with rfl | hz
        · exact .inl (Int.le_refl _)
        · exact .inr (Int.not_le.1 fun hle => hr ⟨z, hz, hle⟩)
      · exact absurd ⟨x, hx, hxi⟩ hr
end Go.Eng.Rows



namespace Go.Eng.Rows
open Go Go.Eng Go.Eng.Trie
abbrev Fl := Bool × Bool × Bool × Bool
def l4 (rows : List Row) : List (List Sp) := [aG 5 rows, aG 7 rows, aG 8 rows, aG 3 rows]
theorem sG {rows : List Row} {k a i : Int} (h : ∀ s ∈ aG k rows, s.has i ↔ s.has a) : bU rows k i = bU rows k a := by
  cases hf : bU rows k a with
  | none => exact sE fun s hs h2 => zlk hf s hs ((h s hs).1 h2)
  | some p =>
    obtain ⟨s, h1, h2, h3, h4⟩ := xQ hf
    rw [kX h1 ((h s h1).2 h2), h3, h4]
theorem zed {rows : List Row} {a i : Int} (h : ∀ l ∈ l4 rows, ∀ s ∈ l, s.has i ↔ s.has a) : cW rows i = cW rows a := by
  unfold cW eK
  rw [sG (h _ (by simp [l4]) : ∀ s ∈ aG 5 rows, _), sG (h _ (by simp [l4]) : ∀ s ∈ aG 7 rows, _), sG (h _ (by simp [l4]) : ∀ s ∈ aG 8 rows, _), sG (h _ (by simp [l4]) : ∀ s ∈ aG 3 rows, _)]
structure LastOK (ll : List (List Sp)) (a x : Int) : Prop where
  top : x ≤ 1114111
  le : ∀ l ∈ ll, ∀ s ∈ l, s.has a → x ≤ s.to
  ge : ∀ i, i ≤ 1114111 → (∀ l ∈ ll, ∀ s ∈ l, s.has a → i ≤ s.to) → i ≤ x
theorem LastOK.nil (a : Int) : LastOK [] a 1114111 := ⟨Int.le_refl _, fun l hl => (by cases hl), fun i hi _ => hi⟩
theorem LastOK.some {ll : List (List Sp)} {l : List Sp} {a x : Int} (h : LastOK ll a x) {s : Sp} (hs : s ∈ l) (ha : s.has a) (hg : Good l) : LastOK (ll ++ [l]) a (if s.to < x then s.to else x) := by
  have uniq : ∀ y ∈ l, y.has a → y.to = s.to := fun y hy hya => by
    obtain ⟨i, hi, rfl⟩ := List.getElem_of_mem hy
    obtain ⟨j, hj, rfl⟩ := List.getElem_of_mem hs
    have hr := List.pairwise_iff_getElem.1 hg.1
    unfold Sp.has at hya ha
    rcases Nat.lt_trichotomy i j with hij | hij | hij
    · have := hr i j hi hj hij; omega
    · subst hij; rfl
    · have := hr j i hj hi hij; omega
  have h1 := h.top
  refine ⟨by split <;> omega, fun m hm y hy hya => ?_, fun i hi h2 => ?_⟩
  · rcases List.mem_append.1 hm with hm | hm
    · have := h.le m hm y hy hya; split <;> omega
    · simp only [List.mem_singleton] at hm; subst hm
      have := uniq y hy hya; split <;> omega
  · have g1 := h.ge i hi fun m hm => h2 m (List.mem_append_left _ hm)
    have g2 := h2 l (by simp) s hs ha
    split <;> omega
theorem LastOK.none {ll : List (List Sp)} {l : List Sp} {a x : Int} (h : LastOK ll a x) (hn : ∀ s ∈ l, ¬ s.has a) : LastOK (ll ++ [l]) a x := by
  refine ⟨h.top, fun m hm y hy hya => ?_, fun i hi h2 => h.ge i hi fun m hm => h2 m (List.mem_append_left _ hm)⟩
  rcases List.mem_append.1 hm with hm | hm
  · exact h.le m hm y hy hya
  · simp only [List.mem_singleton] at hm; subst hm; exact absurd hya (hn y hy)
structure PiecesOK (rows : List Row) (done : List Int) (P : List (Pc Fl)) : Prop where
  sound : ∀ p ∈ P, (0 ≤ p.fr ∧ p.fr ≤ 1114112) ∧ ∀ i, p.fr ≤ i → i ≤ p.to → p.v = cW rows i
  all : ∀ a ∈ done, cW rows a ≠ (false, false, false, false) → ∃ p ∈ P, p.fr = a ∧ ∀ i, a ≤ i → i ≤ 1114111 → (∀ l ∈ l4 rows, ∀ s ∈ l, (s.has i ↔ s.has a) ∧ (s.fr > a → s.fr > i)) → i ≤ p.to
theorem PiecesOK.nil (rows : List Row) : PiecesOK rows [] [] := ⟨fun p hp => (by cases hp), fun a ha => (by cases ha)⟩
theorem PiecesOK.skip {rows : List Row} {done : List Int} {P : List (Pc Fl)} (h : PiecesOK rows done P) {a : Int} (ha : cW rows a = (false, false, false, false)) : PiecesOK rows (done ++ [a]) P := by
  refine ⟨h.sound, fun b hb hne => ?_⟩
  rcases List.mem_append.1 hb with hb | hb
  · exact h.all b hb hne
  · simp only [List.mem_singleton] at hb; subst hb; exact absurd ha hne
theorem PiecesOK.put {rows : List Row} {done : List Int} {P : List (Pc Fl)} (h : PiecesOK rows done P) {a x : Int} (h0 : 0 ≤ a) (h1 : a ≤ 1114112) (hx : LastOK (l4 rows) a x) : PiecesOK rows (done ++ [a]) (P ++ [⟨a, c9 a x (l4 rows).flatten, cW rows a⟩]) := by
  refine ⟨fun p hp => ?_, fun b hb hne => ?_⟩
  · rcases List.mem_append.1 hp with hp | hp
    · exact h.sound p hp
    · simp only [List.mem_singleton] at hp; subst hp
      refine ⟨⟨h0, h1⟩, fun i hi1 hi2 => (zed fun l hl s hs => ?_).symm⟩
      have e1 := oZ (a := a) (l := (l4 rows).flatten) (last := x)
      have e2 := xR (a := a) (l := (l4 rows).flatten) (last := x) s (List.mem_flatten.2 ⟨l, hl, hs⟩)
      have e3 := hx.le l hl s hs
      simp only at hi1 hi2
      unfold Sp.has at e3 ⊢
      constructor
      · rintro ⟨q1, q2⟩
        by_cases hc : s.fr > a
        · have := e2 hc; omega
        · omega
      · rintro ⟨q1, q2⟩
        have := e3 ⟨q1, q2⟩
        omega
  · rcases List.mem_append.1 hb with hb | hb
    · obtain ⟨p, hp, q⟩ := h.all b hb hne
      exact ⟨p, List.mem_append_left _ hp, q⟩
    · simp only [List.mem_singleton] at hb; subst hb
      refine ⟨_, List.mem_append_right _ (List.mem_singleton.2 rfl), rfl, fun i hi1 hi2 hc => ?_⟩
      refine xS (hx.ge i hi2 fun l hl s hs hsb => ?_) fun s hs hgt => ?_
      · exact (((hc l hl s hs).1).2 hsb).2
      · obtain ⟨l, hl, hs⟩ := List.mem_flatten.1 hs
        exact (hc l hl s hs).2 hgt
theorem PiecesOK.val {rows : List Row} {t : List Int} {P : List (Pc Fl)} (h : PiecesOK rows t P) (ht : ∀ x, x ∈ t ↔ jS (l4 rows) x) {i : Int} (h0 : 0 ≤ i) (h1 : i ≤ 1114111) : eB P (false, false, false, false) i = cW rows i := by
  refine sF (F := cW rows) (fun p hp q1 q2 => (h.sound p hp).2 i q1 q2) fun hn => ?_
  obtain ⟨a, ha, hai, hcut⟩ := zlo (t := t) (i := i) ⟨0, (ht 0).2 (.inl rfl), h0⟩
  have hcut' : ∀ x, jS (l4 rows) x → x ≤ a ∨ i < x := fun x hx => hcut x ((ht x).2 hx)
  have hsame : ∀ l ∈ l4 rows, ∀ s ∈ l, s.has i ↔ s.has a := fun l hl s hs => zln hai hcut' hl hs
  by_cases hz : cW rows a = (false, false, false, false)
  · rw [zed hsame, hz]
  · obtain ⟨p, hp, q1, q2⟩ := h.all a ha hz
    refine absurd ⟨by omega, q2 i hai h1 fun l hl s hs => ⟨hsame l hl s hs, fun hg => ?_⟩⟩ (hn p hp)
    have := hcut' s.fr (.inr ⟨l, hl, s, hs, .inl rfl⟩)
    omega
end Go.Eng.Rows


set_option maxRecDepth 100000
set_option linter.constructorNameAsVariable false
namespace Go.Eng
open Go Go.Proofs
def jT (n f : Bool) (es : LL) (z i last : Int) (x3 : Int) (x14 : Int) : Env × Hp := ([(1, LV.pv (PV.int IntKind.i64 z)), (2, LV.pv (PV.int IntKind.i64 i)), (3, .pv (.int IntKind.i64 x3)), (12, LV.pv (PV.sl n f es)), (13, LV.pv (PV.int IntKind.i64 ↑es.length)), (14, .pv (.int IntKind.i64 x14))], [])
def xT (n f : Bool) (es : LL) (z i last : Int) (J : Int → Int → Prop) (μ : Int → Int → Nat) (R : PV → Prop) : Prop :=
 (aB (jT n f es z i last last (0 : Int)) ∧ J last (0 : Int)) ∧ ∀ (x3 x14 : Int), J x3 x14 → if decide (x14 < (↑es.length : Int)) = true then aO es x14 3 ∧ ∃ (n1 : Int), (es.getD x14.toNat []).head? = some (Z6 n1) ∧ ∃ (n2 : Int),
 (es.getD x14.toNat []).tail.head? = some (Z6 n2) ∧ ∃ (n3 : Int), (es.getD x14.toNat []).tail.tail.head? = some (Z6 n3) ∧ if decide (n1 ≤ i) = true then if decide (i ≤ n2) = true then R (PV.tup [Z6 n3, Z6 (if x3 < n2 then x3 else n2)]) else
 if decide (i < n1) = true then if decide (n1 ≤ x3) = true then aB (jT n f es z i last (IntKind.i64.wrap (n1 - 1)) (IntKind.i64.wrap (x14 + 1))) ∧ J (IntKind.i64.wrap (n1 - 1)) (IntKind.i64.wrap (x14 + 1)) ∧ μ (IntKind.i64.wrap (n1 -
 1)) (IntKind.i64.wrap (x14 + 1)) < μ x3 x14 else aB (jT n f es z i last x3 (IntKind.i64.wrap (x14 + 1))) ∧ J x3 (IntKind.i64.wrap (x14 + 1)) ∧ μ x3 (IntKind.i64.wrap (x14 + 1)) < μ x3 x14 else aB (jT n f es z i last x3
 (IntKind.i64.wrap (x14 + 1))) ∧ J x3 (IntKind.i64.wrap (x14 + 1)) ∧ μ x3 (IntKind.i64.wrap (x14 + 1)) < μ x3 x14 else if decide (i < n1) = true then if decide (n1 ≤ x3) = true then aB (jT n f es z i last (IntKind.i64.wrap (n1 - 1))
 (IntKind.i64.wrap (x14 + 1))) ∧ J (IntKind.i64.wrap (n1 - 1)) (IntKind.i64.wrap (x14 + 1)) ∧ μ (IntKind.i64.wrap (n1 - 1)) (IntKind.i64.wrap (x14 + 1)) < μ x3 x14 else aB (jT n f es z i last x3 (IntKind.i64.wrap (x14 + 1))) ∧ J x3
 (IntKind.i64.wrap (x14 + 1)) ∧ μ x3 (IntKind.i64.wrap (x14 + 1)) < μ x3 x14 else aB (jT n f es z i last x3 (IntKind.i64.wrap (x14 + 1))) ∧ J x3 (IntKind.i64.wrap (x14 + 1)) ∧ μ x3 (IntKind.i64.wrap (x14 + 1)) < μ x3 x14 else R (PV.tup
 [Z6 z, Z6 x3])
theorem zlp (n f : Bool) (es : LL) (z i last : Int) (J : Int → Int → Prop) (μ : Int → Int → Nat) {R : PV → Prop} (h : xT n f es z i last J μ R) : PCall Try.prog 83 [.sl n f es, .int .i64 z, .int .i64 i, .int .i64 last] R :=
  PCall.of Try.func83 (by kernel_rfl) (by kernel_rfl) (Nat.le_of_ble_eq_true (by kernel_rfl)) (Eq.mpr (by kernel_rfl : aW Try.prog (fun _ => none) Try.f83 [0, 1, 2, 3, 8, 9, 11, 12, 13, 14, 15, 18, 35] (fun zz_ => match zz_ with | 2 => some ⟨Int × Int, fun s => jT n f es z i last s.1 s.2, fun _ s => J s.1 s.2, fun s => μ s.1 s.2, fun e h => (gI e 3, gI e 14), [], [1, 2, 3, 12, 13, 14], [], fun p => ∀ (x3 : Int) (x14 : Int), p (x3, x14), fun p h s => h s.1 s.2⟩ | _ => none) (Try.f83.body.getD .skip) [.sl n f es, .int .i64 z, .int .i64 i, .int .i64 last] R = xT n f es z i last J μ R) h)

def xU (s : Int) (n f n2 f2 : Bool) (es bs : LL) (i : Int) (R : PV → Prop) : Prop :=
 if decide (i < 0) = true then R (Z6 0) else ∃ (n1 : Int), some (Z6 s) = some (Z6 n1) ∧ if decide (i ≥ n1) = true then R (Z6 0) else ∃ (n3 : Bool), ∃ (f1 : Bool), ∃ (es1 : LL), some (PV.sl n2 f2 bs) = some (PV.sl n3 f1 es1) ∧ ∃ (n4 : Bool),
 ∃ (f3 : Bool), ∃ (es2 : LL), some (PV.sl n f es) = some (PV.sl n4 f3 es2) ∧ aO es2 (IntKind.i64.wrap (i.tdiv (128 : Int))) 1 ∧ ∃ (n5 : Int), (es2.getD (IntKind.i64.wrap (i.tdiv (128 : Int))).toNat []).head? = some (Z6 n5) ∧ aO es1 n5
 128 ∧ ((0 : Int) ≤ i.tmod (128 : Int) ∧ i.tmod (128 : Int) < (↑128 : Int)) ∧ ∃ (n6 : Int), (List.drop ((i.tmod (128 : Int)).toNat * (1 : Nat)) (es1.getD n5.toNat [])).head? = some (Z6 n6) ∧ R (Z6 n6)
theorem zlq (s : Int) (n f n2 f2 : Bool) (es bs : LL) (i : Int) {R : PV → Prop} (h : xU s n f n2 f2 es bs i R) : PCall Try.prog 75 [.ptr [.int .i64 s, .sl n f es, .sl n2 f2 bs], .int .i64 i] R :=
  PCall.of Try.func75 (by kernel_rfl) (by kernel_rfl) (Nat.le_of_ble_eq_true (by kernel_rfl)) (Eq.mpr (by kernel_rfl : aW Try.prog (fun _ => none) Try.f75 [0, 1, 4, 5, 19] (fun _ => none) (Try.f75.body.getD .skip) [.ptr [.int .i64 s, .sl n f es, .sl n2 f2 bs], .int .i64 i] R = xU s n f n2 f2 es bs i R) h)

def xV (sz : Int) (kn ev : List (PV × PV)) (ixm ixn bkm bkn : Bool) (ix bk : LL) (b : List PV) (R : LV → Hp → Prop) : Prop :=
 128 ≤ (List.drop 0 b).length ∧ cA Try.prog 145 kn ∧ aX Try.prog 145 (PV.agg (List.take 128 (List.drop 0 b))) = true ∧ (∀ (v : PV), bS (PV.agg (List.take 128 (List.drop 0 b))) kn = some v → ∃ (n : Int), v = Z6 n ∧ R (Y6 n) [Ob.box
 [LV.box 1 0, LV.mp 2, LV.mp 3], Ob.box [Y6 sz, LV.own 4, LV.own 5], Ob.mp kn, Ob.mp ev, Ob.sl (3, 1) ixm ixn ix, Ob.sl (145, 128) bkm bkn bk]) ∧ (bS (PV.agg (List.take 128 (List.drop 0 b))) kn = none → 128 ≤ (List.drop 0 b).length ∧
 cA Try.prog 145 kn ∧ aX Try.prog 145 (PV.agg (List.take 128 (List.drop 0 b))) = true ∧ 128 ≤ (List.drop 0 b).length ∧ ((List.take 128 (List.drop 0 b)).length = 128 ∧ (aR [List.take 128 (List.drop 0 b)] 128 ∧ (bk.length + 1) * 1024
 ≤ 140737488355328) ∧ R (Y6 (↑bk.length : Int)) [Ob.box [LV.box 1 0, LV.mp 2, LV.mp 3], Ob.box [Y6 sz, LV.own 4, LV.own 5], Ob.mp (aP (PV.agg (List.take 128 (List.drop 0 b))) (Z6 (↑bk.length : Int)) kn), Ob.mp ev, Ob.sl (3, 1) ixm ixn
 ix, Ob.sl (145, 128) true (bkn && false) (bk ++ [List.take 128 (List.drop 0 b)])]) ∧ (List.take 128 (List.drop 0 b)).length = 128 ∧ Dup ((aR [List.take 128 (List.drop 0 b)] 128 ∧ (bk.length + 1) * 1024 ≤ 140737488355328) ∧ R (Y6
 (↑bk.length : Int)) [Ob.box [LV.box 1 0, LV.mp 2, LV.mp 3], Ob.box [Y6 sz, LV.own 4, LV.own 5], Ob.mp (aP (PV.agg (List.take 128 (List.drop 0 b))) (Z6 (↑bk.length : Int)) kn), Ob.mp ev, Ob.sl ((3 : Nat), 1) ixm ixn ix, Ob.sl (145, 128)
 true (bkn && false) (bk ++ [List.take 128 (List.drop 0 b)])]))
theorem zlr (sz : Int) (kn ev : List (PV × PV)) (ixm ixn bkm bkn : Bool) (ix bk : LL) (b : List PV) {R : LV → Hp → Prop} (h : xV sz kn ev ixm ixn bkm bkn ix bk b R) : ACall Try.prog 85 [.box 0 0, .pv (.agg b)] [.box [.box 1 0, .mp 2, .mp 3], .box [.pv (.int .i64 sz), .own 4, .own 5], .mp kn, .mp ev, .sl (3, 1) ixm ixn ix, .sl (145, 128) bkm bkn bk] R :=
  ACall.of Try.func85 (by kernel_rfl) (by kernel_rfl) (Nat.le_of_ble_eq_true (by kernel_rfl)) (Eq.mpr (by kernel_rfl : dH Try.prog (fun _ => none) Try.f85 [0, 1, 3, 4, 5, 6, 17] (fun _ => none) [0,1,2,3,4,5] (Try.f85.body.getD .skip) [.box 0 0, .pv (.agg b)] [.box [.box 1 0, .mp 2, .mp 3], .box [.pv (.int .i64 sz), .own 4, .own 5], .mp kn, .mp ev, .sl (3, 1) ixm ixn ix, .sl (145, 128) bkm bkn bk] R = xV sz kn ev ixm ixn bkm bkn ix bk b R) h)

def xW (sz : Int) (kn ev : List (PV × PV)) (ixm ixn bkm bkn : Bool) (ix bk : LL) (v : Int) (x20 : Int) (m_2 : List (PV × PV)) (m_3 : List (PV × PV)) (c_6 : List PV) : Env × Hp := ([(0, LV.box 0 0), (1, LV.pv (PV.int IntKind.i64 v)), (7, LV.box 6 0), (20, .pv (.int IntKind.i64 x20))], [.box [LV.box 1 0, LV.mp 2, LV.mp 3], .box [LV.pv (PV.int IntKind.i64 sz), LV.own 4, LV.own 5], .mp m_2, .mp m_3, .sl (3, 1) ixm ixn ix, .sl (145, 128) bkm bkn bk, .arr c_6])
def xX (sz : Int) (kn ev : List (PV × PV)) (ixm ixn bkm bkn : Bool) (ix bk : LL) (v : Int) (J : Int → (List (PV × PV)) → (List (PV × PV)) → (List PV) → Prop) (μ : Int → (List (PV × PV)) → (List (PV × PV)) → (List PV) → Nat) (R : LV → Hp → Prop) : Prop :=
 eT .i64 ev ∧ (∀ (v1 : PV), bS (Z6 v) ev = some v1 → ∃ (n : Int), v1 = Z6 n ∧ R (Y6 n) [Ob.box [LV.box 1 0, LV.mp 2, LV.mp 3], Ob.box [Y6 sz, LV.own 4, LV.own 5], Ob.mp kn, Ob.mp ev, Ob.sl (3, 1) ixm ixn ix, Ob.sl (145, 128) bkm bkn
 bk]) ∧ (bS (Z6 v) ev = none → (SameSt ([(0, LV.box 0 0), (1, Y6 v), (7, LV.box 6 0), (20, Y6 0)], [Ob.box [LV.box 1 0, LV.mp 2, LV.mp 3], Ob.box [Y6 sz, LV.own 4, LV.own 5], Ob.mp kn, Ob.mp ev, Ob.sl (3, 1) (bif false then true else
 ixm) ixn ix, Ob.sl (145, (128 : Nat)) (bif false then true else bkm) bkn bk, Ob.arr (List.replicate 128 (Z6 0))]) (xW sz kn ev ixm ixn bkm bkn ix bk v (0 : Int) kn ev (List.replicate 128 (Z6 0))) ∧ J (0 : Int) kn ev (List.replicate 128
 (Z6 0))) ∧ ∀ (x20 : Int) (m_2 m_3 : List (PV × PV)) (c_6 : List PV), J x20 m_2 m_3 c_6 → if decide (x20 < 128) = true then ((0 : Int) ≤ x20 ∧ x20 < (↑128 : Int)) ∧ (1 = 1 ∧ 0 + x20.toNat * 1 + 1 ≤ c_6.length) ∧ SameSt ([(0, LV.box 0 0), (1,
 Y6 v), (7, LV.box 6 0), (20, LV.pv (Z6 (IntKind.i64.wrap (x20 + 1))))], [Ob.box [LV.box 1 0, LV.mp 2, LV.mp 3], Ob.box [Y6 sz, LV.own 4, LV.own 5], Ob.mp m_2, Ob.mp m_3, Ob.sl (3, 1) (bif false then true else ixm) ixn ix, Ob.sl (145, 128)
 (bif false then true else bkm) bkn bk, Ob.arr (aL c_6 (0 + x20.toNat * 1) [Z6 v])]) (xW sz kn ev ixm ixn bkm bkn ix bk v (IntKind.i64.wrap (x20 + 1)) m_2 m_3 (aL c_6 (0 + x20.toNat * 1) [Z6 v])) ∧ J (IntKind.i64.wrap (x20 + 1)) m_2 m_3
 (aL c_6 (0 + x20.toNat * 1) [Z6 v]) ∧ μ (IntKind.i64.wrap (x20 + 1)) m_2 m_3 (aL c_6 (0 + x20.toNat * 1) [Z6 v]) < μ x20 m_2 m_3 c_6 else 128 ≤ (List.drop 0 c_6).length ∧ ACall Try.prog 85 [LV.box 0 0, LV.pv (PV.agg (List.take 128
 (List.drop 0 c_6)))] [Ob.box [LV.box 1 0, LV.mp 2, LV.mp 3], Ob.box [Y6 sz, LV.own 4, LV.own 5], Ob.mp m_2, Ob.mp m_3, Ob.sl (3, 1) false ixn ix, Ob.sl (145, 128) false bkn bk] fun (r : LV) (h' : Hp) ↦ ∃ (t : Int × List (PV × PV) × Bool ×
 LL), (r = Y6 t.1 ∧ h' = [Ob.box [LV.box 1 0, LV.mp 2, LV.mp 3], Ob.box [Y6 sz, LV.own 4, LV.own 5], Ob.mp t.snd.fst, Ob.mp m_3, Ob.sl (3, 1) false ixn ix, Ob.sl (145, (128 : Nat)) true t.snd.snd.fst t.snd.snd.snd]) ∧ (True ∧ ((3, 1) = (3,
 1) ∧ ixn = ixn ∧ ix.length = ix.length) ∧ True ∧ True ∧ True ∧ True ∧ True) ∧ eT .i64 m_3 ∧ R (Y6 t.1) [Ob.box [LV.box 1 0, LV.mp 2, LV.mp 3], Ob.box [Y6 sz, LV.own 4, LV.own 5], Ob.mp t.snd.fst, Ob.mp (aP (Z6 v) (Z6 t.1) m_3),
 Ob.sl (3, 1) (ixm || false) ixn ix, Ob.sl (145, 128) (bkm || true) t.snd.snd.fst t.snd.snd.snd])
theorem zls (sz : Int) (kn ev : List (PV × PV)) (ixm ixn bkm bkn : Bool) (ix bk : LL) (v : Int) (J : Int → (List (PV × PV)) → (List (PV × PV)) → (List PV) → Prop) (μ : Int → (List (PV × PV)) → (List (PV × PV)) → (List PV) → Nat) {R : LV → Hp → Prop} (h : xX sz kn ev ixm ixn bkm bkn ix bk v J μ R) : ACall Try.prog 84 [.box 0 0, .pv (.int .i64 v)] [.box [.box 1 0, .mp 2, .mp 3], .box [.pv (.int .i64 sz), .own 4, .own 5], .mp kn, .mp ev, .sl (3, 1) ixm ixn ix, .sl (145, 128) bkm bkn bk] R :=
  ACall.of Try.func84 (by kernel_rfl) (by kernel_rfl) (Nat.le_of_ble_eq_true (by kernel_rfl)) (Eq.mpr (by kernel_rfl : dH Try.prog (fun zz_ => match zz_ with | 85 => some ⟨Int × List (PV × PV) × Bool × LL, fun _ hs t => (.pv (.int .i64 t.1), match hs with | [m, r, .mp _, ev, ix, .sl a _ _ _] => [m, r, .mp t.2.1, ev, ix, .sl a true t.2.2.1 t.2.2.2] | h => h), none⟩ | _ => none) Try.f84 [0, 1, 4, 5, 6, 7, 8, 19, 20, 21] (fun zz_ => match zz_ with | 5 => some ⟨Int × (List (PV × PV)) × (List (PV × PV)) × (List PV), fun s => xW sz kn ev ixm ixn bkm bkn ix bk v s.1 s.2.1 s.2.2.1 s.2.2.2, fun _ s => J s.1 s.2.1 s.2.2.1 s.2.2.2, fun s => μ s.1 s.2.1 s.2.2.1 s.2.2.2, fun e h => (gI e 20, oM h 2, oM h 3, oA h 6), [], [0, 1, 7, 20], [], fun p => ∀ (x20 : Int) (m_2 : List (PV × PV)) (m_3 : List (PV × PV)) (c_6 : List PV), p (x20, m_2, m_3, c_6), fun p h s => h s.1 s.2.1 s.2.2.1 s.2.2.2⟩ | _ => none) [0,1,2,3,4,5] (Try.f84.body.getD .skip) [.box 0 0, .pv (.int .i64 v)] [.box [.box 1 0, .mp 2, .mp 3], .box [.pv (.int .i64 sz), .own 4, .own 5], .mp kn, .mp ev, .sl (3, 1) ixm ixn ix, .sl (145, 128) bkm bkn bk] R = xX sz kn ev ixm ixn bkm bkn ix bk v J μ R) h)

def jU (sz z : Int) (n f : Bool) (es : LL) (x9 : Int) (x10 : Int) (x11 : Int) (n_2 : Bool) (s_2 : LL) (n_3 : Bool) (s_3 : LL) (m_4 : List (PV × PV)) (m_5 : List (PV × PV)) : Env × Hp := ([(0, LV.pv (PV.int IntKind.i64 sz)), (1, LV.pv (PV.int IntKind.i64 z)), (2, LV.pv (PV.sl n f es)), (7, LV.box 0 0), (8, LV.box 1 0), (9, .pv (.int IntKind.i64 x9)), (10, .pv (.int IntKind.i64 x10)), (11, .pv (.int IntKind.i64 x11))], [.box [LV.pv (PV.int IntKind.i64 sz), LV.own 2, LV.own 3], .box [LV.box 0 0, LV.mp 4, LV.mp 5], .sl (3, 1) true n_2 s_2, .sl (145, 128) true n_3 s_3, .mp m_4, .mp m_5])
def o0 (sz z : Int) (n f : Bool) (es : LL) (x9 : Int) (x10 : Int) (x11 : Int) (x13 : Int) (n_2 : Bool) (s_2 : LL) (n_3 : Bool) (s_3 : LL) (m_4 : List (PV × PV)) (m_5 : List (PV × PV)) : Env × Hp := ([(0, LV.pv (PV.int IntKind.i64 sz)), (1, LV.pv (PV.int IntKind.i64 z)), (2, LV.pv (PV.sl n f es)), (7, LV.box 0 0), (8, LV.box 1 0), (9, .pv (.int IntKind.i64 x9)), (10, .pv (.int IntKind.i64 x10)), (11, .pv (.int IntKind.i64 x11)), (13, .pv (.int IntKind.i64 x13))], [.box [LV.pv (PV.int IntKind.i64 sz), LV.own 2, LV.own 3], .box [LV.box 0 0, LV.mp 4, LV.mp 5], .sl (3, 1) true n_2 s_2, .sl (145, 128) true n_3 s_3, .mp m_4, .mp m_5])
def kY (sz z : Int) (n f : Bool) (es : LL) (x9 : Int) (x10 : Int) (x11 : Int) (x88 : Int) (c_2 : List PV) (n_3 : Bool) (s_3 : LL) (n_4 : Bool) (s_4 : LL) (m_5 : List (PV × PV)) (m_6 : List (PV × PV)) : Env × Hp := ([(0, LV.pv (PV.int IntKind.i64 sz)), (1, LV.pv (PV.int IntKind.i64 z)), (2, LV.pv (PV.sl n f es)), (7, LV.box 0 0), (8, LV.box 1 0), (9, .pv (.int IntKind.i64 x9)), (10, .pv (.int IntKind.i64 x10)), (11, .pv (.int IntKind.i64 x11)), (14, LV.box 2 0), (88, .pv (.int IntKind.i64 x88))], [.box [LV.pv (PV.int IntKind.i64 sz), LV.own 3, LV.own 4], .box [LV.box 0 0, LV.mp 5, LV.mp 6], .arr c_2, .sl (3, 1) true n_3 s_3, .sl (145, 128) true n_4 s_4, .mp m_5, .mp m_6])
def xY (sz z : Int) (n f : Bool) (es : LL) (J : Int → Int → Int → Bool → (LL) → Bool → (LL) → (List (PV × PV)) → (List (PV × PV)) → Prop) (μ : Int → Int → Int → Bool → (LL) → Bool → (LL) → (List (PV × PV)) → (List (PV × PV)) → Nat) (J2 : Int → Int → Int → Int → Bool → (LL) → Bool → (LL) → (List (PV × PV)) → (List (PV × PV)) → Int → Int → Int → Int → Bool → (LL) → Bool → (LL) → (List (PV × PV)) → (List (PV × PV)) → Prop) (μ2 : Int → Int → Int → Int → Bool → (LL) → Bool → (LL) → (List (PV × PV)) → (List (PV × PV)) → Nat) (J3 : Int → Int → Int → Int → (List PV) → Bool → (LL) → Bool → (LL) → (List (PV × PV)) → (List (PV × PV)) → Int → Int → Int → Int → (List PV) → Bool → (LL) → Bool → (LL) → (List (PV × PV)) → (List (PV × PV)) → Prop) (μ3 : Int → Int → Int → Int → (List PV) → Bool → (LL) → Bool → (LL) → (List (PV × PV)) → (List (PV × PV)) → Nat) (R : PV → Prop) : Prop :=
 if decide (sz < 1) = true then R PV.nilp else PCall Try.prog 83 [PV.sl n f es, Z6 z, Z6 0, Z6 (IntKind.i64.wrap (sz - 1))] fun (v : PV) ↦ ∃ (vs : List PV), v = PV.tup vs ∧ vs.length = (2 : Nat) ∧ ∃ (x : PV), vs.head? = some x ∧ ∃ (n1 :
 Int), x = Z6 n1 ∧ ∃ (x1 : PV), vs.tail.head? = some x1 ∧ ∃ (n2 : Int), x1 = Z6 n2 ∧ (aB (jU sz z n f es n1 n2 (0 : Int) true [] true [] [] []) ∧ J n1 n2 (0 : Int) true [] true [] [] []) ∧ ∀ (x9 x10 x11 : Int) (n_2 : Bool) (s_2 : LL)
 (n_3 : Bool) (s_3 : LL) (m_4 m_5 : List (PV × PV)), J x9 x10 x11 n_2 s_2 n_3 s_3 m_4 m_5 → if decide (x11 < sz) = true then if decide (x11 > x10) = true then PCall Try.prog 83 [PV.sl n f es, Z6 z, Z6 x11, Z6 (IntKind.i64.wrap (sz - 1))] fun
 (v1 : PV) ↦ ∃ (vs1 : List PV), v1 = PV.tup vs1 ∧ vs1.length = 2 ∧ ∃ (x2 : PV), vs1.head? = some x2 ∧ ∃ (n3 : Int), x2 = Z6 n3 ∧ ∃ (x3 : PV), vs1.tail.head? = some x3 ∧ ∃ (n4 : Int), x3 = Z6 n4 ∧ if decide (n4 ≥ IntKind.i64.wrap ((if sz <
 IntKind.i64.wrap (x11 + 128) then sz else IntKind.i64.wrap (x11 + 128)) - 1)) = true then ACall Try.prog 84 [LV.box 0 0, Y6 n3] [Ob.box [LV.box 1 0, LV.mp 2, LV.mp 3], Ob.box [Y6 sz, LV.own 4, LV.own 5], Ob.mp m_4, Ob.mp m_5, Ob.sl (3, 1)
 false n_2 s_2, Ob.sl (145, 128) false n_3 s_3] fun (r : LV) (h' : Hp) ↦ ∃ (t : Int × List (PV × PV) × List (PV × PV) × Bool × LL), (r = Y6 t.1 ∧ h' = [Ob.box [LV.box 1 0, LV.mp 2, LV.mp 3], Ob.box [Y6 sz, LV.own 4, LV.own 5], Ob.mp
 t.snd.fst, Ob.mp t.snd.snd.fst, Ob.sl (3, 1) false n_2 s_2, Ob.sl (145, 128) true t.snd.snd.snd.fst t.snd.snd.snd.snd]) ∧ (True ∧ ((3, 1) = (3, 1) ∧ n_2 = n_2 ∧ s_2.length = s_2.length) ∧ True ∧ True ∧ True ∧ True ∧ True) ∧ (aB (o0
 sz z n f es n3 n4 x11 t.1 n_2 s_2 t.snd.snd.snd.fst t.snd.snd.snd.snd t.snd.fst t.snd.snd.fst) ∧ J2 n3 n4 x11 t.1 n_2 s_2 t.snd.snd.snd.fst t.snd.snd.snd.snd t.snd.fst t.snd.snd.fst n3 n4 x11 t.1 n_2 s_2 t.snd.snd.snd.fst t.snd.snd.snd.snd
 t.snd.fst t.snd.snd.fst) ∧ ∀ (x91 x101 x111 x13 : Int) (n_21 : Bool) (s_21 : LL) (n_31 : Bool) (s_31 : LL) (m_41 m_51 : List (PV × PV)), J2 n3 n4 x11 t.1 n_2 s_2 t.snd.snd.snd.fst t.snd.snd.snd.snd t.snd.fst t.snd.snd.fst x91 x101 x111 x13
 n_21 s_21 n_31 s_31 m_41 m_51 → if (decide (x111 < sz) && decide (x101 ≥ IntKind.i64.wrap ((if sz < IntKind.i64.wrap (x111 + 128) then sz else IntKind.i64.wrap (x111 + 128)) - 1))) = true then (aR [[Z6 x13]] 1 ∧ (s_21.length + 1) * 8 ≤
 140737488355328) ∧ aB (o0 sz z n f es x91 x101 (IntKind.i64.wrap (x111 + 128)) x13 (n_21 && false) (s_21 ++ [[Z6 x13]]) n_31 s_31 m_41 m_51) ∧ J2 n3 n4 x11 t.1 n_2 s_2 t.snd.snd.snd.fst t.snd.snd.snd.snd t.snd.fst t.snd.snd.fst x91
 x101 (IntKind.i64.wrap (x111 + 128)) x13 (n_21 && false) (s_21 ++ [[Z6 x13]]) n_31 s_31 m_41 m_51 ∧ μ2 x91 x101 (IntKind.i64.wrap (x111 + 128)) x13 (n_21 && false) (s_21 ++ [[Z6 x13]]) n_31 s_31 m_41 m_51 < μ2 x91 x101 x111 x13 n_21 s_21
 n_31 s_31 m_41 m_51 else aB (jU sz z n f es x91 x101 (IntKind.i64.wrap (IntKind.i64.wrap (x111 - 128) + 128)) n_21 s_21 n_31 s_31 m_41 m_51) ∧ J x91 x101 (IntKind.i64.wrap (IntKind.i64.wrap (x111 - 128) + 128)) n_21 s_21 n_31 s_31
 m_41 m_51 ∧ μ x91 x101 (IntKind.i64.wrap (IntKind.i64.wrap (x111 - 128) + 128)) n_21 s_21 n_31 s_31 m_41 m_51 < μ x9 x10 x11 n_2 s_2 n_3 s_3 m_4 m_5 else (aB (kY sz z n f es n3 n4 x11 (0 : Int) (List.replicate 128 (Z6 0)) n_2 s_2 n_3
 s_3 m_4 m_5) ∧ J3 n3 n4 x11 (0 : Int) (List.replicate 128 (Z6 0)) n_2 s_2 n_3 s_3 m_4 m_5 n3 n4 x11 (0 : Int) (List.replicate 128 (Z6 0)) n_2 s_2 n_3 s_3 m_4 m_5) ∧ ∀ (x91 x101 x111 x88 : Int) (c_2 : List PV) (n_31 : Bool) (s_31 : LL) (n_4
 : Bool) (s_4 : LL) (m_51 m_6 : List (PV × PV)), J3 n3 n4 x11 (0 : Int) (List.replicate 128 (Z6 0)) n_2 s_2 n_3 s_3 m_4 m_5 x91 x101 x111 x88 c_2 n_31 s_31 n_4 s_4 m_51 m_6 → if decide (x88 < 128) = true then if (decide (IntKind.i64.wrap
 (x111 + x88) > x101) && decide (IntKind.i64.wrap (x111 + x88) < sz)) = true then PCall Try.prog 83 [PV.sl n f es, Z6 z, Z6 (IntKind.i64.wrap (x111 + x88)), Z6 (IntKind.i64.wrap (sz - 1))] fun (v2 : PV) ↦ ∃ (vs2 : List PV), v2 = PV.tup vs2 ∧
 vs2.length = 2 ∧ ∃ (x4 : PV), vs2.head? = some x4 ∧ ∃ (n5 : Int), x4 = Z6 n5 ∧ ∃ (x5 : PV), vs2.tail.head? = some x5 ∧ ∃ (n6 : Int), x5 = Z6 n6 ∧ ((0 : Int) ≤ x88 ∧ x88 < (↑128 : Int)) ∧ (1 = 1 ∧ 0 + x88.toNat * 1 + 1 ≤ c_2.length) ∧ aB
 (kY sz z n f es n5 n6 x111 (IntKind.i64.wrap (x88 + 1)) (aL c_2 (0 + x88.toNat * 1) [Z6 n5]) n_31 s_31 n_4 s_4 m_51 m_6) ∧ J3 n3 n4 x11 (0 : Int) (List.replicate 128 (Z6 0)) n_2 s_2 n_3 s_3 m_4 m_5 n5 n6 x111 (IntKind.i64.wrap (x88 +
 1)) (aL c_2 (0 + x88.toNat * 1) [Z6 n5]) n_31 s_31 n_4 s_4 m_51 m_6 ∧ μ3 n5 n6 x111 (IntKind.i64.wrap (x88 + 1)) (aL c_2 (0 + x88.toNat * 1) [Z6 n5]) n_31 s_31 n_4 s_4 m_51 m_6 < μ3 x91 x101 x111 x88 c_2 n_31 s_31 n_4 s_4 m_51 m_6 else
 ((0 : Int) ≤ x88 ∧ x88 < (↑128 : Int)) ∧ (1 = 1 ∧ 0 + x88.toNat * 1 + 1 ≤ c_2.length) ∧ aB (kY sz z n f es x91 x101 x111 (IntKind.i64.wrap (x88 + 1)) (aL c_2 (0 + x88.toNat * 1) [Z6 x91]) n_31 s_31 n_4 s_4 m_51 m_6) ∧ J3 n3 n4 x11
 (0 : Int) (List.replicate 128 (Z6 0)) n_2 s_2 n_3 s_3 m_4 m_5 x91 x101 x111 (IntKind.i64.wrap (x88 + 1)) (aL c_2 (0 + x88.toNat * 1) [Z6 x91]) n_31 s_31 n_4 s_4 m_51 m_6 ∧ μ3 x91 x101 x111 (IntKind.i64.wrap (x88 + 1)) (aL c_2 (0 +
 x88.toNat * 1) [Z6 x91]) n_31 s_31 n_4 s_4 m_51 m_6 < μ3 x91 x101 x111 x88 c_2 n_31 s_31 n_4 s_4 m_51 m_6 else 128 ≤ (List.drop 0 c_2).length ∧ (ACall Try.prog 85 [LV.box 0 0, LV.pv (PV.agg (List.take 128 (List.drop 0 c_2)))] [Ob.box
 [LV.box 1 0, LV.mp 2, LV.mp 3], Ob.box [Y6 sz, LV.own 4, LV.own 5], Ob.mp m_51, Ob.mp m_6, Ob.sl (3, 1) false n_31 s_31, Ob.sl (145, 128) false n_4 s_4] fun (r : LV) (h' : Hp) ↦ ∃ (t : Int × List (PV × PV) × Bool × LL), (r = Y6 t.1 ∧ h' =
 [Ob.box [LV.box 1 0, LV.mp 2, LV.mp 3], Ob.box [Y6 sz, LV.own 4, LV.own 5], Ob.mp t.snd.fst, Ob.mp m_6, Ob.sl (3, 1) false n_31 s_31, Ob.sl (145, 128) true t.snd.snd.fst t.snd.snd.snd]) ∧ (True ∧ ((3, 1) = (3, 1) ∧ n_31 = n_31 ∧ s_31.length
 = s_31.length) ∧ True ∧ True ∧ True ∧ True ∧ True) ∧ (aR [[Z6 t.1]] 1 ∧ (s_31.length + 1) * 8 ≤ 140737488355328) ∧ aB (jU sz z n f es x91 x101 (IntKind.i64.wrap (x111 + 128)) (n_31 && false) (s_31 ++ [[Z6 t.1]]) t.snd.snd.fst
 t.snd.snd.snd t.snd.fst m_6) ∧ J x91 x101 (IntKind.i64.wrap (x111 + 128)) (n_31 && false) (s_31 ++ [[Z6 t.1]]) t.snd.snd.fst t.snd.snd.snd t.snd.fst m_6 ∧ μ x91 x101 (IntKind.i64.wrap (x111 + 128)) (n_31 && false) (s_31 ++ [[Z6 t.1]])
 t.snd.snd.fst t.snd.snd.snd t.snd.fst m_6 < μ x9 x10 x11 n_2 s_2 n_3 s_3 m_4 m_5) ∧ ACall Try.prog 85 [LV.box 0 0, LV.pv (PV.agg (List.take 128 (List.drop 0 c_2)))] [Ob.box [LV.box 1 0, LV.mp 2, LV.mp 3], Ob.box [Y6 sz, LV.own 4, LV.own 5],
 Ob.mp m_51, Ob.mp m_6, Ob.sl ((3 : Nat), 1) false n_31 s_31, Ob.sl (145, 128) false n_4 s_4] fun (r : LV) (h' : Hp) ↦ ∃ (t : Int × List (PV × PV) × Bool × LL), (r = Y6 t.1 ∧ h' = [Ob.box [LV.box 1 0, LV.mp 2, LV.mp 3], Ob.box [Y6 sz, LV.own
 4, LV.own 5], Ob.mp t.snd.fst, Ob.mp m_6, Ob.sl (3, 1) false n_31 s_31, Ob.sl (145, 128) true t.snd.snd.fst t.snd.snd.snd]) ∧ (True ∧ ((3, 1) = ((3 : Nat), 1) ∧ n_31 = n_31 ∧ s_31.length = s_31.length) ∧ True ∧ True ∧ True ∧ True ∧ True) ∧
 (aR [[Z6 t.1]] 1 ∧ (s_31.length + 1) * 8 ≤ 140737488355328) ∧ aB (jU sz z n f es x91 x101 (IntKind.i64.wrap (x111 + 128)) (n_31 && false) (s_31 ++ [[Z6 t.1]]) t.snd.snd.fst t.snd.snd.snd t.snd.fst m_6) ∧ J x91 x101 (IntKind.i64.wrap
 (x111 + 128)) (n_31 && false) (s_31 ++ [[Z6 t.1]]) t.snd.snd.fst t.snd.snd.snd t.snd.fst m_6 ∧ μ x91 x101 (IntKind.i64.wrap (x111 + 128)) (n_31 && false) (s_31 ++ [[Z6 t.1]]) t.snd.snd.fst t.snd.snd.snd t.snd.fst m_6 < μ x9 x10 x11 n_2 s_2
 n_3 s_3 m_4 m_5 else if decide (x10 ≥ IntKind.i64.wrap ((if sz < IntKind.i64.wrap (x11 + 128) then sz else IntKind.i64.wrap (x11 + 128)) - 1)) = true then ACall Try.prog 84 [LV.box 0 0, Y6 x9] [Ob.box [LV.box 1 0, LV.mp 2, LV.mp 3], Ob.box
 [Y6 sz, LV.own 4, LV.own 5], Ob.mp m_4, Ob.mp m_5, Ob.sl (3, 1) false n_2 s_2, Ob.sl (145, 128) false n_3 s_3] fun (r : LV) (h' : Hp) ↦ ∃ (t : Int × List (PV × PV) × List (PV × PV) × Bool × LL), (r = Y6 t.1 ∧ h' = [Ob.box [LV.box 1 0, LV.mp
 2, LV.mp 3], Ob.box [Y6 sz, LV.own 4, LV.own 5], Ob.mp t.snd.fst, Ob.mp t.snd.snd.fst, Ob.sl (3, 1) false n_2 s_2, Ob.sl (145, 128) true t.snd.snd.snd.fst t.snd.snd.snd.snd]) ∧ (True ∧ ((3, 1) = (3, 1) ∧ n_2 = n_2 ∧ s_2.length = s_2.length)
 ∧ True ∧ True ∧ True ∧ True ∧ True) ∧ (aB (o0 sz z n f es x9 x10 x11 t.1 n_2 s_2 t.snd.snd.snd.fst t.snd.snd.snd.snd t.snd.fst t.snd.snd.fst) ∧ J2 x9 x10 x11 t.1 n_2 s_2 t.snd.snd.snd.fst t.snd.snd.snd.snd t.snd.fst t.snd.snd.fst x9
 x10 x11 t.1 n_2 s_2 t.snd.snd.snd.fst t.snd.snd.snd.snd t.snd.fst t.snd.snd.fst) ∧ ∀ (x91 x101 x111 x13 : Int) (n_21 : Bool) (s_21 : LL) (n_31 : Bool) (s_31 : LL) (m_41 m_51 : List (PV × PV)), J2 x9 x10 x11 t.1 n_2 s_2 t.snd.snd.snd.fst
 t.snd.snd.snd.snd t.snd.fst t.snd.snd.fst x91 x101 x111 x13 n_21 s_21 n_31 s_31 m_41 m_51 → if (decide (x111 < sz) && decide (x101 ≥ IntKind.i64.wrap ((if sz < IntKind.i64.wrap (x111 + 128) then sz else IntKind.i64.wrap (x111 + 128)) - 1)))
 = true then (aR [[Z6 x13]] 1 ∧ (s_21.length + 1) * 8 ≤ 140737488355328) ∧ aB (o0 sz z n f es x91 x101 (IntKind.i64.wrap (x111 + 128)) x13 (n_21 && false) (s_21 ++ [[Z6 x13]]) n_31 s_31 m_41 m_51) ∧ J2 x9 x10 x11 t.1 n_2 s_2
 t.snd.snd.snd.fst t.snd.snd.snd.snd t.snd.fst t.snd.snd.fst x91 x101 (IntKind.i64.wrap (x111 + 128)) x13 (n_21 && false) (s_21 ++ [[Z6 x13]]) n_31 s_31 m_41 m_51 ∧ μ2 x91 x101 (IntKind.i64.wrap (x111 + 128)) x13 (n_21 && false) (s_21 ++
 [[Z6 x13]]) n_31 s_31 m_41 m_51 < μ2 x91 x101 x111 x13 n_21 s_21 n_31 s_31 m_41 m_51 else aB (jU sz z n f es x91 x101 (IntKind.i64.wrap (IntKind.i64.wrap (x111 - 128) + 128)) n_21 s_21 n_31 s_31 m_41 m_51) ∧ J x91 x101
 (IntKind.i64.wrap (IntKind.i64.wrap (x111 - 128) + 128)) n_21 s_21 n_31 s_31 m_41 m_51 ∧ μ x91 x101 (IntKind.i64.wrap (IntKind.i64.wrap (x111 - 128) + 128)) n_21 s_21 n_31 s_31 m_41 m_51 < μ x9 x10 x11 n_2 s_2 n_3 s_3 m_4 m_5 else (aB
 (kY sz z n f es x9 x10 x11 (0 : Int) (List.replicate 128 (Z6 0)) n_2 s_2 n_3 s_3 m_4 m_5) ∧ J3 x9 x10 x11 (0 : Int) (List.replicate 128 (Z6 0)) n_2 s_2 n_3 s_3 m_4 m_5 x9 x10 x11 (0 : Int) (List.replicate 128 (Z6 0)) n_2 s_2 n_3 s_3 m_4
 m_5) ∧ ∀ (x91 x101 x111 x88 : Int) (c_2 : List PV) (n_31 : Bool) (s_31 : LL) (n_4 : Bool) (s_4 : LL) (m_51 m_6 : List (PV × PV)), J3 x9 x10 x11 (0 : Int) (List.replicate 128 (Z6 0)) n_2 s_2 n_3 s_3 m_4 m_5 x91 x101 x111 x88 c_2 n_31 s_31
 n_4 s_4 m_51 m_6 → if decide (x88 < 128) = true then if (decide (IntKind.i64.wrap (x111 + x88) > x101) && decide (IntKind.i64.wrap (x111 + x88) < sz)) = true then PCall Try.prog 83 [PV.sl n f es, Z6 z, Z6 (IntKind.i64.wrap (x111 + x88)), Z6
 (IntKind.i64.wrap (sz - 1))] fun (v1 : PV) ↦ ∃ (vs1 : List PV), v1 = PV.tup vs1 ∧ vs1.length = 2 ∧ ∃ (x2 : PV), vs1.head? = some x2 ∧ ∃ (n3 : Int), x2 = Z6 n3 ∧ ∃ (x3 : PV), vs1.tail.head? = some x3 ∧ ∃ (n4 : Int), x3 = Z6 n4 ∧ ((0 : Int) ≤
 x88 ∧ x88 < (↑128 : Int)) ∧ (1 = 1 ∧ 0 + x88.toNat * (1 : Nat) + 1 ≤ c_2.length) ∧ aB (kY sz z n f es n3 n4 x111 (IntKind.i64.wrap (x88 + 1)) (aL c_2 (0 + x88.toNat * 1) [Z6 n3]) n_31 s_31 n_4 s_4 m_51 m_6) ∧ J3 x9 x10 x11 (0 : Int)
 (List.replicate 128 (Z6 0)) n_2 s_2 n_3 s_3 m_4 m_5 n3 n4 x111 (IntKind.i64.wrap (x88 + 1)) (aL c_2 (0 + x88.toNat * 1) [Z6 n3]) n_31 s_31 n_4 s_4 m_51 m_6 ∧ μ3 n3 n4 x111 (IntKind.i64.wrap (x88 + 1)) (aL c_2 (0 + x88.toNat * 1) [Z6 n3])
 n_31 s_31 n_4 s_4 m_51 m_6 < μ3 x91 x101 x111 x88 c_2 n_31 s_31 n_4 s_4 m_51 m_6 else ((0 : Int) ≤ x88 ∧ x88 < (↑128 : Int)) ∧ (1 = 1 ∧ (0 : Nat) + x88.toNat * 1 + 1 ≤ c_2.length) ∧ aB (kY sz z n f es x91 x101 x111 (IntKind.i64.wrap
 (x88 + 1)) (aL c_2 (0 + x88.toNat * 1) [Z6 x91]) n_31 s_31 n_4 s_4 m_51 m_6) ∧ J3 x9 x10 x11 (0 : Int) (List.replicate 128 (Z6 0)) n_2 s_2 n_3 s_3 m_4 m_5 x91 x101 x111 (IntKind.i64.wrap (x88 + 1)) (aL c_2 (0 + x88.toNat * 1) [Z6 x91])
 n_31 s_31 n_4 s_4 m_51 m_6 ∧ μ3 x91 x101 x111 (IntKind.i64.wrap (x88 + 1)) (aL c_2 (0 + x88.toNat * 1) [Z6 x91]) n_31 s_31 n_4 s_4 m_51 m_6 < μ3 x91 x101 x111 x88 c_2 n_31 s_31 n_4 s_4 m_51 m_6 else 128 ≤ (List.drop 0 c_2).length ∧ (ACall
 Try.prog 85 [LV.box 0 0, LV.pv (PV.agg (List.take 128 (List.drop 0 c_2)))] [Ob.box [LV.box 1 0, LV.mp 2, LV.mp 3], Ob.box [Y6 sz, LV.own 4, LV.own 5], Ob.mp m_51, Ob.mp m_6, Ob.sl (3, 1) false n_31 s_31, Ob.sl (145, 128) false n_4 s_4] fun
 (r : LV) (h' : Hp) ↦ ∃ (t : Int × List (PV × PV) × Bool × LL), (r = Y6 t.1 ∧ h' = [Ob.box [LV.box 1 0, LV.mp 2, LV.mp 3], Ob.box [Y6 sz, LV.own 4, LV.own 5], Ob.mp t.snd.fst, Ob.mp m_6, Ob.sl (3, 1) false n_31 s_31, Ob.sl (145, 128) true
 t.snd.snd.fst t.snd.snd.snd]) ∧ (True ∧ ((3, 1) = (3, 1) ∧ n_31 = n_31 ∧ s_31.length = s_31.length) ∧ True ∧ True ∧ True ∧ True ∧ True) ∧ (aR [[Z6 t.1]] 1 ∧ (s_31.length + 1) * 8 ≤ 140737488355328) ∧ aB (jU sz z n f es x91 x101
 (IntKind.i64.wrap (x111 + 128)) (n_31 && false) (s_31 ++ [[Z6 t.1]]) t.snd.snd.fst t.snd.snd.snd t.snd.fst m_6) ∧ J x91 x101 (IntKind.i64.wrap (x111 + 128)) (n_31 && false) (s_31 ++ [[Z6 t.1]]) t.snd.snd.fst t.snd.snd.snd t.snd.fst m_6 ∧ μ
 x91 x101 (IntKind.i64.wrap (x111 + 128)) (n_31 && false) (s_31 ++ [[Z6 t.1]]) t.snd.snd.fst t.snd.snd.snd t.snd.fst m_6 < μ x9 x10 x11 n_2 s_2 n_3 s_3 m_4 m_5) ∧ ACall Try.prog 85 [LV.box 0 0, LV.pv (PV.agg (List.take 128 (List.drop 0
 c_2)))] [Ob.box [LV.box 1 0, LV.mp 2, LV.mp 3], Ob.box [Y6 sz, LV.own 4, LV.own 5], Ob.mp m_51, Ob.mp m_6, Ob.sl (3, 1) false n_31 s_31, Ob.sl (145, 128) false n_4 s_4] fun (r : LV) (h' : Hp) ↦ ∃ (t : Int × List (PV × PV) × Bool × LL), (r =
 Y6 t.1 ∧ h' = [Ob.box [LV.box 1 0, LV.mp 2, LV.mp 3], Ob.box [Y6 sz, LV.own 4, LV.own 5], Ob.mp t.snd.fst, Ob.mp m_6, Ob.sl (3, 1) false n_31 s_31, Ob.sl (145, 128) true t.snd.snd.fst t.snd.snd.snd]) ∧ (True ∧ ((3, 1) = (3, 1) ∧ n_31 = n_31
 ∧ s_31.length = s_31.length) ∧ True ∧ True ∧ True ∧ True ∧ True) ∧ (aR [[Z6 t.1]] 1 ∧ (s_31.length + 1) * 8 ≤ 140737488355328) ∧ aB (jU sz z n f es x91 x101 (IntKind.i64.wrap (x111 + 128)) (n_31 && false) (s_31 ++ [[Z6 t.1]])
 t.snd.snd.fst t.snd.snd.snd t.snd.fst m_6) ∧ J x91 x101 (IntKind.i64.wrap (x111 + 128)) (n_31 && false) (s_31 ++ [[Z6 t.1]]) t.snd.snd.fst t.snd.snd.snd t.snd.fst m_6 ∧ μ x91 x101 (IntKind.i64.wrap (x111 + 128)) (n_31 && false) (s_31 ++
 [[Z6 t.1]]) t.snd.snd.fst t.snd.snd.snd t.snd.fst m_6 < μ x9 x10 x11 n_2 s_2 n_3 s_3 m_4 m_5 else R (PV.ptr [Z6 sz, PV.sl n_2 false s_2, PV.sl n_3 false s_3])
theorem zlt (sz z : Int) (n f : Bool) (es : LL) (J : Int → Int → Int → Bool → (LL) → Bool → (LL) → (List (PV × PV)) → (List (PV × PV)) → Prop) (μ : Int → Int → Int → Bool → (LL) → Bool → (LL) → (List (PV × PV)) → (List (PV × PV)) → Nat) (J2 : Int → Int → Int → Int → Bool → (LL) → Bool → (LL) → (List (PV × PV)) → (List (PV × PV)) → Int → Int → Int → Int → Bool → (LL) → Bool → (LL) → (List (PV × PV)) → (List (PV × PV)) → Prop) (μ2 : Int → Int → Int → Int → Bool → (LL) → Bool → (LL) → (List (PV × PV)) → (List (PV × PV)) → Nat) (J3 : Int → Int → Int → Int → (List PV) → Bool → (LL) → Bool → (LL) → (List (PV × PV)) → (List (PV × PV)) → Int → Int → Int → Int → (List PV) → Bool → (LL) → Bool → (LL) → (List (PV × PV)) → (List (PV × PV)) → Prop) (μ3 : Int → Int → Int → Int → (List PV) → Bool → (LL) → Bool → (LL) → (List (PV × PV)) → (List (PV × PV)) → Nat) {R : PV → Prop} (h : xY sz z n f es J μ J2 μ2 J3 μ3 R) : PCall Try.prog 55 [.int .i64 sz, .int .i64 z, .sl n f es] R :=
  PCall.of Try.func55 (by kernel_rfl) (by kernel_rfl) (Nat.le_of_ble_eq_true (by kernel_rfl)) (Eq.mpr (by kernel_rfl : aW Try.prog (fun zz_ => match zz_ with | 85 => some ⟨Int × List (PV × PV) × Bool × LL, fun _ hs t => (.pv (.int .i64 t.1), match hs with | [m, r, .mp _, ev, ix, .sl a _ _ _] => [m, r, .mp t.2.1, ev, ix, .sl a true t.2.2.1 t.2.2.2] | h => h), none⟩ | 84 => some ⟨Int × List (PV × PV) × List (PV × PV) × Bool × LL, fun _ hs t => (.pv (.int .i64 t.1), match hs with | [m, r, .mp _, .mp _, ix, .sl a _ _ _] => [m, r, .mp t.2.1, .mp t.2.2.1, ix, .sl a true t.2.2.2.1 t.2.2.2.2] | h => h), none⟩ | _ => none) Try.f55 [0, 1, 2, 6, 7, 8, 9, 10, 11, 12, 13, 14, 15, 17, 36, 41, 58, 73, 88, 89, 102] (fun zz_ => match zz_ with | 7 => some ⟨Int × Int × Int × Bool × (LL) × Bool × (LL) × (List (PV × PV)) × (List (PV × PV)), fun s => jU sz z n f es s.1 s.2.1 s.2.2.1 s.2.2.2.1 s.2.2.2.2.1 s.2.2.2.2.2.1 s.2.2.2.2.2.2.1 s.2.2.2.2.2.2.2.1 s.2.2.2.2.2.2.2.2, fun _ s => J s.1 s.2.1 s.2.2.1 s.2.2.2.1 s.2.2.2.2.1 s.2.2.2.2.2.1 s.2.2.2.2.2.2.1 s.2.2.2.2.2.2.2.1 s.2.2.2.2.2.2.2.2, fun s => μ s.1 s.2.1 s.2.2.1 s.2.2.2.1 s.2.2.2.2.1 s.2.2.2.2.2.1 s.2.2.2.2.2.2.1 s.2.2.2.2.2.2.2.1 s.2.2.2.2.2.2.2.2, fun e h => (gI e 9, gI e 10, gI e 11, oN h 2, oS h 2, oN h 3, oS h 3, oM h 4, oM h 5), [(1000001, 3, 1), (1000002, 145, 128)], [0, 1, 2, 7, 8, 9, 10, 11], [], fun p => ∀ (x9 : Int) (x10 : Int) (x11 : Int) (n_2 : Bool) (s_2 : LL) (n_3 : Bool) (s_3 : LL) (m_4 : List (PV × PV)) (m_5 : List (PV × PV)), p (x9, x10, x11, n_2, s_2, n_3, s_3, m_4, m_5), fun p h s => h s.1 s.2.1 s.2.2.1 s.2.2.2.1 s.2.2.2.2.1 s.2.2.2.2.2.1 s.2.2.2.2.2.2.1 s.2.2.2.2.2.2.2.1 s.2.2.2.2.2.2.2.2⟩ | 14 => some ⟨Int × Int × Int × Int × Bool × (LL) × Bool × (LL) × (List (PV × PV)) × (List (PV × PV)), fun s => o0 sz z n f es s.1 s.2.1 s.2.2.1 s.2.2.2.1 s.2.2.2.2.1 s.2.2.2.2.2.1 s.2.2.2.2.2.2.1 s.2.2.2.2.2.2.2.1 s.2.2.2.2.2.2.2.2.1 s.2.2.2.2.2.2.2.2.2, fun t s => J2 t.1 t.2.1 t.2.2.1 t.2.2.2.1 t.2.2.2.2.1 t.2.2.2.2.2.1 t.2.2.2.2.2.2.1 t.2.2.2.2.2.2.2.1 t.2.2.2.2.2.2.2.2.1 t.2.2.2.2.2.2.2.2.2 s.1 s.2.1 s.2.2.1 s.2.2.2.1 s.2.2.2.2.1 s.2.2.2.2.2.1 s.2.2.2.2.2.2.1 s.2.2.2.2.2.2.2.1 s.2.2.2.2.2.2.2.2.1 s.2.2.2.2.2.2.2.2.2, fun s => μ2 s.1 s.2.1 s.2.2.1 s.2.2.2.1 s.2.2.2.2.1 s.2.2.2.2.2.1 s.2.2.2.2.2.2.1 s.2.2.2.2.2.2.2.1 s.2.2.2.2.2.2.2.2.1 s.2.2.2.2.2.2.2.2.2, fun e h => (gI e 9, gI e 10, gI e 11, gI e 13, oN h 2, oS h 2, oN h 3, oS h 3, oM h 4, oM h 5), [], [0, 1, 2, 7, 8, 9, 10, 11, 13], [], fun p => ∀ (x9 : Int) (x10 : Int) (x11 : Int) (x13 : Int) (n_2 : Bool) (s_2 : LL) (n_3 : Bool) (s_3 : LL) (m_4 : List (PV × PV)) (m_5 : List (PV × PV)), p (x9, x10, x11, x13, n_2, s_2, n_3, s_3, m_4, m_5), fun p h s => h s.1 s.2.1 s.2.2.1 s.2.2.2.1 s.2.2.2.2.1 s.2.2.2.2.2.1 s.2.2.2.2.2.2.1 s.2.2.2.2.2.2.2.1 s.2.2.2.2.2.2.2.2.1 s.2.2.2.2.2.2.2.2.2⟩ | 20 => some ⟨Int × Int × Int × Int × (List PV) × Bool × (LL) × Bool × (LL) × (List (PV × PV)) × (List (PV × PV)), fun s => kY sz z n f es s.1 s.2.1 s.2.2.1 s.2.2.2.1 s.2.2.2.2.1 s.2.2.2.2.2.1 s.2.2.2.2.2.2.1 s.2.2.2.2.2.2.2.1 s.2.2.2.2.2.2.2.2.1 s.2.2.2.2.2.2.2.2.2.1 s.2.2.2.2.2.2.2.2.2.2, fun t s => J3 t.1 t.2.1 t.2.2.1 t.2.2.2.1 t.2.2.2.2.1 t.2.2.2.2.2.1 t.2.2.2.2.2.2.1 t.2.2.2.2.2.2.2.1 t.2.2.2.2.2.2.2.2.1 t.2.2.2.2.2.2.2.2.2.1 t.2.2.2.2.2.2.2.2.2.2 s.1 s.2.1 s.2.2.1 s.2.2.2.1 s.2.2.2.2.1 s.2.2.2.2.2.1 s.2.2.2.2.2.2.1 s.2.2.2.2.2.2.2.1 s.2.2.2.2.2.2.2.2.1 s.2.2.2.2.2.2.2.2.2.1 s.2.2.2.2.2.2.2.2.2.2, fun s => μ3 s.1 s.2.1 s.2.2.1 s.2.2.2.1 s.2.2.2.2.1 s.2.2.2.2.2.1 s.2.2.2.2.2.2.1 s.2.2.2.2.2.2.2.1 s.2.2.2.2.2.2.2.2.1 s.2.2.2.2.2.2.2.2.2.1 s.2.2.2.2.2.2.2.2.2.2, fun e h => (gI e 9, gI e 10, gI e 11, gI e 88, oA h 2, oN h 3, oS h 3, oN h 4, oS h 4, oM h 5, oM h 6), [], [0, 1, 2, 7, 8, 9, 10, 11, 14, 88], [], fun p => ∀ (x9 : Int) (x10 : Int) (x11 : Int) (x88 : Int) (c_2 : List PV) (n_3 : Bool) (s_3 : LL) (n_4 : Bool) (s_4 : LL) (m_5 : List (PV × PV)) (m_6 : List (PV × PV)), p (x9, x10, x11, x88, c_2, n_3, s_3, n_4, s_4, m_5, m_6), fun p h s => h s.1 s.2.1 s.2.2.1 s.2.2.2.1 s.2.2.2.2.1 s.2.2.2.2.2.1 s.2.2.2.2.2.2.1 s.2.2.2.2.2.2.2.1 s.2.2.2.2.2.2.2.2.1 s.2.2.2.2.2.2.2.2.2.1 s.2.2.2.2.2.2.2.2.2.2⟩ | _ => none) (Try.f55.body.getD .skip) [.int .i64 sz, .int .i64 z, .sl n f es] R = xY sz z n f es J μ J2 μ2 J3 μ3 R) h)

end Go.Eng



namespace Go.Eng
open Go
theorem HRel.markH {w : World} {I : Nat → Prop} {G : Nat → Pl} {h : Hp} (n0 : Nat) (mv : List Nat) (hs : HRel w I G h) : HRel w I G (markH n0 mv 0 h) ∧ (∀ b, aU (Go.Eng.markH n0 mv 0 h) G b → aU h G b) ∧ Like G G h (Go.Eng.markH n0 mv 0 h) := by
  have hget : ∀ i, (Go.Eng.markH n0 mv 0 h)[i]? = (h[i]?).map (fK n0 mv i) := fun i => by rw [oG, Nat.zero_add]
  have hl : Like G G h (Go.Eng.markH n0 mv 0 h) := fun o ob ho => ⟨⟨_, by rw [hget, ho]; rfl, zc7 ob⟩, fun _ => rfl⟩
  have split : ∀ {i : Nat} {x : Ob}, (Go.Eng.markH n0 mv 0 h)[i]? = some x → ∃ ob, h[i]? = some ob ∧ x = fK n0 mv i ob := fun {i x} hx => by
    rw [hget] at hx
    cases hob : h[i]? with
    | none => rw [hob] at hx; cases hx
    | some ob => rw [hob] at hx; cases hx; exact ⟨ob, rfl, rfl⟩
  refine ⟨⟨fun i x hx => ?_, fun i j x y hx ax hy ay hb => ?_, fun i x hx ax => ?_, hs.cl⟩, fun b ⟨i, x, hx, ax, hb⟩ => ?_, hl⟩
  · obtain ⟨ob, hob, rfl⟩ := split hx
    have := hs.obs i ob hob
    cases ob with
    | dead => trivial
    | box cs => obtain ⟨vs, ty, e1, e2, e3⟩ := this; exact ⟨vs, ty, e1, e2, fun k v hv => ⟨(e3 k v hv).1.mono (Keeps.refl w I) hl, (e3 k v hv).2⟩⟩
    | arr cs => exact this
    | sl ty m n es => cases n <;> exact this
    | mp kvs => exact this
    | iter ty rem cur => exact this
  · obtain ⟨ob, hob, rfl⟩ := split hx
    obtain ⟨ob2, hob2, rfl⟩ := split hy
    exact hs.sep i j ob ob2 hob (jN.1 ax) hob2 (jN.1 ay) hb
  · obtain ⟨ob, hob, rfl⟩ := split hx
    exact hs.nI i ob hob (jN.1 ax)
  · obtain ⟨ob, hob, rfl⟩ := split hx
    exact ⟨i, ob, hob, jN.1 ax, hb⟩
theorem ACall.mark (n0 : Nat) (mv : List Nat) {P : Program} {f : Nat} {args : List LV} {h : Hp} {R R' : LV → Hp → Prop} (hc : ACall P f args h R) (hq : ∀ r h', R r h' → R' r (markH n0 mv 0 h')) : ACall P f args h R' := by
  refine ⟨hc.1, fun w I G cargs h1 h2 h3 => (hc.2 w I G cargs h1 h2 h3).mono fun e w' ⟨cv, r, h', I', G', e1, e2, e3, e4, e5⟩ => ?_⟩
  obtain ⟨m1, m2, m3⟩ := e3.markH n0 mv
  refine ⟨cv, r, markH n0 mv 0 h', I', G', e1, hq _ _ e2, m1, e4.mono (Keeps.refl _ _) m3, ⟨e5.1.trans (Tr.less m2), by rw [vA]; exact e5.2, fun o ob' ho hx hf => ?_⟩⟩
  rw [oG, Nat.zero_add] at hx
  cases hob : h'[o]? with
  | none => rw [hob] at hx; cases hx
  | some ob =>
    rw [hob] at hx; cases hx
    refine e5.stay o ob ho hob ?_
    revert hf
    cases ob with
    | sl ty m n es =>
      simp only [fK, Ob.fixed]
      cases Nat.ble n0 o || dO o mv <;> simp
    | _ => simp [fK, Ob.fixed]
end Go.Eng


namespace Go.Eng.Trie
open Go Go.Eng
theorem xZ {P : Program} : ∀ {ts us : List TypeId} {a b : List PV}, aY P ts a = true → aY P us b = true → aY P (ts ++ us) (a ++ b) = true
  | [], _, [], _, _, h => h
  | [], _, _ :: _, _, h, _ => by simp [aY] at h
  | t :: ts, _, [], _, h, _ => by simp [aY] at h
  | t :: ts, us, x :: r, b, h, h2 => by
    cases x with
    | int k a => simp only [aY, Bool.and_eq_true, List.cons_append] at h ⊢; exact ⟨h.1, xZ h.2 h2⟩
    | bool a => simp only [aY, Bool.and_eq_true, List.cons_append] at h ⊢; exact ⟨h.1, xZ h.2 h2⟩
    | _ => simp [aY] at h
theorem zee : ∀ {a b c d : List PV}, a.length = b.length → bD (a ++ c) (b ++ d) = (bD a b && bD c d)
  | [], [], _, _, _ => by simp [bD]
  | [], _ :: _, _, _, h => by simp at h
  | _ :: _, [], _, _, h => by simp at h
  | x :: a, y :: b, c, d, h => by simp only [List.cons_append, bD]; rw [zee (by simpa using h), Bool.and_assoc]
structure Enc {α : Type} [DecidableEq α] (P : Program) (ts : List TypeId) (enc : α → List PV) : Prop where
  ks : ∀ a, aY P ts (enc a) = true
  inj : ∀ a b, bD (enc a) (enc b) = decide (a = b)
section
variable {α : Type} {P : Program} {ts : List TypeId} {enc : α → List PV}
def cells (enc : α → List PV) (b : aQ α) : List PV := b.1.flatMap enc
variable [DecidableEq α]
theorem Enc.len (E : Enc P ts enc) (a : α) : (enc a).length = ts.length := uI (E.ks a)
theorem Enc.keys (E : Enc P ts enc) : ∀ l : List α, aY P (List.replicate l.length ts).flatten (l.flatMap enc) = true
  | [] => rfl
  | a :: l => by
    simp only [List.length_cons, List.replicate_succ, List.flatten_cons, List.flatMap_cons]
    exact xZ (E.ks a) (E.keys l)
theorem Enc.flen (E : Enc P ts enc) : ∀ l : List α, (l.flatMap enc).length = l.length * ts.length
  | [] => by simp
  | a :: l => by simp only [List.flatMap_cons, List.length_append, List.length_cons, E.flen l, E.len a, Nat.add_mul, Nat.one_mul]; omega
theorem Enc.eqs (E : Enc P ts enc) : ∀ l m : List α, l.length = m.length → bD (l.flatMap enc) (m.flatMap enc) = decide (l = m)
  | [], [], _ => rfl
  | [], _ :: _, h => by simp at h
  | _ :: _, [], h => by simp at h
  | a :: l, b :: m, h => by
    simp only [List.flatMap_cons]
    rw [zee (by rw [E.len, E.len]), E.inj, E.eqs l m (by simpa using h)]
    by_cases h1 : a = b <;> by_cases h2 : l = m <;> simp [h1, h2]
theorem Enc.cells_len (E : Enc P ts enc) (b : aQ α) : (cells enc b).length = 128 * ts.length := by unfold cells; rw [E.flen, b.2]
theorem Enc.blkEq (E : Enc P ts enc) (a b : aQ α) : d9 (.agg (cells enc a)) (.agg (cells enc b)) = decide (a = b) := by
  show bD _ _ = _
  unfold cells
  rw [E.eqs _ _ (by rw [a.2, b.2])]
  by_cases h : a = b
  · simp [h]
  · have : a.1 ≠ b.1 := fun e => h (Subtype.ext e)
    simp [h, this]
theorem Enc.blkOk (E : Enc P ts enc) {kt : TypeId} (h1 : dU P kt = true) (h2 : eI P kt = (List.replicate 128 ts).flatten) (b : aQ α) : aX P kt (.agg (cells enc b)) = true := by
  simp only [aX, h1, h2, Bool.true_and]
  have := E.keys b.1
  rw [b.2] at this
  exact this
theorem Enc.blksOk (E : Enc P ts enc) {kt : TypeId} (h1 : dU P kt = true) (h2 : eI P kt = (List.replicate 128 ts).flatten) {β : Type} {ev : β → PV} (M : List (aQ α × β)) : cA P kt (bP (fun b => .agg (cells enc b)) ev M) := by
  intro kv h
  simp only [bP, List.mem_map] at h
  obtain ⟨p, _, rfl⟩ := h
  exact E.blkOk h1 h2 _
theorem Enc.valEq (E : Enc P ts enc) (a b : α) : d9 (.agg (enc a)) (.agg (enc b)) = decide (a = b) := E.inj a b
theorem Enc.valOk (E : Enc P ts enc) {kt : TypeId} (h1 : dU P kt = true) (h2 : eI P kt = ts) (a : α) : aX P kt (.agg (enc a)) = true := by
  simp only [aX, h1, h2, Bool.true_and]; exact E.ks a
theorem Enc.valsOk (E : Enc P ts enc) {kt : TypeId} (h1 : dU P kt = true) (h2 : eI P kt = ts) {β : Type} {ev : β → PV} (M : List (α × β)) : cA P kt (bP (fun a => .agg (enc a)) ev M) := by
  intro kv h
  simp only [bP, List.mem_map] at h
  obtain ⟨p, _, rfl⟩ := h
  exact E.valOk h1 h2 _
theorem Enc.at (E : Enc P ts enc) : ∀ (l : List α) (j : Nat) (hj : j < l.length), (l.flatMap enc).drop (j * ts.length) = enc l[j] ++ (l.drop (j + 1)).flatMap enc
  | a :: l, 0, _ => by simp
  | a :: l, j + 1, hj => by
    simp only [List.flatMap_cons, List.getElem_cons_succ, List.drop_succ_cons]
    rw [← E.at l j (by simpa using hj), List.drop_append]
    have h1 : (enc a).length ≤ (j + 1) * ts.length := by rw [E.len, Nat.add_mul, Nat.one_mul]; omega
    rw [List.drop_of_length_le h1, List.nil_append, E.len]
    congr 1
    rw [Nat.add_mul, Nat.one_mul]; omega
theorem Enc.put (E : Enc P ts enc) (l : List α) (j : Nat) (hj : j < l.length) (v : α) : aL (l.flatMap enc) (j * ts.length) (enc v) = (l.set j v).flatMap enc := by
  have hl : l = l.take j ++ l[j] :: l.drop (j + 1) := by rw [← List.drop_eq_getElem_cons hj, List.take_append_drop]
  have htl : (l.take j).length = j := by rw [List.length_take]; omega
  have hset : l.set j v = l.take j ++ v :: l.drop (j + 1) := List.set_eq_take_append_cons_drop.trans (by rw [if_pos hj])
  rw [hset]
  unfold aL
  have e1 : l.flatMap enc = (l.take j).flatMap enc ++ (enc l[j] ++ (l.drop (j + 1)).flatMap enc) := by
    have h := congrArg (fun x : List α => x.flatMap enc) hl
    simp only [List.flatMap_append, List.flatMap_cons] at h
    exact h
  have l1 : ((l.take j).flatMap enc).length = j * ts.length := by rw [E.flen, htl]
  rw [e1, List.take_append_of_le_length (by omega), List.take_of_length_le (by omega), List.flatMap_append, List.flatMap_cons, List.append_assoc]
  congr 2
  rw [List.drop_append, List.drop_of_length_le (by omega), List.nil_append, l1, E.len, List.drop_append, List.drop_of_length_le (by rw [E.len]; omega), List.nil_append, E.len]
  have : j * ts.length + ts.length - j * ts.length - ts.length = 0 := by omega
  rw [this, List.drop_zero]
end
def aV (l : List Int) : List (List PV) := l.map fun n => [.int .i64 n]
theorem g9 (l : List Int) : (aV l).length = l.length := by simp [aV]
theorem kZ (x : Int) : ([PV.int .i64 x] : List PV).length = 1 := rfl
def aZ {α : Type} (enc : α → List PV) (l : List (aQ α)) : List (List PV) := l.map (cells enc)
theorem iU {α : Type} {enc : α → List PV} (l : List (aQ α)) : (aZ enc l).length = l.length := by simp [aZ]
end Go.Eng.Trie



namespace Go.Eng
open Go Go.Proofs Go.Eng.Trie
def encI (n : Int) : List PV := [.int .i64 n]
theorem EI : Enc Try.prog [3] encI := ⟨fun a => by
  simp only [encI, aY, Bool.and_true]
  rw [show Try.prog.underlying 3 = some (.int .i64) by kernel_rfl]
  rfl, fun a b => by simp [encI, bD, dL]; rfl⟩
def pcI (p : Pc Int) : List PV := [.int .i64 p.fr, .int .i64 p.to] ++ encI p.v
def iV (l : List (Pc Int)) : List (List PV) := l.map pcI
theorem zlu (p : Pc Int) : (pcI p).length = 3 := rfl
theorem zef (l : List (Pc Int)) : (iV l).length = l.length := by simp [iV]
def Pc.ok {α : Type} (p : Pc α) : Prop := (-9223372036854775808 ≤ p.fr - 1 ∧ p.fr - 1 ≤ 9223372036854775807)
theorem yA (n f : Bool) (l : List (Pc Int)) (z i last : Int) (hl : l.length < 4611686018427387904) (hok : ∀ p ∈ l, Pc.ok p) :
    PCall Try.prog 83 [.sl n f (iV l), .int .i64 z, .int .i64 i, .int .i64 last] fun v => v = .tup [.int .i64 (findL l z i last).1, .int .i64 (findL l z i last).2] := by
  refine zlp _ _ _ _ _ _ (fun a k => 0 ≤ k ∧ k ≤ l.length ∧ findL l z i last = findL (l.drop k.toNat) z i a) (fun _ k => l.length - k.toNat) ?_
  unfold xT
  refine ⟨⟨rfl, Int.le_refl _, by omega, rfl⟩, ?_⟩
  rintro a k ⟨k0, k1, he⟩
  refine aI (fun hc => ?_) (fun hc => ?_)
  · simp only [decide_eq_true_eq, zef] at hc
    have hk : k.toNat < l.length := by omega
    have hw : IntKind.i64.wrap (k + 1) = k + 1 := aD (by omega) (by omega)
    have hn : (k + 1).toNat = k.toNat + 1 := by omega
    have hg : (iV l).getD k.toNat [] = pcI l[k.toNat] := cC hk
    have hix : aO (iV l) k 3 := bM zlu k0 (by omega)
    have hm := hok _ (List.getElem_mem hk)
    rw [rL hk] at he
    rw [hw]
    dsimp only
    rw [hn]
    have hmu : l.length - (k.toNat + 1) < l.length - k.toNat := by omega
    refine ⟨hix, l[k.toNat].fr, by rw [hg]; rfl, l[k.toNat].to, by rw [hg]; rfl, l[k.toNat].v, by rw [hg]; rfl, ?_⟩
    generalize l[k.toNat] = p at *
    have hw2 : IntKind.i64.wrap (p.fr - 1) = p.fr - 1 := aD hm.1 hm.2
    rw [hw2]
    rw [xO] at he
    by_cases h1 : p.fr ≤ i
    · refine bN (by simpa using h1) ?_
      by_cases h2 : i ≤ p.to
      · refine bN (by simpa using h2) ?_
        rw [if_pos ⟨h1, h2⟩] at he
        rw [he]
      · refine bO (by simpa using h2) ?_
        rw [if_neg (by omega), if_neg (by omega)] at he
        refine bO (by simp; omega) ?_
        exact ⟨rfl, ⟨by omega, by omega, he⟩, hmu⟩
    · refine bO (by simpa using h1) ?_
      rw [if_neg (by omega)] at he
      refine bN (by simp; omega) ?_
      by_cases h3 : p.fr ≤ a
      · refine bN (by simpa using h3) ?_
        rw [if_pos (by omega)] at he
        exact ⟨rfl, ⟨by omega, by omega, he⟩, hmu⟩
      · refine bO (by simpa using h3) ?_
        rw [if_neg (by omega)] at he
        exact ⟨rfl, ⟨by omega, by omega, he⟩, hmu⟩
  · simp only [decide_eq_true_eq, zef] at hc
    rw [List.drop_of_length_le (by omega)] at he
    rw [he]; rfl
def TrieI (sz : Int) (F : Int → Int) (v : PV) : Prop := ∃ n f n2 f2 idx blk, v = .ptr [.int .i64 sz, .sl n f (aV idx), .sl n2 f2 (aZ encI blk)] ∧ TOK sz F idx blk
theorem zlv {sz : Int} {F : Int → Int} {t : PV} (ht : TrieI sz F t) (i : Int) (h1 : sz ≤ 1114112) : PCall Try.prog 75 [t, .int .i64 i] fun v => v = .int .i64 (if 0 ≤ i ∧ i < sz then F i else 0) := by
  obtain ⟨n, f, n2, f2, idx, blk, rfl, ht⟩ := ht
  refine zlq _ _ _ _ _ _ _ _ ?_
  unfold xU
  refine aI (fun hc => ?_) (fun hc => ?_)
  · simp only [decide_eq_true_eq] at hc
    rw [if_neg (by omega)]
  · simp only [decide_eq_true_eq] at hc
    refine ⟨_, rfl, ?_⟩
    refine aI (fun hc2 => ?_) (fun hc2 => ?_)
    · simp only [decide_eq_true_eq, ge_iff_le] at hc2
      rw [if_neg (by omega)]
    · simp only [decide_eq_true_eq, ge_iff_le] at hc2
      rw [if_pos (by omega)]
      obtain ⟨hq, g0, hk, hj, he⟩ := ht.get (i := i) (by omega) (by omega)
      have hw : IntKind.i64.wrap (i.tdiv 128) = i / 128 := by rw [Int.tdiv_eq_ediv_of_nonneg (by omega)]; exact aD (by omega) (by omega)
      have hm : i.tmod 128 = i % 128 := Int.tmod_eq_emod_of_nonneg (by omega)
      have hg : (aV idx).getD (i / 128).toNat [] = [.int .i64 idx[(i / 128).toNat]] := cC hq
      have hg2 : (aZ encI blk).getD idx[(i / 128).toNat].toNat [] = cells encI blk[idx[(i / 128).toNat].toNat] := cC hk
      refine ⟨_, _, _, rfl, _, _, _, rfl, ?_⟩
      rw [hw]
      refine ⟨bM kZ (by omega) (by omega), idx[(i / 128).toNat], by rw [hg]; rfl, bM (EI.cells_len) g0 (by omega), by rw [hm]; omega, F i, ?_, rfl⟩
      rw [hg2, hm]
      have := EI.at _ _ hj
      simp only [List.length_cons, List.length_nil] at this
      unfold cells
      rw [this, he]
      rfl
end Go.Eng



namespace Go.Eng
open Go Go.Proofs Go.Eng.Trie
def cI (b : aQ Int) : List PV := cells encI b
def kvI (k : Int) : PV := .int .i64 k
def eC (kn : List (aQ Int × Int)) : List (PV × PV) := bP (fun b => .agg (cI b)) kvI kn
def fS (ev : List (Int × Int)) : List (PV × PV) := bP (fun v => .int .i64 v) kvI ev
def jV (sz : Int) (kn : List (aQ Int × Int)) (ev : List (Int × Int)) (ixm ixn bkm bkn : Bool) (idx : List Int) (blk : List (aQ Int)) : Hp :=
  [.box [.box 1 0, .mp 2, .mp 3], .box [.pv (.int .i64 sz), .own 4, .own 5], .mp (eC kn), .mp (fS ev), .sl (3, 1) ixm ixn (aV idx), .sl (145, 128) bkm bkn (aZ encI blk)]
theorem lB (b : aQ Int) : (cI b).length = 128 := EI.cells_len b
theorem yB (b : aQ Int) : List.take 128 (List.drop 0 (cI b)) = cI b := by rw [List.drop_zero, List.take_of_length_le (by rw [lB]; omega)]
theorem zeg : dU Try.prog 145 = true := by kernel_rfl
theorem zeh : eI Try.prog 145 = (List.replicate 128 [3]).flatten := by kernel_rfl
theorem zlw (b : aQ Int) (kn : List (aQ Int × Int)) : bS (.agg (cI b)) (eC kn) = (bQ b kn).map kvI := kQ (ek := fun b => PV.agg (cI b)) (ev := kvI) EI.blkEq b kn
theorem zlx (b : aQ Int) (k : Int) (kn : List (aQ Int × Int)) : aP (.agg (cI b)) (kvI k) (eC kn) = eC (bJ b k kn) := gW (ek := fun b => PV.agg (cI b)) (ev := kvI) EI.blkEq b k kn
theorem okI (b : aQ Int) : aX Try.prog 145 (.agg (cI b)) = true := EI.blkOk zeg zeh b
theorem zei (kn : List (aQ Int × Int)) : cA Try.prog 145 (eC kn) := EI.blksOk zeg zeh kn
theorem zej {sz : Int} {F : Int → Int} {idx : List Int} {blk : List (aQ Int)} {kn : List (aQ Int × Int)} {ev : List (Int × Int)} (hk : TInv sz F idx blk kn ev) (hb : blk.length ≤ 10000000) (ixn bkn : Bool) (b : aQ Int) :
    ACall Try.prog 85 [.box 0 0, .pv (.agg (cI b))] (jV sz kn ev false ixn false bkn idx blk) fun r h' => ∃ k kn' bn' blk', r = .pv (kvI k) ∧ h' = jV sz kn' ev false ixn true bn' idx blk' ∧ TInv sz F idx blk' kn' ev ∧ 0 ≤ k ∧ blk'[k.toNat]? = some b ∧ blk'.length ≤ blk.length + 1 := by
  refine ACall.mark 1000 [5] (R := fun r h' => ∃ k kn' bm' bn' blk', r = .pv (kvI k) ∧ h' = jV sz kn' ev false ixn bm' bn' idx blk' ∧ TInv sz F idx blk' kn' ev ∧ 0 ≤ k ∧ blk'[k.toNat]? = some b ∧ blk'.length ≤ blk.length + 1) ?_ ?_
  · refine zlr _ _ _ _ _ _ _ _ _ _ ?_
    unfold xV
    rw [yB, zlw]
    have h128 : 128 ≤ (List.drop 0 (cI b)).length := by rw [List.drop_zero, lB]; omega
    refine ⟨h128, zei kn, okI b, fun v hv => ?_, fun hv => ?_⟩
    · cases hg : bQ b kn with
      | none => rw [hg] at hv; cases hv
      | some k =>
        rw [hg] at hv; cases hv
        obtain ⟨k0, k1⟩ := hk.kn_ok b k hg
        exact ⟨k, rfl, k, kn, false, bkn, blk, rfl, rfl, hk, k0, k1, by omega⟩
    · have hsz : aR [cI b] 128 ∧ ((aZ encI blk).length + 1) * 1024 ≤ 140737488355328 := ⟨fun e he => by simp at he; subst he; exact lB b, by rw [iU]; omega⟩
      have fin : ∃ k kn' bm' bn' blk', LV.pv (.int .i64 ((aZ encI blk).length : Int)) = .pv (kvI k) ∧
          [Ob.box [.box 1 0, .mp 2, .mp 3], .box [.pv (.int .i64 sz), .own 4, .own 5], .mp (aP (.agg (cI b)) (.int .i64 ((aZ encI blk).length : Int)) (eC kn)), .mp (fS ev), .sl (3, 1) false ixn (aV idx), .sl (145, 128) true (bkn && false) (aZ encI blk ++ [cI b])] = jV sz kn' ev false ixn bm' bn' idx blk' ∧ TInv sz F idx blk' kn' ev ∧ 0 ≤ k ∧ blk'[k.toNat]? = some b ∧ blk'.length ≤ blk.length + 1 := by
        refine ⟨blk.length, bJ b (blk.length : Int) kn, true, bkn && false, blk ++ [b], by rw [iU]; rfl, ?_, hk.place b, by omega, by simp, by simp⟩
        have := zlx b (blk.length : Int) kn
        unfold kvI at this
        rw [iU, this]
        simp [jV, aZ, cI]
      exact ⟨h128, zei kn, okI b, h128, ⟨lB b, hsz, fin⟩, lB b, ⟨hsz, fin⟩, hsz, fin⟩
  · rintro r h' ⟨k, kn', bm', bn', blk', rfl, rfl, h1, h2, h3, h4⟩
    exact ⟨k, kn', bn', blk', rfl, rfl, h1, h2, h3, h4⟩
theorem zly (v : Int) (ev : List (Int × Int)) : bS (.int .i64 v) (fS ev) = (bQ v ev).map kvI := kQ (ek := fun v => PV.int .i64 v) (ev := kvI) (oO .i64) v ev
theorem zlz (v k : Int) (ev : List (Int × Int)) : aP (.int .i64 v) (kvI k) (fS ev) = fS (bJ v k ev) := gW (ek := fun v => PV.int .i64 v) (ev := kvI) (oO .i64) v k ev
theorem yC (l : List Int) (j : Nat) (hj : j < l.length) (v : Int) : aL (l.flatMap encI) (0 + j * 1) [.int .i64 v] = (l.set j v).flatMap encI := by
  have := EI.put l j hj v
  simp only [List.length_cons, List.length_nil, Nat.zero_add] at this ⊢
  exact this
theorem yD (l : List Int) : (l.flatMap encI).length = l.length := by
  have := EI.flen l
  simpa using this
theorem zek : List.replicate 128 (PV.int .i64 0) = (List.replicate 128 (0 : Int)).flatMap encI := by
  generalize 128 = n
  induction n with
  | zero => rfl
  | succ n ih => simp only [List.replicate_succ, List.flatMap_cons, ih]; rfl
theorem zl0 {l : List Int} {v : Int} (hl : l.length = 128) (h : ∀ q, q < 128 → l[q]? = some v) : l = List.replicate 128 v := by
  refine List.ext_getElem? fun q => ?_
  rcases Nat.lt_or_ge q 128 with hq | hq
  · rw [h q hq, List.getElem?_replicate, if_pos hq]
  · rw [List.getElem?_eq_none (by omega), List.getElem?_eq_none (by simp; omega)]
theorem zl1 {sz : Int} {F : Int → Int} {idx : List Int} {blk : List (aQ Int)} {kn : List (aQ Int × Int)} {ev : List (Int × Int)} (hk : TInv sz F idx blk kn ev) (hb : blk.length ≤ 10000000) (ixn bkn : Bool) (v : Int) :
    ACall Try.prog 84 [.box 0 0, .pv (.int .i64 v)] (jV sz kn ev false ixn false bkn idx blk) fun r h' => ∃ k kn' ev' bn' blk', r = .pv (kvI k) ∧ h' = jV sz kn' ev' false ixn true bn' idx blk' ∧ TInv sz F idx blk' kn' ev' ∧ 0 ≤ k ∧ blk'[k.toNat]? = some (rep v) ∧ blk'.length ≤ blk.length + 1 := by
  refine ACall.mark 1000 [5] (R := fun r h' => ∃ k kn' ev' bm' bn' blk', r = .pv (kvI k) ∧ h' = jV sz kn' ev' false ixn bm' bn' idx blk' ∧ TInv sz F idx blk' kn' ev' ∧ 0 ≤ k ∧ blk'[k.toNat]? = some (rep v) ∧ blk'.length ≤ blk.length + 1) ?_ ?_
  · refine zls _ _ _ _ _ _ _ _ _ _ (fun x m2 m3 c => 0 ≤ x ∧ x ≤ 128 ∧ m2 = eC kn ∧ m3 = fS ev ∧ ∃ l : List Int, l.length = 128 ∧ c = l.flatMap encI ∧ ∀ q, q < x.toNat → l[q]? = some v) (fun x _ _ _ => 128 - x.toNat) ?_
    unfold xX
    rw [zly]
    refine ⟨kS ev, fun u hu => ?_, fun hu => ⟨⟨rfl, Int.le_refl _, by omega, rfl, rfl, List.replicate 128 0, by simp, zek, fun q hq => by simp at hq⟩, ?_⟩⟩
    · cases hg : bQ v ev with
      | none => rw [hg] at hu; cases hu
      | some k =>
        rw [hg] at hu; cases hu
        obtain ⟨k0, k1⟩ := hk.ev_ok v k hg
        exact ⟨k, rfl, k, kn, ev, false, bkn, blk, rfl, rfl, hk, k0, k1, by omega⟩
    · rintro x _ _ _ ⟨x0, x1, rfl, rfl, l, hl, rfl, hq⟩
      refine aI (fun hc => ?_) (fun hc => ?_)
      · simp only [decide_eq_true_eq] at hc
        have hw : IntKind.i64.wrap (x + 1) = x + 1 := aD (by omega) (by omega)
        have hn : (x + 1).toNat = x.toNat + 1 := by omega
        rw [yC l x.toNat (by omega) v, hw, yD]
        refine ⟨⟨x0, hc⟩, ⟨rfl, by omega⟩, rfl, ⟨by omega, by omega, rfl, rfl, l.set x.toNat v, by simpa using hl, rfl, fun q hq' => ?_⟩, by dsimp only; omega⟩
        rw [hn] at hq'
        rw [List.getElem?_set]
        by_cases e : x.toNat = q
        · rw [if_pos e, if_pos (by omega)]
        · rw [if_neg e]; exact hq q (by omega)
      · simp only [decide_eq_true_eq] at hc
        have hx : x = 128 := by omega
        subst hx
        have hrep := zl0 hl hq
        subst hrep
        have hcI : (List.replicate 128 v).flatMap encI = cI (rep v) := rfl
        rw [hcI, yB]
        refine ⟨by rw [List.drop_zero, lB]; omega, ?_⟩
        refine (zej hk hb ixn bkn (rep v)).mono ?_
        rintro _ _ ⟨k, kn', bn', blk', rfl, rfl, h1, h2, h3, h4⟩
        refine ⟨(k, eC kn', bn', aZ encI blk'), ⟨rfl, rfl⟩, ⟨trivial, ⟨rfl, rfl, rfl⟩, trivial, trivial, trivial, trivial, trivial⟩, kS ev, ?_⟩
        have := zlz v k ev
        unfold kvI at this
        simp only [this]
        exact ⟨k, kn', bJ v k ev, _, bn', blk', rfl, rfl, h1.even h2 h3, h2, h3, h4⟩
  · rintro r h' ⟨k, kn', ev', bm', bn', blk', rfl, rfl, h1, h2, h3, h4⟩
    exact ⟨k, kn', ev', bn', blk', rfl, rfl, h1, h2, h3, h4⟩
end Go.Eng



namespace Go.Eng
open Go Go.Proofs Go.Eng.Trie
theorem zl2 {α : Type} {v : α} {j : Nat} {u : α} (h : (Trie.rep v).1[j]? = some u) : u = v ∧ j < 128 := by
  simp only [Trie.rep, List.getElem?_replicate] at h
  split at h
  · rename_i hj; cases h; exact ⟨rfl, hj⟩
  · cases h
theorem zl3 (sz z : Int) (n f : Bool) (l : List (Pc Int)) (hl : l.length < 4611686018427387904) (hok : ∀ p ∈ l, Pc.ok p) (hs1 : 1 ≤ sz) (hs2 : sz ≤ 1114112) :
    PCall Try.prog 55 [.int .i64 sz, .int .i64 z, .sl n f (iV l)] fun v => TrieI sz (eB l z) v := by
  have hF := fun i => oY l z i (sz - 1)
  generalize hFF : eB l z = F at *
  refine zlt _ _ _ _ _
    (fun x9 x10 x11 _ s2 _ s3 m4 m5 => ∃ idx blk kn ev, s2 = aV idx ∧ s3 = aZ encI blk ∧ m4 = eC kn ∧ m5 = fS ev ∧ TInv sz F idx blk kn ev ∧ x11 = 128 * idx.length ∧ blk.length ≤ idx.length ∧ x11 < sz + 128 ∧ (∀ j, x11 ≤ j → j ≤ x10 → F j = x9) ∧ x10 ≤ sz - 1)
    (fun _ _ x11 _ _ _ _ _ _ => (sz + 128 - x11).toNat)
    (fun _ _ y11 _ _ _ _ _ _ _ x9 x10 x11 x13 _ s2 _ s3 m4 m5 => ∃ idx blk kn ev, s2 = aV idx ∧ s3 = aZ encI blk ∧ m4 = eC kn ∧ m5 = fS ev ∧ TInv sz F idx blk kn ev ∧ x11 = 128 * idx.length ∧ x11 < sz + 128 ∧ (∀ j, x11 ≤ j → j ≤ x10 → F j = x9) ∧ x10 ≤ sz - 1 ∧ 0 ≤ x13 ∧ blk[x13.toNat]? = some (rep x9) ∧
      ((x11 = y11 ∧ x11 < sz ∧ (x11 + 127 ≤ x10 ∨ sz - 1 ≤ x10) ∧ blk.length ≤ idx.length + 1) ∨ (y11 + 128 ≤ x11 ∧ blk.length ≤ idx.length)))
    (fun _ _ x11 _ _ _ _ _ _ _ => (sz + 128 - x11).toNat)
    (fun _ _ y11 _ _ _ _ _ _ _ _ x9 x10 x11 x c _ s3 _ s4 m5 m6 => ∃ idx blk kn ev, s3 = aV idx ∧ s4 = aZ encI blk ∧ m5 = eC kn ∧ m6 = fS ev ∧ TInv sz F idx blk kn ev ∧ x11 = 128 * idx.length ∧ blk.length ≤ idx.length ∧ x11 = y11 ∧ x11 < sz ∧ 0 ≤ x ∧ x ≤ 128 ∧ x10 ≤ sz - 1 ∧ (∀ j, x11 + x ≤ j → j ≤ x10 → F j = x9) ∧
      ∃ b : List Int, b.length = 128 ∧ c = b.flatMap encI ∧ ∀ (q : Nat) u, b[q]? = some u → q < x.toNat → x11 + q < sz → u = F (x11 + q))
    (fun _ _ _ x _ _ _ _ _ _ _ => (128 - x).toNat) ?_
  unfold xY
  have hw1 : IntKind.i64.wrap (sz - 1) = sz - 1 := aD (by omega) (by omega)
  rw [hw1]
  refine bO (by simp; omega) ?_
  refine (yA n f l z 0 (sz - 1) hl hok).mono ?_
  rintro _ rfl
  obtain ⟨_, f2, f3, f4⟩ := hF 0 (by omega)
  refine ⟨_, rfl, rfl, _, rfl, _, rfl, _, rfl, _, rfl, ⟨rfl, [], [], [], [], rfl, rfl, rfl, rfl, TInv.nil, rfl, Nat.le_refl _, by omega, f4, f3⟩, ?_⟩
  clear f2 f3 f4
  rintro v0 u0 x _ _ _ _ _ _ ⟨idx, blk, kn, ev, rfl, rfl, rfl, rfl, hk, hx, hb, hx2, hv0, hu0⟩
  refine aI (fun hc => ?_) (fun hc => ?_)
  · simp only [decide_eq_true_eq] at hc
    have hw2 : IntKind.i64.wrap (x + 128) = x + 128 := aD (by omega) (by omega)
    rw [hw2]
    have hmin : ∀ a : Int, IntKind.i64.wrap ((if sz < a + 128 then sz else a + 128) - 1) = (if sz < a + 128 then sz else a + 128) - 1 ∨ ¬ (0 ≤ a ∧ a ≤ 1114112) := fun a => by
      by_cases ha : 0 ≤ a ∧ a ≤ 1114112
      · left; split <;> exact aD (by omega) (by omega)
      · exact .inr ha
    have hmx := (hmin x).resolve_right (by omega)
    rw [hmx]
    refine aI (fun hgt => ?ga) (fun hgt => ?gb)
    case' ga =>
      refine (yA n f l z x (sz - 1) hl hok).mono ?_
      rintro _ rfl
      obtain ⟨_, hux, hu, hv⟩ := hF x (by omega)
      refine ⟨_, rfl, rfl, _, rfl, _, rfl, _, rfl, _, rfl, ?_⟩
      revert hv hu
      generalize (findL l z x (sz - 1)).1 = v
      generalize (findL l z x (sz - 1)).2 = u
      clear hv0 hu0 hux
      intro hu hv
    case' gb =>
      revert hv0 hu0 hgt
      generalize v0 = v
      generalize u0 = u
      intro hv hu hgt
    all_goals
      clear hgt
      refine aI (fun hc2 => ?_) (fun hc2 => ?_)
      · simp only [decide_eq_true_eq, ge_iff_le] at hc2
        have hc3 : x + 127 ≤ u ∨ sz - 1 ≤ u := by split at hc2 <;> omega
        refine (zl1 hk (by omega) _ _ v).mono ?_
        rintro _ _ ⟨k, kn', ev', bn', blk', rfl, rfl, g1, g2, g3, g4⟩
        refine ⟨(k, eC kn', fS ev', bn', aZ encI blk'), ⟨rfl, rfl⟩, ⟨trivial, ⟨rfl, rfl, rfl⟩, trivial, trivial, trivial, trivial, trivial⟩, ⟨rfl, idx, blk', kn', ev', rfl, rfl, rfl, rfl, g1, hx, hx2, hv, hu, g2, g3, .inl ⟨rfl, hc, hc3, by omega⟩⟩, ?_⟩
        rintro w t y k' _ _ _ _ _ _ ⟨idx2, blk2, kn2, ev2, rfl, rfl, rfl, rfl, hk2, hy, hy2, hw, ht, hk0, hkb, hor⟩
        have hwy : IntKind.i64.wrap (y + 128) = y + 128 := aD (by omega) (by omega)
        rw [hwy, (hmin y).resolve_right (by omega)]
        refine aI (fun hc4 => ?_) (fun hc4 => ?_)
        · simp only [Bool.and_eq_true, decide_eq_true_eq, ge_iff_le] at hc4
          have hc5 : y + 127 ≤ t ∨ sz - 1 ≤ t := by have := hc4.2; split at this <;> omega
          refine ⟨⟨fun e he => by simp at he; subst he; rfl, by rw [g9]; omega⟩, rfl, ⟨idx2 ++ [k'], blk2, kn2, ev2, by simp [aV], rfl, rfl, rfl, hk2.push hk0 hkb fun j u' hj hlt => ?_, by simp; omega, by omega, fun j h1 h2 => hw j (by omega) h2, ht, hk0, hkb, .inr ⟨by omega, by simp; omega⟩⟩, by dsimp only; omega⟩
          obtain ⟨rfl, hj2⟩ := zl2 hj
          exact (hw _ (by omega) (by omega)).symm
        · have hnot : y + 128 ≤ y + 128 := Int.le_refl _
          have hw128 : IntKind.i64.wrap (y - 128) = y - 128 := aD (by omega) (by omega)
          have hback : IntKind.i64.wrap (y - 128 + 128) = y := by rw [aD (by omega) (by omega)]; omega
          rw [hw128, hback]
          simp only [Bool.and_eq_true, decide_eq_true_eq, ge_iff_le, not_and] at hc4
          have hor2 : x + 128 ≤ y ∧ blk2.length ≤ idx2.length := by
            rcases hor with ⟨h1, h2, h3, h4⟩ | h
            · exfalso
              have := hc4 h2
              split at this <;> omega
            · exact h
          exact ⟨rfl, ⟨idx2, blk2, kn2, ev2, rfl, rfl, rfl, rfl, hk2, hy, hor2.2, hy2, hw, ht⟩, by dsimp only; omega⟩
      · clear hc2
        refine ⟨⟨rfl, idx, blk, kn, ev, rfl, rfl, rfl, rfl, hk, hx, hb, rfl, hc, Int.le_refl _, by omega, hu, fun j h1 h2 => hv j (by omega) h2, List.replicate 128 0, by simp, zek, fun q u' _ hq _ => by simp at hq⟩, ?_⟩
        rintro w t y i _ _ _ _ _ _ _ ⟨idx2, blk2, kn2, ev2, rfl, rfl, rfl, rfl, hk2, hy, hb2, hyx, hy2, i0, i1, ht, hw, b, hbl, rfl, hbq⟩
        have hwyi : IntKind.i64.wrap (y + i) = y + i := aD (by omega) (by omega)
        have hwi : IntKind.i64.wrap (i + 1) = i + 1 := aD (by omega) (by omega)
        have hwy : IntKind.i64.wrap (y + 128) = y + 128 := aD (by omega) (by omega)
        rw [hwyi, hwi, hwy]
        have step : ∀ (v' u' : Int), (∀ j, y + i ≤ j → j ≤ u' → F j = v') → u' ≤ sz - 1 → (y + i < sz → F (y + i) = v') → i < 128 →
            ∃ idx blk kn ev, aV idx2 = aV idx ∧ aZ encI blk2 = aZ encI blk ∧ eC kn2 = eC kn ∧ fS ev2 = fS ev ∧ TInv sz F idx blk kn ev ∧ y = 128 * idx.length ∧ blk.length ≤ idx.length ∧ y = x ∧ y < sz ∧ 0 ≤ i + 1 ∧ i + 1 ≤ 128 ∧ u' ≤ sz - 1 ∧ (∀ j, y + (i + 1) ≤ j → j ≤ u' → F j = v') ∧
              ∃ c : List Int, c.length = 128 ∧ (b.set i.toNat v').flatMap encI = c.flatMap encI ∧ ∀ (q : Nat) u, c[q]? = some u → q < (i + 1).toNat → y + q < sz → u = F (y + q) := fun v' u' h1 h2 h3 h4 => by
          refine ⟨idx2, blk2, kn2, ev2, rfl, rfl, rfl, rfl, hk2, hy, hb2, hyx, hy2, by omega, by omega, h2, fun j a1 a2 => h1 j (by omega) a2, b.set i.toNat v', by simpa using hbl, rfl, fun q u hq hq2 hq3 => ?_⟩
          rw [List.getElem?_set] at hq
          by_cases e : i.toNat = q
          · rw [if_pos e, if_pos (by omega)] at hq
            cases hq
            have e2 : y + (q : Int) = y + i := by omega
            rw [e2]
            exact (h3 (by omega)).symm
          · rw [if_neg e] at hq
            exact hbq q u hq (by omega) hq3
        refine aI (fun hc5 => ?_) (fun hc5 => ?_)
        · simp only [decide_eq_true_eq] at hc5
          refine aI (fun hc6 => ?_) (fun hc6 => ?_)
          · simp only [Bool.and_eq_true, decide_eq_true_eq, gt_iff_lt] at hc6
            refine (yA n f l z (y + i) (sz - 1) hl hok).mono ?_
            rintro _ rfl
            obtain ⟨q1, q2, q3, q4⟩ := hF (y + i) (by omega)
            refine ⟨_, rfl, rfl, _, rfl, _, rfl, _, rfl, _, rfl, ⟨i0, hc5⟩, ⟨rfl, by rw [yD]; omega⟩, rfl, ?_, by dsimp only; omega⟩
            rw [yC b i.toNat (by omega)]
            exact step _ _ q4 q3 (fun _ => q1.symm) hc5
          · simp only [Bool.and_eq_true, decide_eq_true_eq, gt_iff_lt, not_and] at hc6
            refine ⟨⟨i0, hc5⟩, ⟨rfl, by rw [yD]; omega⟩, rfl, ?_, by dsimp only; omega⟩
            rw [yC b i.toNat (by omega)]
            exact step _ _ hw ht (fun h => hw (y + i) (Int.le_refl _) ((Int.lt_or_le t (y + i)).elim (fun h2 => absurd h (hc6 h2)) id)) hc5
        · simp only [decide_eq_true_eq] at hc5
          have hi : i = 128 := by omega
          subst hi
          obtain ⟨B, hB⟩ : ∃ B : aQ Int, B.1 = b := ⟨⟨b, hbl⟩, rfl⟩
          subst hB
          have hcI : B.1.flatMap encI = cI B := rfl
          rw [hcI, yB]
          refine ⟨by rw [List.drop_zero, lB]; omega, (fun h => ⟨h, h⟩) ?_⟩
          refine (zej hk2 (by omega) _ _ B).mono ?_
          rintro _ _ ⟨k, kn', bn', blk', rfl, rfl, h1, h2, h3, h4⟩
          refine ⟨(k, eC kn', bn', aZ encI blk'), ⟨rfl, rfl⟩, ⟨trivial, ⟨rfl, rfl, rfl⟩, trivial, trivial, trivial, trivial, trivial⟩, ⟨fun e he => by simp at he; subst he; rfl, by rw [g9]; omega⟩, rfl, ⟨idx2 ++ [k], blk', kn', ev2, by simp [aV, kvI], rfl, rfl, rfl, h1.push h2 h3 fun j u' hj hlt => ?_, by simp; omega, by simp; omega, by omega, fun j a1 a2 => hw j (by omega) a2, ht⟩, by dsimp only; omega⟩
          have hj2 : j < 128 := by have := (List.getElem?_eq_some_iff.1 hj).1; simp only [hbl] at this; exact this
          rw [← hy]
          exact hbq j u' hj (by omega) (by omega)
  · simp only [decide_eq_true_eq] at hc
    exact ⟨_, _, _, _, idx, blk, rfl, by omega, hk.idx_ok⟩
end Go.Eng



namespace Go.Eng
open Go Go.Proofs
def jW (n f : Bool) (es : LL) (za zb zc zd : Bool) (i last : Int) (x3 : Int) (x14 : Int) (h1_0 : Bool) (h1_1 : Bool) (h1_2 : Bool) (h1_3 : Bool) : Env × Hp := ([(2, LV.pv (PV.int IntKind.i64 i)), (3, .pv (.int IntKind.i64 x3)), (5, LV.box 0 0), (8, LV.box 1 0), (12, LV.pv (PV.sl n f es)), (13, LV.pv (PV.int IntKind.i64 ↑es.length)), (14, .pv (.int IntKind.i64 x14))], [.box [LV.pv (PV.bool za), LV.pv (PV.bool zb), LV.pv (PV.bool zc), LV.pv (PV.bool zd)], .box [.pv (.bool h1_0), .pv (.bool h1_1), .pv (.bool h1_2), .pv (.bool h1_3)]])
def yE (n f : Bool) (es : LL) (za zb zc zd : Bool) (i last : Int) (J : Int → Int → Bool → Bool → Bool → Bool → Prop) (μ : Int → Int → Bool → Bool → Bool → Bool → Nat) (R : PV → Prop) : Prop :=
 (aB (jW n f es za zb zc zd i last last (0 : Int) false false false false) ∧ J last (0 : Int) false false false false) ∧ ∀ (x3 x14 : Int) (h1_0 h1_1 h1_2 h1_3 : Bool), J x3 x14 h1_0 h1_1 h1_2 h1_3 → if decide (x14 < (↑es.length : Int))
 = true then aO es x14 6 ∧ ∃ (n1 : Int), (es.getD x14.toNat []).head? = some (Z6 n1) ∧ ∃ (n2 : Int), (es.getD x14.toNat []).tail.head? = some (Z6 n2) ∧ ∃ (b : Bool), (es.getD x14.toNat []).tail.tail.head? = some (Zb b) ∧ ∃ (b1 : Bool),
 (es.getD x14.toNat []).tail.tail.tail.head? = some (Zb b1) ∧ ∃ (b2 : Bool), (es.getD x14.toNat []).tail.tail.tail.tail.head? = some (Zb b2) ∧ ∃ (b3 : Bool), (es.getD x14.toNat []).tail.tail.tail.tail.tail.head? = some (Zb b3) ∧ if decide
 (n1 ≤ i) = true then if decide (i ≤ n2) = true then (R (PV.tup [PV.agg [Zb b, Zb b1, Zb b2, Zb b3], Z6 (if x3 < n2 then x3 else n2)]) ∧ R (PV.tup [PV.agg [Zb b, Zb b1, Zb b2, Zb b3], Z6 (if x3 < n2 then x3 else n2)])) ∧ R (PV.tup [PV.agg
 [Zb b, Zb b1, Zb b2, Zb b3], Z6 (if x3 < n2 then x3 else n2)]) else if decide (i < n1) = true then if decide (n1 ≤ x3) = true then aB (jW n f es za zb zc zd i last (IntKind.i64.wrap (n1 - 1)) (IntKind.i64.wrap (x14 + 1)) h1_0 h1_1
 h1_2 h1_3) ∧ J (IntKind.i64.wrap (n1 - 1)) (IntKind.i64.wrap (x14 + 1)) h1_0 h1_1 h1_2 h1_3 ∧ μ (IntKind.i64.wrap (n1 - 1)) (IntKind.i64.wrap (x14 + 1)) h1_0 h1_1 h1_2 h1_3 < μ x3 x14 h1_0 h1_1 h1_2 h1_3 else aB (jW n f es za zb zc zd
 i last x3 (IntKind.i64.wrap (x14 + 1)) h1_0 h1_1 h1_2 h1_3) ∧ J x3 (IntKind.i64.wrap (x14 + 1)) h1_0 h1_1 h1_2 h1_3 ∧ μ x3 (IntKind.i64.wrap (x14 + 1)) h1_0 h1_1 h1_2 h1_3 < μ x3 x14 h1_0 h1_1 h1_2 h1_3 else aB (jW n f es za zb zc zd
 i last x3 (IntKind.i64.wrap (x14 + 1)) h1_0 h1_1 h1_2 h1_3) ∧ J x3 (IntKind.i64.wrap (x14 + 1)) h1_0 h1_1 h1_2 h1_3 ∧ μ x3 (IntKind.i64.wrap (x14 + 1)) h1_0 h1_1 h1_2 h1_3 < μ x3 x14 h1_0 h1_1 h1_2 h1_3 else if decide (i < n1) = true then
 if decide (n1 ≤ x3) = true then aB (jW n f es za zb zc zd i last (IntKind.i64.wrap (n1 - 1)) (IntKind.i64.wrap (x14 + 1)) h1_0 h1_1 h1_2 h1_3) ∧ J (IntKind.i64.wrap (n1 - 1)) (IntKind.i64.wrap (x14 + 1)) h1_0 h1_1 h1_2 h1_3 ∧ μ
 (IntKind.i64.wrap (n1 - 1)) (IntKind.i64.wrap (x14 + 1)) h1_0 h1_1 h1_2 h1_3 < μ x3 x14 h1_0 h1_1 h1_2 h1_3 else aB (jW n f es za zb zc zd i last x3 (IntKind.i64.wrap (x14 + 1)) h1_0 h1_1 h1_2 h1_3) ∧ J x3 (IntKind.i64.wrap (x14 + 1))
 h1_0 h1_1 h1_2 h1_3 ∧ μ x3 (IntKind.i64.wrap (x14 + 1)) h1_0 h1_1 h1_2 h1_3 < μ x3 x14 h1_0 h1_1 h1_2 h1_3 else aB (jW n f es za zb zc zd i last x3 (IntKind.i64.wrap (x14 + 1)) h1_0 h1_1 h1_2 h1_3) ∧ J x3 (IntKind.i64.wrap (x14 + 1))
 h1_0 h1_1 h1_2 h1_3 ∧ μ x3 (IntKind.i64.wrap (x14 + 1)) h1_0 h1_1 h1_2 h1_3 < μ x3 x14 h1_0 h1_1 h1_2 h1_3 else R (PV.tup [PV.agg [Zb za, Zb zb, Zb zc, Zb zd], Z6 x3])
theorem zl4 (n f : Bool) (es : LL) (za zb zc zd : Bool) (i last : Int) (J : Int → Int → Bool → Bool → Bool → Bool → Prop) (μ : Int → Int → Bool → Bool → Bool → Bool → Nat) {R : PV → Prop} (h : yE n f es za zb zc zd i last J μ R) : PCall Try.prog 88 [.sl n f es, .agg [.bool za, .bool zb, .bool zc, .bool zd], .int .i64 i, .int .i64 last] R :=
  PCall.of Try.func88 (by kernel_rfl) (by kernel_rfl) (Nat.le_of_ble_eq_true (by kernel_rfl)) (Eq.mpr (by kernel_rfl : aW Try.prog (fun _ => none) Try.f88 [0, 1, 2, 3, 5, 8, 9, 11, 12, 13, 14, 15, 18, 35] (fun zz_ => match zz_ with | 2 => some ⟨Int × Int × Bool × Bool × Bool × Bool, fun s => jW n f es za zb zc zd i last s.1 s.2.1 s.2.2.1 s.2.2.2.1 s.2.2.2.2.1 s.2.2.2.2.2, fun _ s => J s.1 s.2.1 s.2.2.1 s.2.2.2.1 s.2.2.2.2.1 s.2.2.2.2.2, fun s => μ s.1 s.2.1 s.2.2.1 s.2.2.2.1 s.2.2.2.2.1 s.2.2.2.2.2, fun e h => (gI e 3, gI e 14, hB h 1 0, hB h 1 1, hB h 1 2, hB h 1 3), [], [2, 3, 5, 8, 12, 13, 14], [], fun p => ∀ (x3 : Int) (x14 : Int) (h1_0 : Bool) (h1_1 : Bool) (h1_2 : Bool) (h1_3 : Bool), p (x3, x14, h1_0, h1_1, h1_2, h1_3), fun p h s => h s.1 s.2.1 s.2.2.1 s.2.2.2.1 s.2.2.2.2.1 s.2.2.2.2.2⟩ | _ => none) (Try.f88.body.getD .skip) [.sl n f es, .agg [.bool za, .bool zb, .bool zc, .bool zd], .int .i64 i, .int .i64 last] R = yE n f es za zb zc zd i last J μ R) h)

def yF (sz : Int) (n f n2 f2 : Bool) (es bs : LL) (i : Int) (R : PV → Prop) : Prop :=
 if decide (i < 0) = true then R (PV.agg [Zb false, Zb false, Zb false, Zb false]) else ∃ (n1 : Int), some (Z6 sz) = some (Z6 n1) ∧ if decide (i ≥ n1) = true then R (PV.agg [Zb false, Zb false, Zb false, Zb false]) else ∃ (n3 : Bool), ∃ (f1
 : Bool), ∃ (es1 : LL), some (PV.sl n2 f2 bs) = some (PV.sl n3 f1 es1) ∧ ∃ (n4 : Bool), ∃ (f3 : Bool), ∃ (es2 : LL), some (PV.sl n f es) = some (PV.sl n4 f3 es2) ∧ aO es2 (IntKind.i64.wrap (i.tdiv (128 : Int))) 1 ∧ ∃ (n5 : Int), (es2.getD
 (IntKind.i64.wrap (i.tdiv (128 : Int))).toNat []).head? = some (Z6 n5) ∧ aO es1 n5 512 ∧ ((0 : Int) ≤ i.tmod (128 : Int) ∧ i.tmod (128 : Int) < (↑128 : Int)) ∧ ∃ (b : Bool), (List.drop ((i.tmod (128 : Int)).toNat * 4) (es1.getD n5.toNat
 [])).head? = some (Zb b) ∧ ∃ (b1 : Bool), (List.drop ((i.tmod (128 : Int)).toNat * 4) (es1.getD n5.toNat [])).tail.head? = some (Zb b1) ∧ ∃ (b2 : Bool), (List.drop ((i.tmod (128 : Int)).toNat * 4) (es1.getD n5.toNat [])).tail.tail.head? =
 some (Zb b2) ∧ ∃ (b3 : Bool), (List.drop ((i.tmod (128 : Int)).toNat * 4) (es1.getD n5.toNat [])).tail.tail.tail.head? = some (Zb b3) ∧ R (PV.agg [Zb b, Zb b1, Zb b2, Zb b3])
theorem zl5 (sz : Int) (n f n2 f2 : Bool) (es bs : LL) (i : Int) {R : PV → Prop} (h : yF sz n f n2 f2 es bs i R) : PCall Try.prog 69 [.ptr [.int .i64 sz, .sl n f es, .sl n2 f2 bs], .int .i64 i] R :=
  PCall.of Try.func69 (by kernel_rfl) (by kernel_rfl) (Nat.le_of_ble_eq_true (by kernel_rfl)) (Eq.mpr (by kernel_rfl : aW Try.prog (fun _ => none) Try.f69 [0, 1, 4, 5, 19] (fun _ => none) (Try.f69.body.getD .skip) [.ptr [.int .i64 sz, .sl n f es, .sl n2 f2 bs], .int .i64 i] R = yF sz n f n2 f2 es bs i R) h)

def yG (sz : Int) (kn ev : List (PV × PV)) (ixm ixn bkm bkn : Bool) (ix bk : LL) (b : List PV) (R : LV → Hp → Prop) : Prop :=
 512 ≤ (List.drop 0 b).length ∧ cA Try.prog 162 kn ∧ aX Try.prog 162 (PV.agg (List.take 512 (List.drop 0 b))) = true ∧ (∀ (v : PV), bS (PV.agg (List.take 512 (List.drop 0 b))) kn = some v → ∃ (n : Int), v = Z6 n ∧ R (Y6 n) [Ob.box
 [LV.box 1 0, LV.mp 2, LV.mp 3], Ob.box [Y6 sz, LV.own 4, LV.own 5], Ob.mp kn, Ob.mp ev, Ob.sl (3, 1) ixm ixn ix, Ob.sl (162, 512) bkm bkn bk]) ∧ (bS (PV.agg (List.take 512 (List.drop 0 b))) kn = none → 512 ≤ (List.drop 0 b).length ∧
 cA Try.prog 162 kn ∧ aX Try.prog 162 (PV.agg (List.take 512 (List.drop 0 b))) = true ∧ 512 ≤ (List.drop 0 b).length ∧ ((List.take 512 (List.drop 0 b)).length = 512 ∧ (aR [List.take 512 (List.drop 0 b)] 512 ∧ (bk.length + 1) * 512 ≤
 140737488355328) ∧ R (Y6 (↑bk.length : Int)) [Ob.box [LV.box 1 0, LV.mp 2, LV.mp 3], Ob.box [Y6 sz, LV.own 4, LV.own 5], Ob.mp (aP (PV.agg (List.take 512 (List.drop 0 b))) (Z6 (↑bk.length : Int)) kn), Ob.mp ev, Ob.sl (3, 1) ixm ixn ix,
 Ob.sl (162, 512) true (bkn && false) (bk ++ [List.take 512 (List.drop 0 b)])]) ∧ (List.take 512 (List.drop 0 b)).length = 512 ∧ Dup ((aR [List.take 512 (List.drop 0 b)] 512 ∧ (bk.length + 1) * 512 ≤ 140737488355328) ∧ R (Y6 (↑bk.length :
 Int)) [Ob.box [LV.box 1 0, LV.mp 2, LV.mp 3], Ob.box [Y6 sz, LV.own 4, LV.own 5], Ob.mp (aP (PV.agg (List.take 512 (List.drop 0 b))) (Z6 (↑bk.length : Int)) kn), Ob.mp ev, Ob.sl (3, 1) ixm ixn ix, Ob.sl (162, 512) true (bkn && false)
 (bk ++ [List.take 512 (List.drop 0 b)])]))
theorem zl6 (sz : Int) (kn ev : List (PV × PV)) (ixm ixn bkm bkn : Bool) (ix bk : LL) (b : List PV) {R : LV → Hp → Prop} (h : yG sz kn ev ixm ixn bkm bkn ix bk b R) : ACall Try.prog 90 [.box 0 0, .pv (.agg b)] [.box [.box 1 0, .mp 2, .mp 3], .box [.pv (.int .i64 sz), .own 4, .own 5], .mp kn, .mp ev, .sl (3, 1) ixm ixn ix, .sl (162, 512) bkm bkn bk] R :=
  ACall.of Try.func90 (by kernel_rfl) (by kernel_rfl) (Nat.le_of_ble_eq_true (by kernel_rfl)) (Eq.mpr (by kernel_rfl : dH Try.prog (fun _ => none) Try.f90 [0, 1, 3, 4, 5, 6, 17] (fun _ => none) [0,1,2,3,4,5] (Try.f90.body.getD .skip) [.box 0 0, .pv (.agg b)] [.box [.box 1 0, .mp 2, .mp 3], .box [.pv (.int .i64 sz), .own 4, .own 5], .mp kn, .mp ev, .sl (3, 1) ixm ixn ix, .sl (162, 512) bkm bkn bk] R = yG sz kn ev ixm ixn bkm bkn ix bk b R) h)

def yH (sz : Int) (kn ev : List (PV × PV)) (ixm ixn bkm bkn : Bool) (ix bk : LL) (va vb vc vd : Bool) (x20 : Int) (m_2 : List (PV × PV)) (m_3 : List (PV × PV)) (c_7 : List PV) : Env × Hp := ([(0, LV.box 0 0), (3, LV.box 6 0), (7, LV.box 7 0), (20, .pv (.int IntKind.i64 x20))], [.box [LV.box 1 0, LV.mp 2, LV.mp 3], .box [LV.pv (PV.int IntKind.i64 sz), LV.own 4, LV.own 5], .mp m_2, .mp m_3, .sl (3, 1) ixm ixn ix, .sl (162, 512) bkm bkn bk, .box [LV.pv (PV.bool va), LV.pv (PV.bool vb), LV.pv (PV.bool vc), LV.pv (PV.bool vd)], .arr c_7])
def yI (sz : Int) (kn ev : List (PV × PV)) (ixm ixn bkm bkn : Bool) (ix bk : LL) (va vb vc vd : Bool) (J : Int → (List (PV × PV)) → (List (PV × PV)) → (List PV) → Prop) (μ : Int → (List (PV × PV)) → (List (PV × PV)) → (List PV) → Nat) (R : LV → Hp → Prop) : Prop :=
 cA Try.prog 96 ev ∧ aX Try.prog 96 (PV.agg [Zb va, Zb vb, Zb vc, Zb vd]) = true ∧ (∀ (v : PV), bS (PV.agg [Zb va, Zb vb, Zb vc, Zb vd]) ev = some v → ∃ (n : Int), v = Z6 n ∧ R (Y6 n) [Ob.box [LV.box 1 0, LV.mp 2, LV.mp 3], Ob.box
 [Y6 sz, LV.own 4, LV.own 5], Ob.mp kn, Ob.mp ev, Ob.sl (3, 1) ixm ixn ix, Ob.sl (162, 512) bkm bkn bk]) ∧ (bS (PV.agg [Zb va, Zb vb, Zb vc, Zb vd]) ev = none → (SameSt ([(0, LV.box 0 0), (3, LV.box 6 0), (7, LV.box 7 0), (20, Y6 0)],
 [Ob.box [LV.box 1 0, LV.mp 2, LV.mp 3], Ob.box [Y6 sz, LV.own 4, LV.own 5], Ob.mp kn, Ob.mp ev, Ob.sl (3, 1) (bif false then true else ixm) ixn ix, Ob.sl (162, 512) (bif false then true else bkm) bkn bk, Ob.box [LV.pv (Zb va), LV.pv (Zb
 vb), LV.pv (Zb vc), LV.pv (Zb vd)], Ob.arr (List.replicate 512 (Zb false))]) (yH sz kn ev ixm ixn bkm bkn ix bk va vb vc vd (0 : Int) kn ev (List.replicate 512 (Zb false))) ∧ J (0 : Int) kn ev (List.replicate 512 (Zb false))) ∧ ∀ (x20 :
 Int) (m_2 m_3 : List (PV × PV)) (c_7 : List PV), J x20 m_2 m_3 c_7 → if decide (x20 < 128) = true then ((0 : Int) ≤ x20 ∧ x20 < (↑128 : Int)) ∧ (4 = 4 ∧ 0 + x20.toNat * 4 + 4 ≤ c_7.length) ∧ SameSt ([(0, LV.box 0 0), (3, LV.box 6 0), (7,
 LV.box 7 0), (20, LV.pv (Z6 (IntKind.i64.wrap (x20 + 1))))], [Ob.box [LV.box 1 0, LV.mp 2, LV.mp 3], Ob.box [Y6 sz, LV.own 4, LV.own 5], Ob.mp m_2, Ob.mp m_3, Ob.sl (3, 1) (bif false then true else ixm) ixn ix, Ob.sl (162, 512) (bif false
 then true else bkm) bkn bk, Ob.box [LV.pv (Zb va), LV.pv (Zb vb), LV.pv (Zb vc), LV.pv (Zb vd)], Ob.arr (aL c_7 (0 + x20.toNat * 4) [Zb va, Zb vb, Zb vc, Zb vd])]) (yH sz kn ev ixm ixn bkm bkn ix bk va vb vc vd (IntKind.i64.wrap (x20 +
 1)) m_2 m_3 (aL c_7 (0 + x20.toNat * 4) [Zb va, Zb vb, Zb vc, Zb vd])) ∧ J (IntKind.i64.wrap (x20 + 1)) m_2 m_3 (aL c_7 (0 + x20.toNat * 4) [Zb va, Zb vb, Zb vc, Zb vd]) ∧ μ (IntKind.i64.wrap (x20 + 1)) m_2 m_3 (aL c_7 (0 + x20.toNat *
 4) [Zb va, Zb vb, Zb vc, Zb vd]) < μ x20 m_2 m_3 c_7 else 512 ≤ (List.drop 0 c_7).length ∧ ACall Try.prog 90 [LV.box 0 0, LV.pv (PV.agg (List.take 512 (List.drop 0 c_7)))] [Ob.box [LV.box 1 0, LV.mp 2, LV.mp 3], Ob.box [Y6 sz, LV.own 4,
 LV.own 5], Ob.mp m_2, Ob.mp m_3, Ob.sl (3, 1) false ixn ix, Ob.sl (162, 512) false bkn bk] fun (r : LV) (h' : Hp) ↦ ∃ (t : Int × List (PV × PV) × Bool × LL), (r = Y6 t.1 ∧ h' = [Ob.box [LV.box 1 0, LV.mp 2, LV.mp 3], Ob.box [Y6 sz, LV.own
 4, LV.own 5], Ob.mp t.snd.fst, Ob.mp m_3, Ob.sl (3, 1) false ixn ix, Ob.sl (162, 512) true t.snd.snd.fst t.snd.snd.snd]) ∧ (True ∧ ((3, 1) = (3, 1) ∧ ixn = ixn ∧ ix.length = ix.length) ∧ True ∧ True ∧ True ∧ True ∧ True) ∧ cA Try.prog
 96 m_3 ∧ aX Try.prog 96 (PV.agg [Zb va, Zb vb, Zb vc, Zb vd]) = true ∧ R (Y6 t.1) [Ob.box [LV.box 1 0, LV.mp 2, LV.mp 3], Ob.box [Y6 sz, LV.own 4, LV.own 5], Ob.mp t.snd.fst, Ob.mp (aP (PV.agg [Zb va, Zb vb, Zb vc, Zb vd]) (Z6 t.1)
 m_3), Ob.sl (3, 1) (ixm || false) ixn ix, Ob.sl (162, 512) (bkm || true) t.snd.snd.fst t.snd.snd.snd])
theorem zl7 (sz : Int) (kn ev : List (PV × PV)) (ixm ixn bkm bkn : Bool) (ix bk : LL) (va vb vc vd : Bool) (J : Int → (List (PV × PV)) → (List (PV × PV)) → (List PV) → Prop) (μ : Int → (List (PV × PV)) → (List (PV × PV)) → (List PV) → Nat) {R : LV → Hp → Prop} (h : yI sz kn ev ixm ixn bkm bkn ix bk va vb vc vd J μ R) : ACall Try.prog 89 [.box 0 0, .pv (.agg [.bool va, .bool vb, .bool vc, .bool vd])] [.box [.box 1 0, .mp 2, .mp 3], .box [.pv (.int .i64 sz), .own 4, .own 5], .mp kn, .mp ev, .sl (3, 1) ixm ixn ix, .sl (162, 512) bkm bkn bk] R :=
  ACall.of Try.func89 (by kernel_rfl) (by kernel_rfl) (Nat.le_of_ble_eq_true (by kernel_rfl)) (Eq.mpr (by kernel_rfl : dH Try.prog (fun zz_ => match zz_ with | 90 => some ⟨Int × List (PV × PV) × Bool × LL, fun _ hs t => (.pv (.int .i64 t.1), match hs with | [m, r, .mp _, ev, ix, .sl a _ _ _] => [m, r, .mp t.2.1, ev, ix, .sl a true t.2.2.1 t.2.2.2] | h => h), none⟩ | _ => none) Try.f89 [0, 1, 3, 4, 5, 6, 7, 8, 19, 20, 21] (fun zz_ => match zz_ with | 5 => some ⟨Int × (List (PV × PV)) × (List (PV × PV)) × (List PV), fun s => yH sz kn ev ixm ixn bkm bkn ix bk va vb vc vd s.1 s.2.1 s.2.2.1 s.2.2.2, fun _ s => J s.1 s.2.1 s.2.2.1 s.2.2.2, fun s => μ s.1 s.2.1 s.2.2.1 s.2.2.2, fun e h => (gI e 20, oM h 2, oM h 3, oA h 7), [], [0, 3, 7, 20], [], fun p => ∀ (x20 : Int) (m_2 : List (PV × PV)) (m_3 : List (PV × PV)) (c_7 : List PV), p (x20, m_2, m_3, c_7), fun p h s => h s.1 s.2.1 s.2.2.1 s.2.2.2⟩ | _ => none) [0,1,2,3,4,5] (Try.f89.body.getD .skip) [.box 0 0, .pv (.agg [.bool va, .bool vb, .bool vc, .bool vd])] [.box [.box 1 0, .mp 2, .mp 3], .box [.pv (.int .i64 sz), .own 4, .own 5], .mp kn, .mp ev, .sl (3, 1) ixm ixn ix, .sl (162, 512) bkm bkn bk] R = yI sz kn ev ixm ixn bkm bkn ix bk va vb vc vd J μ R) h)

def jX (sz : Int) (za zb zc zd : Bool) (n f : Bool) (es : LL) (x10 : Int) (x11 : Int) (h3_0 : Bool) (h3_1 : Bool) (h3_2 : Bool) (h3_3 : Bool) (n_4 : Bool) (s_4 : LL) (n_5 : Bool) (s_5 : LL) (m_6 : List (PV × PV)) (m_7 : List (PV × PV)) : Env × Hp := ([(0, LV.pv (PV.int IntKind.i64 sz)), (2, LV.pv (PV.sl n f es)), (4, LV.box 0 0), (7, LV.box 1 0), (8, LV.box 2 0), (9, LV.box 3 0), (10, .pv (.int IntKind.i64 x10)), (11, .pv (.int IntKind.i64 x11))], [.box [LV.pv (PV.bool za), LV.pv (PV.bool zb), LV.pv (PV.bool zc), LV.pv (PV.bool zd)], .box [LV.pv (PV.int IntKind.i64 sz), LV.own 4, LV.own 5], .box [LV.box 1 0, LV.mp 6, LV.mp 7], .box [.pv (.bool h3_0), .pv (.bool h3_1), .pv (.bool h3_2), .pv (.bool h3_3)], .sl (3, 1) true n_4 s_4, .sl (162, 512) true n_5 s_5, .mp m_6, .mp m_7])
def o7 (sz : Int) (za zb zc zd : Bool) (n f : Bool) (es : LL) (x10 : Int) (x11 : Int) (x13 : Int) (h3_0 : Bool) (h3_1 : Bool) (h3_2 : Bool) (h3_3 : Bool) (n_4 : Bool) (s_4 : LL) (n_5 : Bool) (s_5 : LL) (m_6 : List (PV × PV)) (m_7 : List (PV × PV)) : Env × Hp := ([(0, LV.pv (PV.int IntKind.i64 sz)), (2, LV.pv (PV.sl n f es)), (4, LV.box 0 0), (7, LV.box 1 0), (8, LV.box 2 0), (9, LV.box 3 0), (10, .pv (.int IntKind.i64 x10)), (11, .pv (.int IntKind.i64 x11)), (13, .pv (.int IntKind.i64 x13))], [.box [LV.pv (PV.bool za), LV.pv (PV.bool zb), LV.pv (PV.bool zc), LV.pv (PV.bool zd)], .box [LV.pv (PV.int IntKind.i64 sz), LV.own 4, LV.own 5], .box [LV.box 1 0, LV.mp 6, LV.mp 7], .box [.pv (.bool h3_0), .pv (.bool h3_1), .pv (.bool h3_2), .pv (.bool h3_3)], .sl (3, 1) true n_4 s_4, .sl (162, 512) true n_5 s_5, .mp m_6, .mp m_7])
def lC (sz : Int) (za zb zc zd : Bool) (n f : Bool) (es : LL) (x10 : Int) (x11 : Int) (x88 : Int) (h3_0 : Bool) (h3_1 : Bool) (h3_2 : Bool) (h3_3 : Bool) (c_4 : List PV) (n_5 : Bool) (s_5 : LL) (n_6 : Bool) (s_6 : LL) (m_7 : List (PV × PV)) (m_8 : List (PV × PV)) : Env × Hp := ([(0, LV.pv (PV.int IntKind.i64 sz)), (2, LV.pv (PV.sl n f es)), (4, LV.box 0 0), (7, LV.box 1 0), (8, LV.box 2 0), (9, LV.box 3 0), (10, .pv (.int IntKind.i64 x10)), (11, .pv (.int IntKind.i64 x11)), (14, LV.box 4 0), (88, .pv (.int IntKind.i64 x88))], [.box [LV.pv (PV.bool za), LV.pv (PV.bool zb), LV.pv (PV.bool zc), LV.pv (PV.bool zd)], .box [LV.pv (PV.int IntKind.i64 sz), LV.own 5, LV.own 6], .box [LV.box 1 0, LV.mp 7, LV.mp 8], .box [.pv (.bool h3_0), .pv (.bool h3_1), .pv (.bool h3_2), .pv (.bool h3_3)], .arr c_4, .sl (3, 1) true n_5 s_5, .sl (162, 512) true n_6 s_6, .mp m_7, .mp m_8])
def yJ (sz : Int) (za zb zc zd : Bool) (n f : Bool) (es : LL) (J : Int → Int → Bool → Bool → Bool → Bool → Bool → (LL) → Bool → (LL) → (List (PV × PV)) → (List (PV × PV)) → Prop) (μ : Int → Int → Bool → Bool → Bool → Bool → Bool → (LL) → Bool → (LL) → (List (PV × PV)) → (List (PV × PV)) → Nat) (J2 : Int → Int → Int → Bool → Bool → Bool → Bool → Bool → (LL) → Bool → (LL) → (List (PV × PV)) → (List (PV × PV)) → Int → Int → Int → Bool → Bool → Bool → Bool → Bool → (LL) → Bool → (LL) → (List (PV × PV)) → (List (PV × PV)) → Prop) (μ2 : Int → Int → Int → Bool → Bool → Bool → Bool → Bool → (LL) → Bool → (LL) → (List (PV × PV)) → (List (PV × PV)) → Nat) (J3 : Int → Int → Int → Bool → Bool → Bool → Bool → (List PV) → Bool → (LL) → Bool → (LL) → (List (PV × PV)) → (List (PV × PV)) → Int → Int → Int → Bool → Bool → Bool → Bool → (List PV) → Bool → (LL) → Bool → (LL) → (List (PV × PV)) → (List (PV × PV)) → Prop) (μ3 : Int → Int → Int → Bool → Bool → Bool → Bool → (List PV) → Bool → (LL) → Bool → (LL) → (List (PV × PV)) → (List (PV × PV)) → Nat) (R : PV → Prop) : Prop :=
 if decide (sz < 1) = true then R PV.nilp else PCall Try.prog 88 [PV.sl n f es, PV.agg [Zb za, Zb zb, Zb zc, Zb zd], Z6 0, Z6 (IntKind.i64.wrap (sz - 1))] fun (v : PV) ↦ ∃ (vs : List PV), v = PV.tup vs ∧ vs.length = 2 ∧ ∃ (x : PV), vs.head?
 = some x ∧ ∃ (cs : List PV), x = PV.agg cs ∧ cs.length = 4 ∧ ∃ (b : Bool), cs.head? = some (Zb b) ∧ ∃ (b1 : Bool), cs.tail.head? = some (Zb b1) ∧ ∃ (b2 : Bool), cs.tail.tail.head? = some (Zb b2) ∧ ∃ (b3 : Bool), cs.tail.tail.tail.head? =
 some (Zb b3) ∧ ∃ (x1 : PV), vs.tail.head? = some x1 ∧ ∃ (n1 : Int), x1 = Z6 n1 ∧ (aB (jX sz za zb zc zd n f es n1 (0 : Int) b b1 b2 b3 true [] true [] [] []) ∧ J n1 (0 : Int) b b1 b2 b3 true [] true [] [] []) ∧ ∀ (x10 x11 : Int) (h3_0
 h3_1 h3_2 h3_3 n_4 : Bool) (s_4 : LL) (n_5 : Bool) (s_5 : LL) (m_6 m_7 : List (PV × PV)), J x10 x11 h3_0 h3_1 h3_2 h3_3 n_4 s_4 n_5 s_5 m_6 m_7 → if decide (x11 < sz) = true then if decide (x11 > x10) = true then PCall Try.prog 88 [PV.sl n
 f es, PV.agg [Zb za, Zb zb, Zb zc, Zb zd], Z6 x11, Z6 (IntKind.i64.wrap (sz - 1))] fun (v1 : PV) ↦ ∃ (vs1 : List PV), v1 = PV.tup vs1 ∧ vs1.length = 2 ∧ ∃ (x2 : PV), vs1.head? = some x2 ∧ ∃ (cs1 : List PV), x2 = PV.agg cs1 ∧ cs1.length = 4
 ∧ ∃ (b4 : Bool), cs1.head? = some (Zb b4) ∧ ∃ (b5 : Bool), cs1.tail.head? = some (Zb b5) ∧ ∃ (b6 : Bool), cs1.tail.tail.head? = some (Zb b6) ∧ ∃ (b7 : Bool), cs1.tail.tail.tail.head? = some (Zb b7) ∧ ∃ (x3 : PV), vs1.tail.head? = some x3 ∧
 ∃ (n2 : Int), x3 = Z6 n2 ∧ if decide (n2 ≥ IntKind.i64.wrap ((if sz < IntKind.i64.wrap (x11 + 128) then sz else IntKind.i64.wrap (x11 + 128)) - 1)) = true then ACall Try.prog 89 [LV.box 0 0, LV.pv (PV.agg [Zb b4, Zb b5, Zb b6, Zb b7])]
 [Ob.box [LV.box 1 0, LV.mp 2, LV.mp 3], Ob.box [Y6 sz, LV.own 4, LV.own 5], Ob.mp m_6, Ob.mp m_7, Ob.sl (3, 1) false n_4 s_4, Ob.sl (162, 512) false n_5 s_5] fun (r : LV) (h' : Hp) ↦ ∃ (t : Int × List (PV × PV) × List (PV × PV) × Bool ×
 LL), (r = Y6 t.1 ∧ h' = [Ob.box [LV.box 1 0, LV.mp 2, LV.mp 3], Ob.box [Y6 sz, LV.own 4, LV.own 5], Ob.mp t.snd.fst, Ob.mp t.snd.snd.fst, Ob.sl (3, 1) false n_4 s_4, Ob.sl (162, 512) true t.snd.snd.snd.fst t.snd.snd.snd.snd]) ∧ (True ∧ (((3
 : Nat), 1) = (3, 1) ∧ n_4 = n_4 ∧ s_4.length = s_4.length) ∧ True ∧ True ∧ True ∧ True ∧ True) ∧ (aB (o7 sz za zb zc zd n f es n2 x11 t.1 b4 b5 b6 b7 n_4 s_4 t.snd.snd.snd.fst t.snd.snd.snd.snd t.snd.fst t.snd.snd.fst) ∧ J2 n2 x11
 t.1 b4 b5 b6 b7 n_4 s_4 t.snd.snd.snd.fst t.snd.snd.snd.snd t.snd.fst t.snd.snd.fst n2 x11 t.1 b4 b5 b6 b7 n_4 s_4 t.snd.snd.snd.fst t.snd.snd.snd.snd t.snd.fst t.snd.snd.fst) ∧ ∀ (x101 x111 x13 : Int) (h3_01 h3_11 h3_21 h3_31 n_41 : Bool)
 (s_41 : LL) (n_51 : Bool) (s_51 : LL) (m_61 m_71 : List (PV × PV)), J2 n2 x11 t.1 b4 b5 b6 b7 n_4 s_4 t.snd.snd.snd.fst t.snd.snd.snd.snd t.snd.fst t.snd.snd.fst x101 x111 x13 h3_01 h3_11 h3_21 h3_31 n_41 s_41 n_51 s_51 m_61 m_71 → if
 (decide (x111 < sz) && decide (x101 ≥ IntKind.i64.wrap ((if sz < IntKind.i64.wrap (x111 + 128) then sz else IntKind.i64.wrap (x111 + 128)) - 1))) = true then (aR [[Z6 x13]] 1 ∧ (s_41.length + 1) * 8 ≤ 140737488355328) ∧ aB (o7 sz
 za zb zc zd n f es x101 (IntKind.i64.wrap (x111 + 128)) x13 h3_01 h3_11 h3_21 h3_31 (n_41 && false) (s_41 ++ [[Z6 x13]]) n_51 s_51 m_61 m_71) ∧ J2 n2 x11 t.1 b4 b5 b6 b7 n_4 s_4 t.snd.snd.snd.fst t.snd.snd.snd.snd t.snd.fst t.snd.snd.fst
 x101 (IntKind.i64.wrap (x111 + 128)) x13 h3_01 h3_11 h3_21 h3_31 (n_41 && false) (s_41 ++ [[Z6 x13]]) n_51 s_51 m_61 m_71 ∧ μ2 x101 (IntKind.i64.wrap (x111 + 128)) x13 h3_01 h3_11 h3_21 h3_31 (n_41 && false) (s_41 ++ [[Z6 x13]]) n_51 s_51
 m_61 m_71 < μ2 x101 x111 x13 h3_01 h3_11 h3_21 h3_31 n_41 s_41 n_51 s_51 m_61 m_71 else aB (jX sz za zb zc zd n f es x101 (IntKind.i64.wrap (IntKind.i64.wrap (x111 - 128) + 128)) h3_01 h3_11 h3_21 h3_31 n_41 s_41 n_51 s_51 m_61 m_71)
 ∧ J x101 (IntKind.i64.wrap (IntKind.i64.wrap (x111 - 128) + 128)) h3_01 h3_11 h3_21 h3_31 n_41 s_41 n_51 s_51 m_61 m_71 ∧ μ x101 (IntKind.i64.wrap (IntKind.i64.wrap (x111 - 128) + 128)) h3_01 h3_11 h3_21 h3_31 n_41 s_41 n_51 s_51 m_61 m_71
 < μ x10 x11 h3_0 h3_1 h3_2 h3_3 n_4 s_4 n_5 s_5 m_6 m_7 else (aB (lC sz za zb zc zd n f es n2 x11 (0 : Int) b4 b5 b6 b7 (List.replicate 512 (Zb false)) n_4 s_4 n_5 s_5 m_6 m_7) ∧ J3 n2 x11 (0 : Int) b4 b5 b6 b7 (List.replicate 512
 (Zb false)) n_4 s_4 n_5 s_5 m_6 m_7 n2 x11 (0 : Int) b4 b5 b6 b7 (List.replicate 512 (Zb false)) n_4 s_4 n_5 s_5 m_6 m_7) ∧ ∀ (x101 x111 x88 : Int) (h3_01 h3_11 h3_21 h3_31 : Bool) (c_4 : List PV) (n_51 : Bool) (s_51 : LL) (n_6 : Bool) (s_6
 : LL) (m_71 m_8 : List (PV × PV)), J3 n2 x11 (0 : Int) b4 b5 b6 b7 (List.replicate 512 (Zb false)) n_4 s_4 n_5 s_5 m_6 m_7 x101 x111 x88 h3_01 h3_11 h3_21 h3_31 c_4 n_51 s_51 n_6 s_6 m_71 m_8 → if decide (x88 < 128) = true then if (decide
 (IntKind.i64.wrap (x111 + x88) > x101) && decide (IntKind.i64.wrap (x111 + x88) < sz)) = true then PCall Try.prog 88 [PV.sl n f es, PV.agg [Zb za, Zb zb, Zb zc, Zb zd], Z6 (IntKind.i64.wrap (x111 + x88)), Z6 (IntKind.i64.wrap (sz - 1))] fun
 (v2 : PV) ↦ ∃ (vs2 : List PV), v2 = PV.tup vs2 ∧ vs2.length = 2 ∧ ∃ (x4 : PV), vs2.head? = some x4 ∧ ∃ (cs2 : List PV), x4 = PV.agg cs2 ∧ cs2.length = 4 ∧ ∃ (b8 : Bool), cs2.head? = some (Zb b8) ∧ ∃ (b9 : Bool), cs2.tail.head? = some (Zb
 b9) ∧ ∃ (b10 : Bool), cs2.tail.tail.head? = some (Zb b10) ∧ ∃ (b11 : Bool), cs2.tail.tail.tail.head? = some (Zb b11) ∧ ∃ (x5 : PV), vs2.tail.head? = some x5 ∧ ∃ (n3 : Int), x5 = Z6 n3 ∧ ((0 : Int) ≤ x88 ∧ x88 < (↑128 : Int)) ∧ (4 = 4 ∧ 0 +
 x88.toNat * 4 + 4 ≤ c_4.length) ∧ aB (lC sz za zb zc zd n f es n3 x111 (IntKind.i64.wrap (x88 + 1)) b8 b9 b10 b11 (aL c_4 (0 + x88.toNat * 4) [Zb b8, Zb b9, Zb b10, Zb b11]) n_51 s_51 n_6 s_6 m_71 m_8) ∧ J3 n2 x11 (0 : Int) b4 b5 b6
 b7 (List.replicate 512 (Zb false)) n_4 s_4 n_5 s_5 m_6 m_7 n3 x111 (IntKind.i64.wrap (x88 + 1)) b8 b9 b10 b11 (aL c_4 (0 + x88.toNat * 4) [Zb b8, Zb b9, Zb b10, Zb b11]) n_51 s_51 n_6 s_6 m_71 m_8 ∧ μ3 n3 x111 (IntKind.i64.wrap (x88 + 1))
 b8 b9 b10 b11 (aL c_4 (0 + x88.toNat * 4) [Zb b8, Zb b9, Zb b10, Zb b11]) n_51 s_51 n_6 s_6 m_71 m_8 < μ3 x101 x111 x88 h3_01 h3_11 h3_21 h3_31 c_4 n_51 s_51 n_6 s_6 m_71 m_8 else ((0 : Int) ≤ x88 ∧ x88 < (↑128 : Int)) ∧ (4 = (4 : Nat) ∧ 0
 + x88.toNat * 4 + 4 ≤ c_4.length) ∧ aB (lC sz za zb zc zd n f es x101 x111 (IntKind.i64.wrap (x88 + 1)) h3_01 h3_11 h3_21 h3_31 (aL c_4 (0 + x88.toNat * 4) [Zb h3_01, Zb h3_11, Zb h3_21, Zb h3_31]) n_51 s_51 n_6 s_6 m_71 m_8) ∧ J3
 n2 x11 (0 : Int) b4 b5 b6 b7 (List.replicate 512 (Zb false)) n_4 s_4 n_5 s_5 m_6 m_7 x101 x111 (IntKind.i64.wrap (x88 + 1)) h3_01 h3_11 h3_21 h3_31 (aL c_4 (0 + x88.toNat * 4) [Zb h3_01, Zb h3_11, Zb h3_21, Zb h3_31]) n_51 s_51 n_6 s_6
 m_71 m_8 ∧ μ3 x101 x111 (IntKind.i64.wrap (x88 + 1)) h3_01 h3_11 h3_21 h3_31 (aL c_4 (0 + x88.toNat * 4) [Zb h3_01, Zb h3_11, Zb h3_21, Zb h3_31]) n_51 s_51 n_6 s_6 m_71 m_8 < μ3 x101 x111 x88 h3_01 h3_11 h3_21 h3_31 c_4 n_51 s_51 n_6 s_6
 m_71 m_8 else 512 ≤ (List.drop 0 c_4).length ∧ (ACall Try.prog 90 [LV.box 0 0, LV.pv (PV.agg (List.take 512 (List.drop 0 c_4)))] [Ob.box [LV.box 1 0, LV.mp 2, LV.mp 3], Ob.box [Y6 sz, LV.own 4, LV.own 5], Ob.mp m_71, Ob.mp m_8, Ob.sl (3, 1)
 false n_51 s_51, Ob.sl (162, 512) false n_6 s_6] fun (r : LV) (h' : Hp) ↦ ∃ (t : Int × List (PV × PV) × Bool × LL), (r = Y6 t.1 ∧ h' = [Ob.box [LV.box 1 0, LV.mp 2, LV.mp 3], Ob.box [Y6 sz, LV.own 4, LV.own 5], Ob.mp t.snd.fst, Ob.mp m_8,
 Ob.sl (3, 1) false n_51 s_51, Ob.sl (162, 512) true t.snd.snd.fst t.snd.snd.snd]) ∧ (True ∧ ((3, 1) = (3, 1) ∧ n_51 = n_51 ∧ s_51.length = s_51.length) ∧ True ∧ True ∧ True ∧ True ∧ True) ∧ (aR [[Z6 t.1]] 1 ∧ (s_51.length + 1) * 8 ≤
 140737488355328) ∧ aB (jX sz za zb zc zd n f es x101 (IntKind.i64.wrap (x111 + 128)) h3_01 h3_11 h3_21 h3_31 (n_51 && false) (s_51 ++ [[Z6 t.1]]) t.snd.snd.fst t.snd.snd.snd t.snd.fst m_8) ∧ J x101 (IntKind.i64.wrap (x111 + 128))
 h3_01 h3_11 h3_21 h3_31 (n_51 && false) (s_51 ++ [[Z6 t.1]]) t.snd.snd.fst t.snd.snd.snd t.snd.fst m_8 ∧ μ x101 (IntKind.i64.wrap (x111 + 128)) h3_01 h3_11 h3_21 h3_31 (n_51 && false) (s_51 ++ [[Z6 t.1]]) t.snd.snd.fst t.snd.snd.snd
 t.snd.fst m_8 < μ x10 x11 h3_0 h3_1 h3_2 h3_3 n_4 s_4 n_5 s_5 m_6 m_7) ∧ ACall Try.prog 90 [LV.box 0 0, LV.pv (PV.agg (List.take 512 (List.drop 0 c_4)))] [Ob.box [LV.box 1 0, LV.mp 2, LV.mp 3], Ob.box [Y6 sz, LV.own 4, LV.own 5], Ob.mp
 m_71, Ob.mp m_8, Ob.sl (3, 1) false n_51 s_51, Ob.sl (162, 512) false n_6 s_6] fun (r : LV) (h' : Hp) ↦ ∃ (t : Int × List (PV × PV) × Bool × LL), (r = Y6 t.1 ∧ h' = [Ob.box [LV.box 1 0, LV.mp 2, LV.mp 3], Ob.box [Y6 sz, LV.own 4, LV.own 5],
 Ob.mp t.snd.fst, Ob.mp m_8, Ob.sl (3, 1) false n_51 s_51, Ob.sl (162, 512) true t.snd.snd.fst t.snd.snd.snd]) ∧ (True ∧ ((3, 1) = (3, 1) ∧ n_51 = n_51 ∧ s_51.length = s_51.length) ∧ True ∧ True ∧ True ∧ True ∧ True) ∧ (aR [[Z6 t.1]] 1 ∧
 (s_51.length + 1) * 8 ≤ 140737488355328) ∧ aB (jX sz za zb zc zd n f es x101 (IntKind.i64.wrap (x111 + 128)) h3_01 h3_11 h3_21 h3_31 (n_51 && false) (s_51 ++ [[Z6 t.1]]) t.snd.snd.fst t.snd.snd.snd t.snd.fst m_8) ∧ J x101
 (IntKind.i64.wrap (x111 + 128)) h3_01 h3_11 h3_21 h3_31 (n_51 && false) (s_51 ++ [[Z6 t.1]]) t.snd.snd.fst t.snd.snd.snd t.snd.fst m_8 ∧ μ x101 (IntKind.i64.wrap (x111 + 128)) h3_01 h3_11 h3_21 h3_31 (n_51 && false) (s_51 ++ [[Z6 t.1]])
 t.snd.snd.fst t.snd.snd.snd t.snd.fst m_8 < μ x10 x11 h3_0 h3_1 h3_2 h3_3 n_4 s_4 n_5 s_5 m_6 m_7 else if decide (x10 ≥ IntKind.i64.wrap ((if sz < IntKind.i64.wrap (x11 + 128) then sz else IntKind.i64.wrap (x11 + 128)) - 1)) = true then
 ACall Try.prog 89 [LV.box 0 0, LV.pv (PV.agg [Zb h3_0, Zb h3_1, Zb h3_2, Zb h3_3])] [Ob.box [LV.box 1 0, LV.mp 2, LV.mp 3], Ob.box [Y6 sz, LV.own 4, LV.own 5], Ob.mp m_6, Ob.mp m_7, Ob.sl (3, 1) false n_4 s_4, Ob.sl (162, 512) false n_5
 s_5] fun (r : LV) (h' : Hp) ↦ ∃ (t : Int × List (PV × PV) × List (PV × PV) × Bool × LL), (r = Y6 t.1 ∧ h' = [Ob.box [LV.box 1 0, LV.mp 2, LV.mp 3], Ob.box [Y6 sz, LV.own 4, LV.own 5], Ob.mp t.snd.fst, Ob.mp t.snd.snd.fst, Ob.sl (3, 1) false
 n_4 s_4, Ob.sl (162, 512) true t.snd.snd.snd.fst t.snd.snd.snd.snd]) ∧ (True ∧ ((3, 1) = (3, 1) ∧ n_4 = n_4 ∧ s_4.length = s_4.length) ∧ True ∧ True ∧ True ∧ True ∧ True) ∧ (aB (o7 sz za zb zc zd n f es x10 x11 t.1 h3_0 h3_1 h3_2
 h3_3 n_4 s_4 t.snd.snd.snd.fst t.snd.snd.snd.snd t.snd.fst t.snd.snd.fst) ∧ J2 x10 x11 t.1 h3_0 h3_1 h3_2 h3_3 n_4 s_4 t.snd.snd.snd.fst t.snd.snd.snd.snd t.snd.fst t.snd.snd.fst x10 x11 t.1 h3_0 h3_1 h3_2 h3_3 n_4 s_4 t.snd.snd.snd.fst
 t.snd.snd.snd.snd t.snd.fst t.snd.snd.fst) ∧ ∀ (x101 x111 x13 : Int) (h3_01 h3_11 h3_21 h3_31 n_41 : Bool) (s_41 : LL) (n_51 : Bool) (s_51 : LL) (m_61 m_71 : List (PV × PV)), J2 x10 x11 t.1 h3_0 h3_1 h3_2 h3_3 n_4 s_4 t.snd.snd.snd.fst
 t.snd.snd.snd.snd t.snd.fst t.snd.snd.fst x101 x111 x13 h3_01 h3_11 h3_21 h3_31 n_41 s_41 n_51 s_51 m_61 m_71 → if (decide (x111 < sz) && decide (x101 ≥ IntKind.i64.wrap ((if sz < IntKind.i64.wrap (x111 + 128) then sz else IntKind.i64.wrap
 (x111 + 128)) - 1))) = true then (aR [[Z6 x13]] 1 ∧ (s_41.length + 1) * 8 ≤ 140737488355328) ∧ aB (o7 sz za zb zc zd n f es x101 (IntKind.i64.wrap (x111 + 128)) x13 h3_01 h3_11 h3_21 h3_31 (n_41 && false) (s_41 ++ [[Z6 x13]]) n_51
 s_51 m_61 m_71) ∧ J2 x10 x11 t.1 h3_0 h3_1 h3_2 h3_3 n_4 s_4 t.snd.snd.snd.fst t.snd.snd.snd.snd t.snd.fst t.snd.snd.fst x101 (IntKind.i64.wrap (x111 + 128)) x13 h3_01 h3_11 h3_21 h3_31 (n_41 && false) (s_41 ++ [[Z6 x13]]) n_51 s_51 m_61
 m_71 ∧ μ2 x101 (IntKind.i64.wrap (x111 + 128)) x13 h3_01 h3_11 h3_21 h3_31 (n_41 && false) (s_41 ++ [[Z6 x13]]) n_51 s_51 m_61 m_71 < μ2 x101 x111 x13 h3_01 h3_11 h3_21 h3_31 n_41 s_41 n_51 s_51 m_61 m_71 else aB (jX sz za zb zc zd n
 f es x101 (IntKind.i64.wrap (IntKind.i64.wrap (x111 - 128) + 128)) h3_01 h3_11 h3_21 h3_31 n_41 s_41 n_51 s_51 m_61 m_71) ∧ J x101 (IntKind.i64.wrap (IntKind.i64.wrap (x111 - 128) + 128)) h3_01 h3_11 h3_21 h3_31 n_41 s_41 n_51 s_51 m_61
 m_71 ∧ μ x101 (IntKind.i64.wrap (IntKind.i64.wrap (x111 - 128) + 128)) h3_01 h3_11 h3_21 h3_31 n_41 s_41 n_51 s_51 m_61 m_71 < μ x10 x11 h3_0 h3_1 h3_2 h3_3 n_4 s_4 n_5 s_5 m_6 m_7 else (aB (lC sz za zb zc zd n f es x10 x11 (0 : Int)
 h3_0 h3_1 h3_2 h3_3 (List.replicate 512 (Zb false)) n_4 s_4 n_5 s_5 m_6 m_7) ∧ J3 x10 x11 (0 : Int) h3_0 h3_1 h3_2 h3_3 (List.replicate 512 (Zb false)) n_4 s_4 n_5 s_5 m_6 m_7 x10 x11 (0 : Int) h3_0 h3_1 h3_2 h3_3 (List.replicate 512 (Zb
 false)) n_4 s_4 n_5 s_5 m_6 m_7) ∧ ∀ (x101 x111 x88 : Int) (h3_01 h3_11 h3_21 h3_31 : Bool) (c_4 : List PV) (n_51 : Bool) (s_51 : LL) (n_6 : Bool) (s_6 : LL) (m_71 m_8 : List (PV × PV)), J3 x10 x11 (0 : Int) h3_0 h3_1 h3_2 h3_3
 (List.replicate 512 (Zb false)) n_4 s_4 n_5 s_5 m_6 m_7 x101 x111 x88 h3_01 h3_11 h3_21 h3_31 c_4 n_51 s_51 n_6 s_6 m_71 m_8 → if decide (x88 < 128) = true then if (decide (IntKind.i64.wrap (x111 + x88) > x101) && decide (IntKind.i64.wrap
 (x111 + x88) < sz)) = true then PCall Try.prog 88 [PV.sl n f es, PV.agg [Zb za, Zb zb, Zb zc, Zb zd], Z6 (IntKind.i64.wrap (x111 + x88)), Z6 (IntKind.i64.wrap (sz - 1))] fun (v1 : PV) ↦ ∃ (vs1 : List PV), v1 = PV.tup vs1 ∧ vs1.length = 2 ∧
 ∃ (x2 : PV), vs1.head? = some x2 ∧ ∃ (cs1 : List PV), x2 = PV.agg cs1 ∧ cs1.length = 4 ∧ ∃ (b4 : Bool), cs1.head? = some (Zb b4) ∧ ∃ (b5 : Bool), cs1.tail.head? = some (Zb b5) ∧ ∃ (b6 : Bool), cs1.tail.tail.head? = some (Zb b6) ∧ ∃ (b7 :
 Bool), cs1.tail.tail.tail.head? = some (Zb b7) ∧ ∃ (x3 : PV), vs1.tail.head? = some x3 ∧ ∃ (n2 : Int), x3 = Z6 n2 ∧ ((0 : Int) ≤ x88 ∧ x88 < (↑128 : Int)) ∧ (4 = (4 : Nat) ∧ 0 + x88.toNat * 4 + 4 ≤ c_4.length) ∧ aB (lC sz za zb zc zd
 n f es n2 x111 (IntKind.i64.wrap (x88 + 1)) b4 b5 b6 b7 (aL c_4 (0 + x88.toNat * 4) [Zb b4, Zb b5, Zb b6, Zb b7]) n_51 s_51 n_6 s_6 m_71 m_8) ∧ J3 x10 x11 (0 : Int) h3_0 h3_1 h3_2 h3_3 (List.replicate 512 (Zb false)) n_4 s_4 n_5 s_5 m_6
 m_7 n2 x111 (IntKind.i64.wrap (x88 + 1)) b4 b5 b6 b7 (aL c_4 (0 + x88.toNat * 4) [Zb b4, Zb b5, Zb b6, Zb b7]) n_51 s_51 n_6 s_6 m_71 m_8 ∧ μ3 n2 x111 (IntKind.i64.wrap (x88 + 1)) b4 b5 b6 b7 (aL c_4 (0 + x88.toNat * 4) [Zb b4, Zb b5, Zb
 b6, Zb b7]) n_51 s_51 n_6 s_6 m_71 m_8 < μ3 x101 x111 x88 h3_01 h3_11 h3_21 h3_31 c_4 n_51 s_51 n_6 s_6 m_71 m_8 else ((0 : Int) ≤ x88 ∧ x88 < (↑128 : Int)) ∧ (4 = 4 ∧ 0 + x88.toNat * 4 + 4 ≤ c_4.length) ∧ aB (lC sz za zb zc zd n f
 es x101 x111 (IntKind.i64.wrap (x88 + 1)) h3_01 h3_11 h3_21 h3_31 (aL c_4 (0 + x88.toNat * 4) [Zb h3_01, Zb h3_11, Zb h3_21, Zb h3_31]) n_51 s_51 n_6 s_6 m_71 m_8) ∧ J3 x10 x11 (0 : Int) h3_0 h3_1 h3_2 h3_3 (List.replicate 512 (Zb false))
 n_4 s_4 n_5 s_5 m_6 m_7 x101 x111 (IntKind.i64.wrap (x88 + 1)) h3_01 h3_11 h3_21 h3_31 (aL c_4 (0 + x88.toNat * 4) [Zb h3_01, Zb h3_11, Zb h3_21, Zb h3_31]) n_51 s_51 n_6 s_6 m_71 m_8 ∧ μ3 x101 x111 (IntKind.i64.wrap (x88 + 1)) h3_01 h3_11
 h3_21 h3_31 (aL c_4 ((0 : Nat) + x88.toNat * 4) [Zb h3_01, Zb h3_11, Zb h3_21, Zb h3_31]) n_51 s_51 n_6 s_6 m_71 m_8 < μ3 x101 x111 x88 h3_01 h3_11 h3_21 h3_31 c_4 n_51 s_51 n_6 s_6 m_71 m_8 else 512 ≤ (List.drop 0 c_4).length ∧ (ACall
 Try.prog 90 [LV.box 0 0, LV.pv (PV.agg (List.take 512 (List.drop 0 c_4)))] [Ob.box [LV.box 1 0, LV.mp 2, LV.mp 3], Ob.box [Y6 sz, LV.own 4, LV.own 5], Ob.mp m_71, Ob.mp m_8, Ob.sl (3, 1) false n_51 s_51, Ob.sl (162, 512) false n_6 s_6] fun
 (r : LV) (h' : Hp) ↦ ∃ (t : Int × List (PV × PV) × Bool × LL), (r = Y6 t.1 ∧ h' = [Ob.box [LV.box 1 0, LV.mp 2, LV.mp 3], Ob.box [Y6 sz, LV.own 4, LV.own 5], Ob.mp t.snd.fst, Ob.mp m_8, Ob.sl (3, 1) false n_51 s_51, Ob.sl (162, 512) true
 t.snd.snd.fst t.snd.snd.snd]) ∧ (True ∧ ((3, 1) = (3, 1) ∧ n_51 = n_51 ∧ s_51.length = s_51.length) ∧ True ∧ True ∧ True ∧ True ∧ True) ∧ (aR [[Z6 t.1]] 1 ∧ (s_51.length + 1) * 8 ≤ 140737488355328) ∧ aB (jX sz za zb zc zd n f es
 x101 (IntKind.i64.wrap (x111 + 128)) h3_01 h3_11 h3_21 h3_31 (n_51 && false) (s_51 ++ [[Z6 t.1]]) t.snd.snd.fst t.snd.snd.snd t.snd.fst m_8) ∧ J x101 (IntKind.i64.wrap (x111 + 128)) h3_01 h3_11 h3_21 h3_31 (n_51 && false) (s_51 ++ [[Z6
 t.1]]) t.snd.snd.fst t.snd.snd.snd t.snd.fst m_8 ∧ μ x101 (IntKind.i64.wrap (x111 + 128)) h3_01 h3_11 h3_21 h3_31 (n_51 && false) (s_51 ++ [[Z6 t.1]]) t.snd.snd.fst t.snd.snd.snd t.snd.fst m_8 < μ x10 x11 h3_0 h3_1 h3_2 h3_3 n_4 s_4 n_5 s_5
 m_6 m_7) ∧ ACall Try.prog 90 [LV.box 0 0, LV.pv (PV.agg (List.take 512 (List.drop 0 c_4)))] [Ob.box [LV.box 1 0, LV.mp 2, LV.mp 3], Ob.box [Y6 sz, LV.own 4, LV.own 5], Ob.mp m_71, Ob.mp m_8, Ob.sl (3, 1) false n_51 s_51, Ob.sl (162, 512)
 false n_6 s_6] fun (r : LV) (h' : Hp) ↦ ∃ (t : Int × List (PV × PV) × Bool × LL), (r = Y6 t.1 ∧ h' = [Ob.box [LV.box 1 0, LV.mp 2, LV.mp 3], Ob.box [Y6 sz, LV.own 4, LV.own 5], Ob.mp t.snd.fst, Ob.mp m_8, Ob.sl (3, 1) false n_51 s_51, Ob.sl
 (162, (512 : Nat)) true t.snd.snd.fst t.snd.snd.snd]) ∧ (True ∧ ((3, 1) = (3, 1) ∧ n_51 = n_51 ∧ s_51.length = s_51.length) ∧ True ∧ True ∧ True ∧ True ∧ True) ∧ (aR [[Z6 t.1]] 1 ∧ (s_51.length + 1) * 8 ≤ 140737488355328) ∧ aB (jX
 sz za zb zc zd n f es x101 (IntKind.i64.wrap (x111 + 128)) h3_01 h3_11 h3_21 h3_31 (n_51 && false) (s_51 ++ [[Z6 t.1]]) t.snd.snd.fst t.snd.snd.snd t.snd.fst m_8) ∧ J x101 (IntKind.i64.wrap (x111 + 128)) h3_01 h3_11 h3_21 h3_31 (n_51 &&
 false) (s_51 ++ [[Z6 t.1]]) t.snd.snd.fst t.snd.snd.snd t.snd.fst m_8 ∧ μ x101 (IntKind.i64.wrap (x111 + 128)) h3_01 h3_11 h3_21 h3_31 (n_51 && false) (s_51 ++ [[Z6 t.1]]) t.snd.snd.fst t.snd.snd.snd t.snd.fst m_8 < μ x10 x11 h3_0 h3_1 h3_2
 h3_3 n_4 s_4 n_5 s_5 m_6 m_7 else R (PV.ptr [Z6 sz, PV.sl n_4 false s_4, PV.sl n_5 false s_5])
theorem zl8 (sz : Int) (za zb zc zd : Bool) (n f : Bool) (es : LL) (J : Int → Int → Bool → Bool → Bool → Bool → Bool → (LL) → Bool → (LL) → (List (PV × PV)) → (List (PV × PV)) → Prop) (μ : Int → Int → Bool → Bool → Bool → Bool → Bool → (LL) → Bool → (LL) → (List (PV × PV)) → (List (PV × PV)) → Nat) (J2 : Int → Int → Int → Bool → Bool → Bool → Bool → Bool → (LL) → Bool → (LL) → (List (PV × PV)) → (List (PV × PV)) → Int → Int → Int → Bool → Bool → Bool → Bool → Bool → (LL) → Bool → (LL) → (List (PV × PV)) → (List (PV × PV)) → Prop) (μ2 : Int → Int → Int → Bool → Bool → Bool → Bool → Bool → (LL) → Bool → (LL) → (List (PV × PV)) → (List (PV × PV)) → Nat) (J3 : Int → Int → Int → Bool → Bool → Bool → Bool → (List PV) → Bool → (LL) → Bool → (LL) → (List (PV × PV)) → (List (PV × PV)) → Int → Int → Int → Bool → Bool → Bool → Bool → (List PV) → Bool → (LL) → Bool → (LL) → (List (PV × PV)) → (List (PV × PV)) → Prop) (μ3 : Int → Int → Int → Bool → Bool → Bool → Bool → (List PV) → Bool → (LL) → Bool → (LL) → (List (PV × PV)) → (List (PV × PV)) → Nat) {R : PV → Prop} (h : yJ sz za zb zc zd n f es J μ J2 μ2 J3 μ3 R) : PCall Try.prog 59 [.int .i64 sz, .agg [.bool za, .bool zb, .bool zc, .bool zd], .sl n f es] R :=
  PCall.of Try.func59 (by kernel_rfl) (by kernel_rfl) (Nat.le_of_ble_eq_true (by kernel_rfl)) (Eq.mpr (by kernel_rfl : aW Try.prog (fun zz_ => match zz_ with | 90 => some ⟨Int × List (PV × PV) × Bool × LL, fun _ hs t => (.pv (.int .i64 t.1), match hs with | [m, r, .mp _, ev, ix, .sl a _ _ _] => [m, r, .mp t.2.1, ev, ix, .sl a true t.2.2.1 t.2.2.2] | h => h), none⟩ | 89 => some ⟨Int × List (PV × PV) × List (PV × PV) × Bool × LL, fun _ hs t => (.pv (.int .i64 t.1), match hs with | [m, r, .mp _, .mp _, ix, .sl a _ _ _] => [m, r, .mp t.2.1, .mp t.2.2.1, ix, .sl a true t.2.2.2.1 t.2.2.2.2] | h => h), none⟩ | _ => none) Try.f59 [0, 1, 2, 4, 6, 7, 8, 9, 10, 11, 12, 13, 14, 15, 17, 36, 41, 58, 73, 88, 89, 102] (fun zz_ => match zz_ with | 7 => some ⟨Int × Int × Bool × Bool × Bool × Bool × Bool × (LL) × Bool × (LL) × (List (PV × PV)) × (List (PV × PV)), fun s => jX sz za zb zc zd n f es s.1 s.2.1 s.2.2.1 s.2.2.2.1 s.2.2.2.2.1 s.2.2.2.2.2.1 s.2.2.2.2.2.2.1 s.2.2.2.2.2.2.2.1 s.2.2.2.2.2.2.2.2.1 s.2.2.2.2.2.2.2.2.2.1 s.2.2.2.2.2.2.2.2.2.2.1 s.2.2.2.2.2.2.2.2.2.2.2, fun _ s => J s.1 s.2.1 s.2.2.1 s.2.2.2.1 s.2.2.2.2.1 s.2.2.2.2.2.1 s.2.2.2.2.2.2.1 s.2.2.2.2.2.2.2.1 s.2.2.2.2.2.2.2.2.1 s.2.2.2.2.2.2.2.2.2.1 s.2.2.2.2.2.2.2.2.2.2.1 s.2.2.2.2.2.2.2.2.2.2.2, fun s => μ s.1 s.2.1 s.2.2.1 s.2.2.2.1 s.2.2.2.2.1 s.2.2.2.2.2.1 s.2.2.2.2.2.2.1 s.2.2.2.2.2.2.2.1 s.2.2.2.2.2.2.2.2.1 s.2.2.2.2.2.2.2.2.2.1 s.2.2.2.2.2.2.2.2.2.2.1 s.2.2.2.2.2.2.2.2.2.2.2, fun e h => (gI e 10, gI e 11, hB h 3 0, hB h 3 1, hB h 3 2, hB h 3 3, oN h 4, oS h 4, oN h 5, oS h 5, oM h 6, oM h 7), [(1001001, 3, 1), (1001002, 162, 512)], [0, 2, 4, 7, 8, 9, 10, 11], [], fun p => ∀ (x10 : Int) (x11 : Int) (h3_0 : Bool) (h3_1 : Bool) (h3_2 : Bool) (h3_3 : Bool) (n_4 : Bool) (s_4 : LL) (n_5 : Bool) (s_5 : LL) (m_6 : List (PV × PV)) (m_7 : List (PV × PV)), p (x10, x11, h3_0, h3_1, h3_2, h3_3, n_4, s_4, n_5, s_5, m_6, m_7), fun p h s => h s.1 s.2.1 s.2.2.1 s.2.2.2.1 s.2.2.2.2.1 s.2.2.2.2.2.1 s.2.2.2.2.2.2.1 s.2.2.2.2.2.2.2.1 s.2.2.2.2.2.2.2.2.1 s.2.2.2.2.2.2.2.2.2.1 s.2.2.2.2.2.2.2.2.2.2.1 s.2.2.2.2.2.2.2.2.2.2.2⟩ | 14 => some ⟨Int × Int × Int × Bool × Bool × Bool × Bool × Bool × (LL) × Bool × (LL) × (List (PV × PV)) × (List (PV × PV)), fun s => o7 sz za zb zc zd n f es s.1 s.2.1 s.2.2.1 s.2.2.2.1 s.2.2.2.2.1 s.2.2.2.2.2.1 s.2.2.2.2.2.2.1 s.2.2.2.2.2.2.2.1 s.2.2.2.2.2.2.2.2.1 s.2.2.2.2.2.2.2.2.2.1 s.2.2.2.2.2.2.2.2.2.2.1 s.2.2.2.2.2.2.2.2.2.2.2.1 s.2.2.2.2.2.2.2.2.2.2.2.2, fun t s => J2 t.1 t.2.1 t.2.2.1 t.2.2.2.1 t.2.2.2.2.1 t.2.2.2.2.2.1 t.2.2.2.2.2.2.1 t.2.2.2.2.2.2.2.1 t.2.2.2.2.2.2.2.2.1 t.2.2.2.2.2.2.2.2.2.1 t.2.2.2.2.2.2.2.2.2.2.1 t.2.2.2.2.2.2.2.2.2.2.2.1 t.2.2.2.2.2.2.2.2.2.2.2.2 s.1 s.2.1 s.2.2.1 s.2.2.2.1 s.2.2.2.2.1 s.2.2.2.2.2.1 s.2.2.2.2.2.2.1 s.2.2.2.2.2.2.2.1 s.2.2.2.2.2.2.2.2.1 s.2.2.2.2.2.2.2.2.2.1 s.2.2.2.2.2.2.2.2.2.2.1 s.2.2.2.2.2.2.2.2.2.2.2.1 s.2.2.2.2.2.2.2.2.2.2.2.2, fun s => μ2 s.1 s.2.1 s.2.2.1 s.2.2.2.1 s.2.2.2.2.1 s.2.2.2.2.2.1 s.2.2.2.2.2.2.1 s.2.2.2.2.2.2.2.1 s.2.2.2.2.2.2.2.2.1 s.2.2.2.2.2.2.2.2.2.1 s.2.2.2.2.2.2.2.2.2.2.1 s.2.2.2.2.2.2.2.2.2.2.2.1 s.2.2.2.2.2.2.2.2.2.2.2.2, fun e h => (gI e 10, gI e 11, gI e 13, hB h 3 0, hB h 3 1, hB h 3 2, hB h 3 3, oN h 4, oS h 4, oN h 5, oS h 5, oM h 6, oM h 7), [], [0, 2, 4, 7, 8, 9, 10, 11, 13], [], fun p => ∀ (x10 : Int) (x11 : Int) (x13 : Int) (h3_0 : Bool) (h3_1 : Bool) (h3_2 : Bool) (h3_3 : Bool) (n_4 : Bool) (s_4 : LL) (n_5 : Bool) (s_5 : LL) (m_6 : List (PV × PV)) (m_7 : List (PV × PV)), p (x10, x11, x13, h3_0, h3_1, h3_2, h3_3, n_4, s_4, n_5, s_5, m_6, m_7), fun p h s => h s.1 s.2.1 s.2.2.1 s.2.2.2.1 s.2.2.2.2.1 s.2.2.2.2.2.1 s.2.2.2.2.2.2.1 s.2.2.2.2.2.2.2.1 s.2.2.2.2.2.2.2.2.1 s.2.2.2.2.2.2.2.2.2.1 s.2.2.2.2.2.2.2.2.2.2.1 s.2.2.2.2.2.2.2.2.2.2.2.1 s.2.2.2.2.2.2.2.2.2.2.2.2⟩ | 20 => some ⟨Int × Int × Int × Bool × Bool × Bool × Bool × (List PV) × Bool × (LL) × Bool × (LL) × (List (PV × PV)) × (List (PV × PV)), fun s => lC sz za zb zc zd n f es s.1 s.2.1 s.2.2.1 s.2.2.2.1 s.2.2.2.2.1 s.2.2.2.2.2.1 s.2.2.2.2.2.2.1 s.2.2.2.2.2.2.2.1 s.2.2.2.2.2.2.2.2.1 s.2.2.2.2.2.2.2.2.2.1 s.2.2.2.2.2.2.2.2.2.2.1 s.2.2.2.2.2.2.2.2.2.2.2.1 s.2.2.2.2.2.2.2.2.2.2.2.2.1 s.2.2.2.2.2.2.2.2.2.2.2.2.2, fun t s => J3 t.1 t.2.1 t.2.2.1 t.2.2.2.1 t.2.2.2.2.1 t.2.2.2.2.2.1 t.2.2.2.2.2.2.1 t.2.2.2.2.2.2.2.1 t.2.2.2.2.2.2.2.2.1 t.2.2.2.2.2.2.2.2.2.1 t.2.2.2.2.2.2.2.2.2.2.1 t.2.2.2.2.2.2.2.2.2.2.2.1 t.2.2.2.2.2.2.2.2.2.2.2.2.1 t.2.2.2.2.2.2.2.2.2.2.2.2.2 s.1 s.2.1 s.2.2.1 s.2.2.2.1 s.2.2.2.2.1 s.2.2.2.2.2.1 s.2.2.2.2.2.2.1 s.2.2.2.2.2.2.2.1 s.2.2.2.2.2.2.2.2.1 s.2.2.2.2.2.2.2.2.2.1 s.2.2.2.2.2.2.2.2.2.2.1 s.2.2.2.2.2.2.2.2.2.2.2.1 s.2.2.2.2.2.2.2.2.2.2.2.2.1 s.2.2.2.2.2.2.2.2.2.2.2.2.2, fun s => μ3 s.1 s.2.1 s.2.2.1 s.2.2.2.1 s.2.2.2.2.1 s.2.2.2.2.2.1 s.2.2.2.2.2.2.1 s.2.2.2.2.2.2.2.1 s.2.2.2.2.2.2.2.2.1 s.2.2.2.2.2.2.2.2.2.1 s.2.2.2.2.2.2.2.2.2.2.1 s.2.2.2.2.2.2.2.2.2.2.2.1 s.2.2.2.2.2.2.2.2.2.2.2.2.1 s.2.2.2.2.2.2.2.2.2.2.2.2.2, fun e h => (gI e 10, gI e 11, gI e 88, hB h 3 0, hB h 3 1, hB h 3 2, hB h 3 3, oA h 4, oN h 5, oS h 5, oN h 6, oS h 6, oM h 7, oM h 8), [], [0, 2, 4, 7, 8, 9, 10, 11, 14, 88], [], fun p => ∀ (x10 : Int) (x11 : Int) (x88 : Int) (h3_0 : Bool) (h3_1 : Bool) (h3_2 : Bool) (h3_3 : Bool) (c_4 : List PV) (n_5 : Bool) (s_5 : LL) (n_6 : Bool) (s_6 : LL) (m_7 : List (PV × PV)) (m_8 : List (PV × PV)), p (x10, x11, x88, h3_0, h3_1, h3_2, h3_3, c_4, n_5, s_5, n_6, s_6, m_7, m_8), fun p h s => h s.1 s.2.1 s.2.2.1 s.2.2.2.1 s.2.2.2.2.1 s.2.2.2.2.2.1 s.2.2.2.2.2.2.1 s.2.2.2.2.2.2.2.1 s.2.2.2.2.2.2.2.2.1 s.2.2.2.2.2.2.2.2.2.1 s.2.2.2.2.2.2.2.2.2.2.1 s.2.2.2.2.2.2.2.2.2.2.2.1 s.2.2.2.2.2.2.2.2.2.2.2.2.1 s.2.2.2.2.2.2.2.2.2.2.2.2.2⟩ | _ => none) (Try.f59.body.getD .skip) [.int .i64 sz, .agg [.bool za, .bool zb, .bool zc, .bool zd], .sl n f es] R = yJ sz za zb zc zd n f es J μ J2 μ2 J3 μ3 R) h)

end Go.Eng



namespace Go.Eng
open Go Go.Proofs Go.Eng.Trie
def encF (v : (Bool × Bool × Bool × Bool)) : List PV := [.bool v.1, .bool v.2.1, .bool v.2.2.1, .bool v.2.2.2]
theorem EF : Enc Try.prog [4, 4, 4, 4] encF := ⟨fun a => by
  simp only [encF, aY, Bool.and_true]
  rw [show Try.prog.underlying 4 = some (.bool) by kernel_rfl]
  rfl, fun a b => by
  obtain ⟨a0, a1, a2, a3⟩ := a
  obtain ⟨b0, b1, b2, b3⟩ := b
  simp only [encF, bD, dL, Bool.and_true]
  rw [Bool.eq_iff_iff]
  simp⟩
def pcF (p : Pc (Bool × Bool × Bool × Bool)) : List PV := [.int .i64 p.fr, .int .i64 p.to] ++ encF p.v
def iW (l : List (Pc (Bool × Bool × Bool × Bool))) : List (List PV) := l.map pcF
theorem zl9 (p : Pc (Bool × Bool × Bool × Bool)) : (pcF p).length = 6 := rfl
theorem zel (l : List (Pc (Bool × Bool × Bool × Bool))) : (iW l).length = l.length := by simp [iW]
theorem yK (n f : Bool) (l : List (Pc (Bool × Bool × Bool × Bool))) (z : (Bool × Bool × Bool × Bool)) (i last : Int) (hl : l.length < 4611686018427387904) (hok : ∀ p ∈ l, -9223372036854775808 ≤ p.fr - 1 ∧ p.fr - 1 ≤ 9223372036854775807) :
    PCall Try.prog 88 [.sl n f (iW l), .agg (encF z), .int .i64 i, .int .i64 last] fun v => v = .tup [.agg (encF (findL l z i last).1), .int .i64 (findL l z i last).2] := by
  refine zl4 _ _ _ z.1 z.2.1 z.2.2.1 z.2.2.2 _ _ (fun a k _ _ _ _ => 0 ≤ k ∧ k ≤ l.length ∧ findL l z i last = findL (l.drop k.toNat) z i a) (fun _ k _ _ _ _ => l.length - k.toNat) ?_
  unfold yE
  refine ⟨⟨rfl, Int.le_refl _, by omega, rfl⟩, ?_⟩
  rintro a k _ _ _ _ ⟨k0, k1, he⟩
  refine aI (fun hc => ?_) (fun hc => ?_)
  · simp only [decide_eq_true_eq, zel] at hc
    have hk : k.toNat < l.length := by omega
    have hw : IntKind.i64.wrap (k + 1) = k + 1 := aD (by omega) (by omega)
    have hn : (k + 1).toNat = k.toNat + 1 := by omega
    have hg : (iW l).getD k.toNat [] = pcF l[k.toNat] := cC hk
    have hix : aO (iW l) k 6 := bM zl9 k0 (by omega)
    have hm := hok _ (List.getElem_mem hk)
    rw [rL hk] at he
    rw [hw]
    dsimp only
    rw [hn]
    have hmu : l.length - (k.toNat + 1) < l.length - k.toNat := by omega
    refine ⟨hix, l[k.toNat].fr, by rw [hg]; rfl, l[k.toNat].to, by rw [hg]; rfl, l[k.toNat].v.1, by rw [hg]; rfl, l[k.toNat].v.2.1, by rw [hg]; rfl, l[k.toNat].v.2.2.1, by rw [hg]; rfl, l[k.toNat].v.2.2.2, by rw [hg]; rfl, ?_⟩
    generalize l[k.toNat] = p at *
    have hw2 : IntKind.i64.wrap (p.fr - 1) = p.fr - 1 := aD hm.1 hm.2
    rw [hw2]
    rw [xO] at he
    by_cases h1 : p.fr ≤ i
    · refine bN (by simpa using h1) ?_
      by_cases h2 : i ≤ p.to
      · refine bN (by simpa using h2) ?_
        rw [if_pos ⟨h1, h2⟩] at he
        rw [he]
        repeat' (first | rfl | apply And.intro)
      · refine bO (by simpa using h2) ?_
        rw [if_neg (by omega), if_neg (by omega)] at he
        refine bO (by simp; omega) ?_
        exact ⟨rfl, ⟨by omega, by omega, he⟩, hmu⟩
    · refine bO (by simpa using h1) ?_
      rw [if_neg (by omega)] at he
      refine bN (by simp; omega) ?_
      by_cases h3 : p.fr ≤ a
      · refine bN (by simpa using h3) ?_
        rw [if_pos (by omega)] at he
        exact ⟨rfl, ⟨by omega, by omega, he⟩, hmu⟩
      · refine bO (by simpa using h3) ?_
        rw [if_neg (by omega)] at he
        exact ⟨rfl, ⟨by omega, by omega, he⟩, hmu⟩
  · simp only [decide_eq_true_eq, zel] at hc
    rw [List.drop_of_length_le (by omega)] at he
    rw [he]; rfl
def TrieF (sz : Int) (F : Int → (Bool × Bool × Bool × Bool)) (v : PV) : Prop := ∃ n f n2 f2 idx blk, v = .ptr [.int .i64 sz, .sl n f (aV idx), .sl n2 f2 (aZ encF blk)] ∧ TOK sz F idx blk
theorem zma {sz : Int} {F : Int → (Bool × Bool × Bool × Bool)} {t : PV} (ht : TrieF sz F t) (i : Int) (h1 : sz ≤ 1114112) : PCall Try.prog 69 [t, .int .i64 i] fun v => v = .agg (encF (if 0 ≤ i ∧ i < sz then F i else (false, false, false, false))) := by
  obtain ⟨n, f, n2, f2, idx, blk, rfl, ht⟩ := ht
  refine zl5 _ _ _ _ _ _ _ _ ?_
  unfold yF
  refine aI (fun hc => ?_) (fun hc => ?_)
  · simp only [decide_eq_true_eq] at hc
    rw [if_neg (by omega)]; rfl
  · simp only [decide_eq_true_eq] at hc
    refine ⟨_, rfl, ?_⟩
    refine aI (fun hc2 => ?_) (fun hc2 => ?_)
    · simp only [decide_eq_true_eq, ge_iff_le] at hc2
      rw [if_neg (by omega)]; rfl
    · simp only [decide_eq_true_eq, ge_iff_le] at hc2
      rw [if_pos (by omega)]
      obtain ⟨hq, g0, hk, hj, he⟩ := ht.get (i := i) (by omega) (by omega)
      have hw : IntKind.i64.wrap (i.tdiv 128) = i / 128 := by rw [Int.tdiv_eq_ediv_of_nonneg (by omega)]; exact aD (by omega) (by omega)
      have hm : i.tmod 128 = i % 128 := Int.tmod_eq_emod_of_nonneg (by omega)
      have hg : (aV idx).getD (i / 128).toNat [] = [.int .i64 idx[(i / 128).toNat]] := cC hq
      have hg2 : (aZ encF blk).getD idx[(i / 128).toNat].toNat [] = cells encF blk[idx[(i / 128).toNat].toNat] := cC hk
      refine ⟨_, _, _, rfl, _, _, _, rfl, ?_⟩
      rw [hw]
      have := EF.at _ _ hj
      simp only [List.length_cons, List.length_nil, Nat.zero_add, Nat.reduceAdd] at this
      have hcell : List.drop ((i % 128).toNat * 4) ((aZ encF blk).getD idx[(i / 128).toNat].toNat []) = encF (F i) ++ (List.drop ((i % 128).toNat + 1) (blk[idx[(i / 128).toNat].toNat]).1).flatMap encF := by
        rw [hg2]; unfold cells; rw [this, he]
      refine ⟨bM kZ (by omega) (by omega), idx[(i / 128).toNat], by rw [hg]; rfl, bM (EF.cells_len) g0 (by omega), by rw [hm]; omega, ?_⟩
      rw [hm, hcell]
      exact ⟨(F i).1, rfl, (F i).2.1, rfl, (F i).2.2.1, rfl, (F i).2.2.2, rfl, rfl⟩
def cF (b : aQ (Bool × Bool × Bool × Bool)) : List PV := cells encF b
def kvF (k : Int) : PV := .int .i64 k
def eD (kn : List (aQ (Bool × Bool × Bool × Bool) × Int)) : List (PV × PV) := bP (fun b => .agg (cF b)) kvF kn
def fA (ev : List ((Bool × Bool × Bool × Bool) × Int)) : List (PV × PV) := bP (fun v => .agg (encF v)) kvF ev
def jY (sz : Int) (kn : List (aQ (Bool × Bool × Bool × Bool) × Int)) (ev : List ((Bool × Bool × Bool × Bool) × Int)) (ixm ixn bkm bkn : Bool) (idx : List Int) (blk : List (aQ (Bool × Bool × Bool × Bool))) : Hp :=
  [.box [.box 1 0, .mp 2, .mp 3], .box [.pv (.int .i64 sz), .own 4, .own 5], .mp (eD kn), .mp (fA ev), .sl (3, 1) ixm ixn (aV idx), .sl (162, 512) bkm bkn (aZ encF blk)]
theorem lE (b : aQ (Bool × Bool × Bool × Bool)) : (cF b).length = 512 := EF.cells_len b
theorem yL (b : aQ (Bool × Bool × Bool × Bool)) : List.take 512 (List.drop 0 (cF b)) = cF b := by rw [List.drop_zero, List.take_of_length_le (by rw [lE]; omega)]
theorem zem : dU Try.prog 162 = true := by kernel_rfl
theorem zen : eI Try.prog 162 = (List.replicate 128 [4, 4, 4, 4]).flatten := by kernel_rfl
theorem zeo : dU Try.prog 96 = true := by kernel_rfl
theorem zep : eI Try.prog 96 = [4, 4, 4, 4] := by kernel_rfl
theorem zmb (b : aQ (Bool × Bool × Bool × Bool)) (kn : List (aQ (Bool × Bool × Bool × Bool) × Int)) : bS (.agg (cF b)) (eD kn) = (bQ b kn).map kvF := kQ (ek := fun b => PV.agg (cF b)) (ev := kvF) EF.blkEq b kn
theorem zmc (b : aQ (Bool × Bool × Bool × Bool)) (k : Int) (kn : List (aQ (Bool × Bool × Bool × Bool) × Int)) : aP (.agg (cF b)) (kvF k) (eD kn) = eD (bJ b k kn) := gW (ek := fun b => PV.agg (cF b)) (ev := kvF) EF.blkEq b k kn
theorem zeq (b : aQ (Bool × Bool × Bool × Bool)) : aX Try.prog 162 (.agg (cF b)) = true := EF.blkOk zem zen b
theorem zer (kn : List (aQ (Bool × Bool × Bool × Bool) × Int)) : cA Try.prog 162 (eD kn) := EF.blksOk zem zen kn
theorem zes {sz : Int} {F : Int → (Bool × Bool × Bool × Bool)} {idx : List Int} {blk : List (aQ (Bool × Bool × Bool × Bool))} {kn : List (aQ (Bool × Bool × Bool × Bool) × Int)} {ev : List ((Bool × Bool × Bool × Bool) × Int)} (hk : TInv sz F idx blk kn ev) (hb : blk.length ≤ 10000000) (ixn bkn : Bool) (b : aQ (Bool × Bool × Bool × Bool)) :
    ACall Try.prog 90 [.box 0 0, .pv (.agg (cF b))] (jY sz kn ev false ixn false bkn idx blk) fun r h' => ∃ k kn' bn' blk', r = .pv (kvF k) ∧ h' = jY sz kn' ev false ixn true bn' idx blk' ∧ TInv sz F idx blk' kn' ev ∧ 0 ≤ k ∧ blk'[k.toNat]? = some b ∧ blk'.length ≤ blk.length + 1 := by
  refine ACall.mark 1000 [5] (R := fun r h' => ∃ k kn' bm' bn' blk', r = .pv (kvF k) ∧ h' = jY sz kn' ev false ixn bm' bn' idx blk' ∧ TInv sz F idx blk' kn' ev ∧ 0 ≤ k ∧ blk'[k.toNat]? = some b ∧ blk'.length ≤ blk.length + 1) ?_ ?_
  · refine zl6 _ _ _ _ _ _ _ _ _ _ ?_
    unfold yG
    rw [yL, zmb]
    have h128 : 512 ≤ (List.drop 0 (cF b)).length := by rw [List.drop_zero, lE]; omega
    refine ⟨h128, zer kn, zeq b, fun v hv => ?_, fun hv => ?_⟩
    · cases hg : bQ b kn with
      | none => rw [hg] at hv; cases hv
      | some k =>
        rw [hg] at hv; cases hv
        obtain ⟨k0, k1⟩ := hk.kn_ok b k hg
        exact ⟨k, rfl, k, kn, false, bkn, blk, rfl, rfl, hk, k0, k1, by omega⟩
    · have hsz : aR [cF b] 512 ∧ ((aZ encF blk).length + 1) * 512 ≤ 140737488355328 := ⟨fun e he => by simp at he; subst he; exact lE b, by rw [iU]; omega⟩
      have fin : ∃ k kn' bm' bn' blk', LV.pv (.int .i64 ((aZ encF blk).length : Int)) = .pv (kvF k) ∧
          [Ob.box [.box 1 0, .mp 2, .mp 3], .box [.pv (.int .i64 sz), .own 4, .own 5], .mp (aP (.agg (cF b)) (.int .i64 ((aZ encF blk).length : Int)) (eD kn)), .mp (fA ev), .sl (3, 1) false ixn (aV idx), .sl (162, 512) true (bkn && false) (aZ encF blk ++ [cF b])] = jY sz kn' ev false ixn bm' bn' idx blk' ∧ TInv sz F idx blk' kn' ev ∧ 0 ≤ k ∧ blk'[k.toNat]? = some b ∧ blk'.length ≤ blk.length + 1 := by
        refine ⟨blk.length, bJ b (blk.length : Int) kn, true, bkn && false, blk ++ [b], by rw [iU]; rfl, ?_, hk.place b, by omega, by simp, by simp⟩
        have := zmc b (blk.length : Int) kn
        unfold kvF at this
        rw [iU, this]
        simp [jY, aZ, cF]
      exact ⟨h128, zer kn, zeq b, h128, ⟨lE b, hsz, fin⟩, lE b, ⟨hsz, fin⟩, hsz, fin⟩
  · rintro r h' ⟨k, kn', bm', bn', blk', rfl, rfl, h1, h2, h3, h4⟩
    exact ⟨k, kn', bn', blk', rfl, rfl, h1, h2, h3, h4⟩
theorem zmd (v : (Bool × Bool × Bool × Bool)) (ev : List ((Bool × Bool × Bool × Bool) × Int)) : bS (.agg (encF v)) (fA ev) = (bQ v ev).map kvF := kQ (ek := fun v => PV.agg (encF v)) (ev := kvF) EF.valEq v ev
theorem zme (v : (Bool × Bool × Bool × Bool)) (k : Int) (ev : List ((Bool × Bool × Bool × Bool) × Int)) : aP (.agg (encF v)) (kvF k) (fA ev) = fA (bJ v k ev) := gW (ek := fun v => PV.agg (encF v)) (ev := kvF) EF.valEq v k ev
theorem zet (v : (Bool × Bool × Bool × Bool)) : aX Try.prog 96 (.agg (encF v)) = true := EF.valOk zeo zep v
theorem zeu (ev : List ((Bool × Bool × Bool × Bool) × Int)) : cA Try.prog 96 (fA ev) := EF.valsOk zeo zep ev
theorem yM (l : List (Bool × Bool × Bool × Bool)) (j : Nat) (hj : j < l.length) (v : (Bool × Bool × Bool × Bool)) : aL (l.flatMap encF) (0 + j * 4) (encF v) = (l.set j v).flatMap encF := by
  have := EF.put l j hj v
  simp only [List.length_cons, List.length_nil, Nat.zero_add, Nat.reduceAdd] at this ⊢
  exact this
theorem yN (l : List (Bool × Bool × Bool × Bool)) : (l.flatMap encF).length = l.length * 4 := EF.flen l
theorem zev : List.replicate 512 (PV.bool false) = (List.replicate 128 ((false, false, false, false) : (Bool × Bool × Bool × Bool))).flatMap encF := by rfl
theorem zmf {l : List (Bool × Bool × Bool × Bool)} {v : (Bool × Bool × Bool × Bool)} (hl : l.length = 128) (h : ∀ q, q < 128 → l[q]? = some v) : l = List.replicate 128 v := by
  refine List.ext_getElem? fun q => ?_
  rcases Nat.lt_or_ge q 128 with hq | hq
  · rw [h q hq, List.getElem?_replicate, if_pos hq]
  · rw [List.getElem?_eq_none (by omega), List.getElem?_eq_none (by simp; omega)]
theorem zmg {sz : Int} {F : Int → (Bool × Bool × Bool × Bool)} {idx : List Int} {blk : List (aQ (Bool × Bool × Bool × Bool))} {kn : List (aQ (Bool × Bool × Bool × Bool) × Int)} {ev : List ((Bool × Bool × Bool × Bool) × Int)} (hk : TInv sz F idx blk kn ev) (hb : blk.length ≤ 10000000) (ixn bkn : Bool) (v : (Bool × Bool × Bool × Bool)) :
    ACall Try.prog 89 [.box 0 0, .pv (.agg (encF v))] (jY sz kn ev false ixn false bkn idx blk) fun r h' => ∃ k kn' ev' bn' blk', r = .pv (kvF k) ∧ h' = jY sz kn' ev' false ixn true bn' idx blk' ∧ TInv sz F idx blk' kn' ev' ∧ 0 ≤ k ∧ blk'[k.toNat]? = some (rep v) ∧ blk'.length ≤ blk.length + 1 := by
  refine ACall.mark 1000 [5] (R := fun r h' => ∃ k kn' ev' bm' bn' blk', r = .pv (kvF k) ∧ h' = jY sz kn' ev' false ixn bm' bn' idx blk' ∧ TInv sz F idx blk' kn' ev' ∧ 0 ≤ k ∧ blk'[k.toNat]? = some (rep v) ∧ blk'.length ≤ blk.length + 1) ?_ ?_
  · refine zl7 _ _ _ _ _ _ _ _ _ v.1 v.2.1 v.2.2.1 v.2.2.2 (fun x m2 m3 c => 0 ≤ x ∧ x ≤ 128 ∧ m2 = eD kn ∧ m3 = fA ev ∧ ∃ l : List (Bool × Bool × Bool × Bool), l.length = 128 ∧ c = l.flatMap encF ∧ ∀ q, q < x.toNat → l[q]? = some v) (fun x _ _ _ => 128 - x.toNat) ?_
    unfold yI
    rw [show [.bool v.1, .bool v.2.1, .bool v.2.2.1, .bool v.2.2.2] = encF v from rfl, zmd]
    refine ⟨zeu ev, zet v, fun u hu => ?_, fun hu => ⟨⟨rfl, Int.le_refl _, by omega, rfl, rfl, List.replicate 128 (false, false, false, false), by simp, zev, fun q hq => by simp at hq⟩, ?_⟩⟩
    · cases hg : bQ v ev with
      | none => rw [hg] at hu; cases hu
      | some k =>
        rw [hg] at hu; cases hu
        obtain ⟨k0, k1⟩ := hk.ev_ok v k hg
        exact ⟨k, rfl, k, kn, ev, false, bkn, blk, rfl, rfl, hk, k0, k1, by omega⟩
    · rintro x _ _ _ ⟨x0, x1, rfl, rfl, l, hl, rfl, hq⟩
      refine aI (fun hc => ?_) (fun hc => ?_)
      · simp only [decide_eq_true_eq] at hc
        have hw : IntKind.i64.wrap (x + 1) = x + 1 := aD (by omega) (by omega)
        have hn : (x + 1).toNat = x.toNat + 1 := by omega
        rw [yM l x.toNat (by omega) v, hw, yN]
        refine ⟨⟨x0, hc⟩, ⟨rfl, by omega⟩, rfl, ⟨by omega, by omega, rfl, rfl, l.set x.toNat v, by simpa using hl, rfl, fun q hq' => ?_⟩, by dsimp only; omega⟩
        rw [hn] at hq'
        rw [List.getElem?_set]
        by_cases e : x.toNat = q
        · rw [if_pos e, if_pos (by omega)]
        · rw [if_neg e]; exact hq q (by omega)
      · simp only [decide_eq_true_eq] at hc
        have hx : x = 128 := by omega
        subst hx
        have hrep := zmf hl hq
        subst hrep
        have hcI : (List.replicate 128 v).flatMap encF = cF (rep v) := rfl
        rw [hcI, yL]
        refine ⟨by rw [List.drop_zero, lE]; omega, ?_⟩
        refine (zes hk hb ixn bkn (rep v)).mono ?_
        rintro _ _ ⟨k, kn', bn', blk', rfl, rfl, h1, h2, h3, h4⟩
        refine ⟨(k, eD kn', bn', aZ encF blk'), ⟨rfl, rfl⟩, ⟨trivial, ⟨rfl, rfl, rfl⟩, trivial, trivial, trivial, trivial, trivial⟩, zeu ev, zet v, ?_⟩
        have := zme v k ev
        unfold kvF at this
        simp only [this]
        exact ⟨k, kn', bJ v k ev, _, bn', blk', rfl, rfl, h1.even h2 h3, h2, h3, h4⟩
  · rintro r h' ⟨k, kn', ev', bm', bn', blk', rfl, rfl, h1, h2, h3, h4⟩
    exact ⟨k, kn', ev', bn', blk', rfl, rfl, h1, h2, h3, h4⟩
theorem zmh {v : (Bool × Bool × Bool × Bool)} {j : Nat} {u : (Bool × Bool × Bool × Bool)} (h : (Trie.rep v).1[j]? = some u) : u = v ∧ j < 128 := by
  simp only [Trie.rep, List.getElem?_replicate] at h
  split at h
  · rename_i hj; cases h; exact ⟨rfl, hj⟩
  · cases h
theorem zmi (sz : Int) (z : (Bool × Bool × Bool × Bool)) (n f : Bool) (l : List (Pc (Bool × Bool × Bool × Bool))) (hl : l.length < 4611686018427387904) (hok : ∀ p ∈ l, -9223372036854775808 ≤ p.fr - 1 ∧ p.fr - 1 ≤ 9223372036854775807) (hs1 : 1 ≤ sz) (hs2 : sz ≤ 1114112) :
    PCall Try.prog 59 [.int .i64 sz, .agg (encF z), .sl n f (iW l)] fun v => TrieF sz (eB l z) v := by
  have hF := fun i => oY l z i (sz - 1)
  generalize hFF : eB l z = F at *
  refine zl8 _ z.1 z.2.1 z.2.2.1 z.2.2.2 _ _ _
    (fun x10 x11 va vb vc vd _ s2 _ s3 m4 m5 => ∃ idx blk kn ev, s2 = aV idx ∧ s3 = aZ encF blk ∧ m4 = eD kn ∧ m5 = fA ev ∧ TInv sz F idx blk kn ev ∧ x11 = 128 * idx.length ∧ blk.length ≤ idx.length ∧ x11 < sz + 128 ∧ (∀ j, x11 ≤ j → j ≤ x10 → F j = (va, vb, vc, vd)) ∧ x10 ≤ sz - 1)
    (fun _ x11 _ _ _ _ _ _ _ _ _ _ => (sz + 128 - x11).toNat)
    (fun _ y11 _ _ _ _ _ _ _ _ _ _ _ x10 x11 x13 va vb vc vd _ s2 _ s3 m4 m5 => ∃ idx blk kn ev, s2 = aV idx ∧ s3 = aZ encF blk ∧ m4 = eD kn ∧ m5 = fA ev ∧ TInv sz F idx blk kn ev ∧ x11 = 128 * idx.length ∧ x11 < sz + 128 ∧ (∀ j, x11 ≤ j → j ≤ x10 → F j = (va, vb, vc, vd)) ∧ x10 ≤ sz - 1 ∧ 0 ≤ x13 ∧ blk[x13.toNat]? = some (rep (va, vb, vc, vd)) ∧
      ((x11 = y11 ∧ x11 < sz ∧ (x11 + 127 ≤ x10 ∨ sz - 1 ≤ x10) ∧ blk.length ≤ idx.length + 1) ∨ (y11 + 128 ≤ x11 ∧ blk.length ≤ idx.length)))
    (fun _ x11 _ _ _ _ _ _ _ _ _ _ _ => (sz + 128 - x11).toNat)
    (fun _ y11 _ _ _ _ _ _ _ _ _ _ _ _ x10 x11 x va vb vc vd c _ s3 _ s4 m5 m6 => ∃ idx blk kn ev, s3 = aV idx ∧ s4 = aZ encF blk ∧ m5 = eD kn ∧ m6 = fA ev ∧ TInv sz F idx blk kn ev ∧ x11 = 128 * idx.length ∧ blk.length ≤ idx.length ∧ x11 = y11 ∧ x11 < sz ∧ 0 ≤ x ∧ x ≤ 128 ∧ x10 ≤ sz - 1 ∧ (∀ j, x11 + x ≤ j → j ≤ x10 → F j = (va, vb, vc, vd)) ∧
      ∃ b : List (Bool × Bool × Bool × Bool), b.length = 128 ∧ c = b.flatMap encF ∧ ∀ (q : Nat) u, b[q]? = some u → q < x.toNat → x11 + q < sz → u = F (x11 + q))
    (fun _ _ x _ _ _ _ _ _ _ _ _ _ _ => (128 - x).toNat) ?_
  unfold yJ
  have hw1 : IntKind.i64.wrap (sz - 1) = sz - 1 := aD (by omega) (by omega)
  rw [hw1]
  refine bO (by simp; omega) ?_
  refine (yK n f l z 0 (sz - 1) hl hok).mono ?_
  rintro _ rfl
  obtain ⟨_, f2, f3, f4⟩ := hF 0 (by omega)
  refine ⟨_, rfl, rfl, _, rfl, _, rfl, rfl, _, rfl, _, rfl, _, rfl, _, rfl, _, rfl, _, rfl, ⟨rfl, [], [], [], [], rfl, rfl, rfl, rfl, TInv.nil, rfl, Nat.le_refl _, by omega, f4, f3⟩, ?_⟩
  clear f2 f3 f4
  rintro u0 x v0a v0b v0c v0d _ _ _ _ _ _ ⟨idx, blk, kn, ev, rfl, rfl, rfl, rfl, hk, hx, hb, hx2, hv0, hu0⟩
  refine aI (fun hc => ?_) (fun hc => ?_)
  · simp only [decide_eq_true_eq] at hc
    have hw2 : IntKind.i64.wrap (x + 128) = x + 128 := aD (by omega) (by omega)
    rw [hw2]
    have hmin : ∀ a : Int, IntKind.i64.wrap ((if sz < a + 128 then sz else a + 128) - 1) = (if sz < a + 128 then sz else a + 128) - 1 ∨ ¬ (0 ≤ a ∧ a ≤ 1114112) := fun a => by
      by_cases ha : 0 ≤ a ∧ a ≤ 1114112
      · left; split <;> exact aD (by omega) (by omega)
      · exact .inr ha
    have hmx := (hmin x).resolve_right (by omega)
    rw [hmx]
    refine aI (fun hgt => ?ga) (fun hgt => ?gb)
    case' ga =>
      refine (yK n f l z x (sz - 1) hl hok).mono ?_
      rintro _ rfl
      obtain ⟨_, hux, hu, hv⟩ := hF x (by omega)
      refine ⟨_, rfl, rfl, _, rfl, _, rfl, rfl, _, rfl, _, rfl, _, rfl, _, rfl, _, rfl, _, rfl, ?_⟩
      revert hv hu
      generalize (findL l z x (sz - 1)).1 = v
      generalize (findL l z x (sz - 1)).2 = u
      clear hv0 hu0 hux
      intro hu hv
    case' gb =>
      obtain ⟨v, rfl, rfl, rfl, rfl⟩ : ∃ v : (Bool × Bool × Bool × Bool), v.1 = v0a ∧ v.2.1 = v0b ∧ v.2.2.1 = v0c ∧ v.2.2.2 = v0d := ⟨(v0a, v0b, v0c, v0d), rfl, rfl, rfl, rfl⟩
      revert hv0 hu0 hgt
      generalize u0 = u
      intro hu hgt hv
    all_goals
      clear hgt
      refine aI (fun hc2 => ?_) (fun hc2 => ?_)
      · simp only [decide_eq_true_eq, ge_iff_le] at hc2
        have hc3 : x + 127 ≤ u ∨ sz - 1 ≤ u := by split at hc2 <;> omega
        refine (zmg hk (by omega) _ _ v).mono ?_
        rintro _ _ ⟨k, kn', ev', bn', blk', rfl, rfl, g1, g2, g3, g4⟩
        refine ⟨(k, eD kn', fA ev', bn', aZ encF blk'), ⟨rfl, rfl⟩, ⟨trivial, ⟨rfl, rfl, rfl⟩, trivial, trivial, trivial, trivial, trivial⟩, ⟨rfl, idx, blk', kn', ev', rfl, rfl, rfl, rfl, g1, hx, hx2, hv, hu, g2, g3, .inl ⟨rfl, hc, hc3, by omega⟩⟩, ?_⟩
        rintro t y k' wa wb wc wd _ _ _ _ _ _ ⟨idx2, blk2, kn2, ev2, rfl, rfl, rfl, rfl, hk2, hy, hy2, hw, ht, hk0, hkb, hor⟩
        have hwy : IntKind.i64.wrap (y + 128) = y + 128 := aD (by omega) (by omega)
        rw [hwy, (hmin y).resolve_right (by omega)]
        refine aI (fun hc4 => ?_) (fun hc4 => ?_)
        · simp only [Bool.and_eq_true, decide_eq_true_eq, ge_iff_le] at hc4
          have hc5 : y + 127 ≤ t ∨ sz - 1 ≤ t := by have := hc4.2; split at this <;> omega
          refine ⟨⟨fun e he => by simp at he; subst he; rfl, by rw [g9]; omega⟩, rfl, ⟨idx2 ++ [k'], blk2, kn2, ev2, by simp [aV], rfl, rfl, rfl, hk2.push hk0 hkb fun j u' hj hlt => ?_, by simp; omega, by omega, fun j h1 h2 => hw j (by omega) h2, ht, hk0, hkb, .inr ⟨by omega, by simp; omega⟩⟩, by dsimp only; omega⟩
          obtain ⟨rfl, hj2⟩ := zmh hj
          exact (hw _ (by omega) (by omega)).symm
        · have hw128 : IntKind.i64.wrap (y - 128) = y - 128 := aD (by omega) (by omega)
          have hback : IntKind.i64.wrap (y - 128 + 128) = y := by rw [aD (by omega) (by omega)]; omega
          rw [hw128, hback]
          simp only [Bool.and_eq_true, decide_eq_true_eq, ge_iff_le, not_and] at hc4
          have hor2 : x + 128 ≤ y ∧ blk2.length ≤ idx2.length := by
            rcases hor with ⟨h1, h2, h3, h4⟩ | h
            · exfalso
              have := hc4 h2
              split at this <;> omega
            · exact h
          exact ⟨rfl, ⟨idx2, blk2, kn2, ev2, rfl, rfl, rfl, rfl, hk2, hy, hor2.2, hy2, hw, ht⟩, by dsimp only; omega⟩
      · clear hc2
        refine ⟨⟨rfl, idx, blk, kn, ev, rfl, rfl, rfl, rfl, hk, hx, hb, rfl, hc, Int.le_refl _, by omega, hu, fun j h1 h2 => hv j (by omega) h2, List.replicate 128 (false, false, false, false), by simp, zev, fun q u' _ hq _ => by simp at hq⟩, ?_⟩
        rintro t y i wa wb wc wd _ _ _ _ _ _ _ ⟨idx2, blk2, kn2, ev2, rfl, rfl, rfl, rfl, hk2, hy, hb2, hyx, hy2, i0, i1, ht, hw, b, hbl, rfl, hbq⟩
        obtain ⟨w, rfl, rfl, rfl, rfl⟩ : ∃ v : (Bool × Bool × Bool × Bool), v.1 = wa ∧ v.2.1 = wb ∧ v.2.2.1 = wc ∧ v.2.2.2 = wd := ⟨(wa, wb, wc, wd), rfl, rfl, rfl, rfl⟩
        have hwyi : IntKind.i64.wrap (y + i) = y + i := aD (by omega) (by omega)
        have hwi : IntKind.i64.wrap (i + 1) = i + 1 := aD (by omega) (by omega)
        have hwy : IntKind.i64.wrap (y + 128) = y + 128 := aD (by omega) (by omega)
        rw [hwyi, hwi, hwy]
        have step : ∀ (v' : (Bool × Bool × Bool × Bool)) (u' : Int), (∀ j, y + i ≤ j → j ≤ u' → F j = v') → u' ≤ sz - 1 → (y + i < sz → F (y + i) = v') → i < 128 →
            ∃ idx blk kn ev, aV idx2 = aV idx ∧ aZ encF blk2 = aZ encF blk ∧ eD kn2 = eD kn ∧ fA ev2 = fA ev ∧ TInv sz F idx blk kn ev ∧ y = 128 * idx.length ∧ blk.length ≤ idx.length ∧ y = x ∧ y < sz ∧ 0 ≤ i + 1 ∧ i + 1 ≤ 128 ∧ u' ≤ sz - 1 ∧ (∀ j, y + (i + 1) ≤ j → j ≤ u' → F j = v') ∧
              ∃ c : List (Bool × Bool × Bool × Bool), c.length = 128 ∧ (b.set i.toNat v').flatMap encF = c.flatMap encF ∧ ∀ (q : Nat) u, c[q]? = some u → q < (i + 1).toNat → y + q < sz → u = F (y + q) := fun v' u' h1 h2 h3 h4 => by
          refine ⟨idx2, blk2, kn2, ev2, rfl, rfl, rfl, rfl, hk2, hy, hb2, hyx, hy2, by omega, by omega, h2, fun j a1 a2 => h1 j (by omega) a2, b.set i.toNat v', by simpa using hbl, rfl, fun q u hq hq2 hq3 => ?_⟩
          rw [List.getElem?_set] at hq
          by_cases e : i.toNat = q
          · rw [if_pos e, if_pos (by omega)] at hq
            cases hq
            have e2 : y + (q : Int) = y + i := by omega
            rw [e2]
            exact (h3 (by omega)).symm
          · rw [if_neg e] at hq
            exact hbq q u hq (by omega) hq3
        refine aI (fun hc5 => ?_) (fun hc5 => ?_)
        · simp only [decide_eq_true_eq] at hc5
          refine aI (fun hc6 => ?_) (fun hc6 => ?_)
          · simp only [Bool.and_eq_true, decide_eq_true_eq, gt_iff_lt] at hc6
            refine (yK n f l z (y + i) (sz - 1) hl hok).mono ?_
            rintro _ rfl
            obtain ⟨q1, q2, q3, q4⟩ := hF (y + i) (by omega)
            refine ⟨_, rfl, rfl, _, rfl, _, rfl, rfl, _, rfl, _, rfl, _, rfl, _, rfl, _, rfl, _, rfl, ⟨i0, hc5⟩, ⟨rfl, by rw [yN]; omega⟩, rfl, ?_, by dsimp only; omega⟩
            have hput := yM b i.toNat (by omega) (findL l z (y + i) (sz - 1)).1
            unfold encF at hput ⊢
            rw [hput]
            exact step _ _ q4 q3 (fun _ => q1.symm) hc5
          · simp only [Bool.and_eq_true, decide_eq_true_eq, gt_iff_lt, not_and] at hc6
            refine ⟨⟨i0, hc5⟩, ⟨rfl, by rw [yN]; omega⟩, rfl, ?_, by dsimp only; omega⟩
            have hput := yM b i.toNat (by omega) w
            unfold encF at hput ⊢
            rw [hput]
            exact step _ _ hw ht (fun h => hw _ (Int.le_refl _) ((Int.lt_or_le t (y + i)).elim (fun h2 => absurd h (hc6 h2)) id)) hc5
        · simp only [decide_eq_true_eq] at hc5
          have hi : i = 128 := by omega
          subst hi
          obtain ⟨B, hB⟩ : ∃ B : aQ (Bool × Bool × Bool × Bool), B.1 = b := ⟨⟨b, hbl⟩, rfl⟩
          subst hB
          have hcI : B.1.flatMap encF = cF B := rfl
          rw [hcI, yL]
          refine ⟨by rw [List.drop_zero, lE]; omega, (fun h => ⟨h, h⟩) ?_⟩
          refine (zes hk2 (by omega) _ _ B).mono ?_
          rintro _ _ ⟨k, kn', bn', blk', rfl, rfl, h1, h2, h3, h4⟩
          refine ⟨(k, eD kn', bn', aZ encF blk'), ⟨rfl, rfl⟩, ⟨trivial, ⟨rfl, rfl, rfl⟩, trivial, trivial, trivial, trivial, trivial⟩, ⟨fun e he => by simp at he; subst he; rfl, by rw [g9]; omega⟩, rfl, ⟨idx2 ++ [k], blk', kn', ev2, by simp [aV, kvF], rfl, rfl, rfl, h1.push h2 h3 fun j u' hj hlt => ?_, by simp; omega, by simp; omega, by omega, fun j a1 a2 => hw j (by omega) a2, ht⟩, by dsimp only; omega⟩
          have hj2 : j < 128 := by have := (List.getElem?_eq_some_iff.1 hj).1; simp only [hbl] at this; exact this
          rw [← hy]
          exact hbq j u' hj (by omega) (by omega)
  · simp only [decide_eq_true_eq] at hc
    exact ⟨_, _, _, _, idx, blk, rfl, by omega, hk.idx_ok⟩
end Go.Eng



namespace Go.Eng
open Go Go.Proofs
def jZ (n f : Bool) (es : LL) (za zb : Int) (i last : Int) (x3 : Int) (x14 : Int) (h1_0 : Int) (h1_1 : Int) : Env × Hp := ([(2, LV.pv (PV.int IntKind.i64 i)), (3, .pv (.int IntKind.i64 x3)), (5, LV.box 0 0), (8, LV.box 1 0), (12, LV.pv (PV.sl n f es)), (13, LV.pv (PV.int IntKind.i64 ↑es.length)), (14, .pv (.int IntKind.i64 x14))], [.box [LV.pv (PV.int IntKind.i32 za), LV.pv (PV.int IntKind.i32 zb)], .box [.pv (.int IntKind.i32 h1_0), .pv (.int IntKind.i32 h1_1)]])
def yO (n f : Bool) (es : LL) (za zb : Int) (i last : Int) (J : Int → Int → Int → Int → Prop) (μ : Int → Int → Int → Int → Nat) (R : PV → Prop) : Prop :=
 (aB (jZ n f es za zb i last last (0 : Int) (0 : Int) (0 : Int)) ∧ J last (0 : Int) (0 : Int) (0 : Int)) ∧ ∀ (x3 x14 h1_0 h1_1 : Int), J x3 x14 h1_0 h1_1 → if decide (x14 < (↑es.length : Int)) = true then aO es x14 4 ∧ ∃ (n1 : Int),
 (es.getD x14.toNat []).head? = some (Z6 n1) ∧ ∃ (n2 : Int), (es.getD x14.toNat []).tail.head? = some (Z6 n2) ∧ ∃ (n3 : Int), (es.getD x14.toNat []).tail.tail.head? = some (Z3 n3) ∧ ∃ (n4 : Int), (es.getD x14.toNat []).tail.tail.tail.head? =
 some (Z3 n4) ∧ if decide (n1 ≤ i) = true then if decide (i ≤ n2) = true then (R (PV.tup [PV.agg [Z3 n3, Z3 n4], Z6 (if x3 < n2 then x3 else n2)]) ∧ R (PV.tup [PV.agg [Z3 n3, Z3 n4], Z6 (if x3 < n2 then x3 else n2)])) ∧ R (PV.tup [PV.agg [Z3
 n3, Z3 n4], Z6 (if x3 < n2 then x3 else n2)]) else if decide (i < n1) = true then if decide (n1 ≤ x3) = true then aB (jZ n f es za zb i last (IntKind.i64.wrap (n1 - 1)) (IntKind.i64.wrap (x14 + 1)) h1_0 h1_1) ∧ J (IntKind.i64.wrap (n1
 - 1)) (IntKind.i64.wrap (x14 + 1)) h1_0 h1_1 ∧ μ (IntKind.i64.wrap (n1 - 1)) (IntKind.i64.wrap (x14 + 1)) h1_0 h1_1 < μ x3 x14 h1_0 h1_1 else aB (jZ n f es za zb i last x3 (IntKind.i64.wrap (x14 + 1)) h1_0 h1_1) ∧ J x3
 (IntKind.i64.wrap (x14 + 1)) h1_0 h1_1 ∧ μ x3 (IntKind.i64.wrap (x14 + 1)) h1_0 h1_1 < μ x3 x14 h1_0 h1_1 else aB (jZ n f es za zb i last x3 (IntKind.i64.wrap (x14 + 1)) h1_0 h1_1) ∧ J x3 (IntKind.i64.wrap (x14 + 1)) h1_0 h1_1 ∧ μ x3
 (IntKind.i64.wrap (x14 + 1)) h1_0 h1_1 < μ x3 x14 h1_0 h1_1 else if decide (i < n1) = true then if decide (n1 ≤ x3) = true then aB (jZ n f es za zb i last (IntKind.i64.wrap (n1 - 1)) (IntKind.i64.wrap (x14 + 1)) h1_0 h1_1) ∧ J
 (IntKind.i64.wrap (n1 - 1)) (IntKind.i64.wrap (x14 + 1)) h1_0 h1_1 ∧ μ (IntKind.i64.wrap (n1 - 1)) (IntKind.i64.wrap (x14 + 1)) h1_0 h1_1 < μ x3 x14 h1_0 h1_1 else aB (jZ n f es za zb i last x3 (IntKind.i64.wrap (x14 + 1)) h1_0 h1_1)
 ∧ J x3 (IntKind.i64.wrap (x14 + 1)) h1_0 h1_1 ∧ μ x3 (IntKind.i64.wrap (x14 + 1)) h1_0 h1_1 < μ x3 x14 h1_0 h1_1 else aB (jZ n f es za zb i last x3 (IntKind.i64.wrap (x14 + 1)) h1_0 h1_1) ∧ J x3 (IntKind.i64.wrap (x14 + 1)) h1_0 h1_1
 ∧ μ x3 (IntKind.i64.wrap (x14 + 1)) h1_0 h1_1 < μ x3 x14 h1_0 h1_1 else R (PV.tup [PV.agg [Z3 za, Z3 zb], Z6 x3])
theorem zmj (n f : Bool) (es : LL) (za zb : Int) (i last : Int) (J : Int → Int → Int → Int → Prop) (μ : Int → Int → Int → Int → Nat) {R : PV → Prop} (h : yO n f es za zb i last J μ R) : PCall Try.prog 65 [.sl n f es, .agg [.int .i32 za, .int .i32 zb], .int .i64 i, .int .i64 last] R :=
  PCall.of Try.func65 (by kernel_rfl) (by kernel_rfl) (Nat.le_of_ble_eq_true (by kernel_rfl)) (Eq.mpr (by kernel_rfl : aW Try.prog (fun _ => none) Try.f65 [0, 1, 2, 3, 5, 8, 9, 11, 12, 13, 14, 15, 18, 35] (fun zz_ => match zz_ with | 2 => some ⟨Int × Int × Int × Int, fun s => jZ n f es za zb i last s.1 s.2.1 s.2.2.1 s.2.2.2, fun _ s => J s.1 s.2.1 s.2.2.1 s.2.2.2, fun s => μ s.1 s.2.1 s.2.2.1 s.2.2.2, fun e h => (gI e 3, gI e 14, hI h 1 0, hI h 1 1), [], [2, 3, 5, 8, 12, 13, 14], [], fun p => ∀ (x3 : Int) (x14 : Int) (h1_0 : Int) (h1_1 : Int), p (x3, x14, h1_0, h1_1), fun p h s => h s.1 s.2.1 s.2.2.1 s.2.2.2⟩ | _ => none) (Try.f65.body.getD .skip) [.sl n f es, .agg [.int .i32 za, .int .i32 zb], .int .i64 i, .int .i64 last] R = yO n f es za zb i last J μ R) h)

def yP (sz : Int) (n f n2 f2 : Bool) (es bs : LL) (i : Int) (R : PV → Prop) : Prop :=
 if decide (i < 0) = true then R (PV.agg [Z3 0, Z3 0]) else ∃ (n1 : Int), some (Z6 sz) = some (Z6 n1) ∧ if decide (i ≥ n1) = true then R (PV.agg [Z3 0, Z3 0]) else ∃ (n3 : Bool), ∃ (f1 : Bool), ∃ (es1 : LL), some (PV.sl n2 f2 bs) = some
 (PV.sl n3 f1 es1) ∧ ∃ (n4 : Bool), ∃ (f3 : Bool), ∃ (es2 : LL), some (PV.sl n f es) = some (PV.sl n4 f3 es2) ∧ aO es2 (IntKind.i64.wrap (i.tdiv (128 : Int))) 1 ∧ ∃ (n5 : Int), (es2.getD (IntKind.i64.wrap (i.tdiv (128 : Int))).toNat
 []).head? = some (Z6 n5) ∧ aO es1 n5 256 ∧ ((0 : Int) ≤ i.tmod (128 : Int) ∧ i.tmod (128 : Int) < (↑128 : Int)) ∧ ∃ (n6 : Int), (List.drop ((i.tmod (128 : Int)).toNat * 2) (es1.getD n5.toNat [])).head? = some (Z3 n6) ∧ ∃ (n7 : Int),
 (List.drop ((i.tmod (128 : Int)).toNat * 2) (es1.getD n5.toNat [])).tail.head? = some (Z3 n7) ∧ R (PV.agg [Z3 n6, Z3 n7])
theorem zmk (sz : Int) (n f n2 f2 : Bool) (es bs : LL) (i : Int) {R : PV → Prop} (h : yP sz n f n2 f2 es bs i R) : PCall Try.prog 33 [.ptr [.int .i64 sz, .sl n f es, .sl n2 f2 bs], .int .i64 i] R :=
  PCall.of Try.func33 (by kernel_rfl) (by kernel_rfl) (Nat.le_of_ble_eq_true (by kernel_rfl)) (Eq.mpr (by kernel_rfl : aW Try.prog (fun _ => none) Try.f33 [0, 1, 4, 5, 19] (fun _ => none) (Try.f33.body.getD .skip) [.ptr [.int .i64 sz, .sl n f es, .sl n2 f2 bs], .int .i64 i] R = yP sz n f n2 f2 es bs i R) h)

def yQ (sz : Int) (kn ev : List (PV × PV)) (ixm ixn bkm bkn : Bool) (ix bk : LL) (b : List PV) (R : LV → Hp → Prop) : Prop :=
 256 ≤ (List.drop 0 b).length ∧ cA Try.prog 118 kn ∧ aX Try.prog 118 (PV.agg (List.take 256 (List.drop 0 b))) = true ∧ (∀ (v : PV), bS (PV.agg (List.take 256 (List.drop 0 b))) kn = some v → ∃ (n : Int), v = Z6 n ∧ R (Y6 n) [Ob.box
 [LV.box 1 0, LV.mp 2, LV.mp 3], Ob.box [Y6 sz, LV.own 4, LV.own 5], Ob.mp kn, Ob.mp ev, Ob.sl (3, 1) ixm ixn ix, Ob.sl (118, 256) bkm bkn bk]) ∧ (bS (PV.agg (List.take 256 (List.drop 0 b))) kn = none → 256 ≤ (List.drop 0 b).length ∧
 cA Try.prog 118 kn ∧ aX Try.prog 118 (PV.agg (List.take 256 (List.drop 0 b))) = true ∧ 256 ≤ (List.drop 0 b).length ∧ ((List.take 256 (List.drop 0 b)).length = 256 ∧ (aR [List.take 256 (List.drop 0 b)] 256 ∧ (bk.length + 1) * 1024
 ≤ 140737488355328) ∧ R (Y6 (↑bk.length : Int)) [Ob.box [LV.box 1 0, LV.mp 2, LV.mp 3], Ob.box [Y6 sz, LV.own 4, LV.own 5], Ob.mp (aP (PV.agg (List.take 256 (List.drop 0 b))) (Z6 (↑bk.length : Int)) kn), Ob.mp ev, Ob.sl (3, 1) ixm ixn
 ix, Ob.sl (118, 256) true (bkn && false) (bk ++ [List.take 256 (List.drop 0 b)])]) ∧ (List.take 256 (List.drop 0 b)).length = 256 ∧ Dup ((aR [List.take 256 (List.drop 0 b)] 256 ∧ (bk.length + 1) * 1024 ≤ 140737488355328) ∧ R (Y6
 (↑bk.length : Int)) [Ob.box [LV.box 1 0, LV.mp 2, LV.mp 3], Ob.box [Y6 sz, LV.own 4, LV.own 5], Ob.mp (aP (PV.agg (List.take 256 (List.drop 0 b))) (Z6 (↑bk.length : Int)) kn), Ob.mp ev, Ob.sl ((3 : Nat), 1) ixm ixn ix, Ob.sl (118, 256)
 true (bkn && false) (bk ++ [List.take 256 (List.drop 0 b)])]))
theorem zml (sz : Int) (kn ev : List (PV × PV)) (ixm ixn bkm bkn : Bool) (ix bk : LL) (b : List PV) {R : LV → Hp → Prop} (h : yQ sz kn ev ixm ixn bkm bkn ix bk b R) : ACall Try.prog 67 [.box 0 0, .pv (.agg b)] [.box [.box 1 0, .mp 2, .mp 3], .box [.pv (.int .i64 sz), .own 4, .own 5], .mp kn, .mp ev, .sl (3, 1) ixm ixn ix, .sl (118, 256) bkm bkn bk] R :=
  ACall.of Try.func67 (by kernel_rfl) (by kernel_rfl) (Nat.le_of_ble_eq_true (by kernel_rfl)) (Eq.mpr (by kernel_rfl : dH Try.prog (fun _ => none) Try.f67 [0, 1, 3, 4, 5, 6, 17] (fun _ => none) [0,1,2,3,4,5] (Try.f67.body.getD .skip) [.box 0 0, .pv (.agg b)] [.box [.box 1 0, .mp 2, .mp 3], .box [.pv (.int .i64 sz), .own 4, .own 5], .mp kn, .mp ev, .sl (3, 1) ixm ixn ix, .sl (118, 256) bkm bkn bk] R = yQ sz kn ev ixm ixn bkm bkn ix bk b R) h)

def yR (sz : Int) (kn ev : List (PV × PV)) (ixm ixn bkm bkn : Bool) (ix bk : LL) (va vb : Int) (x20 : Int) (m_2 : List (PV × PV)) (m_3 : List (PV × PV)) (c_7 : List PV) : Env × Hp := ([(0, LV.box 0 0), (3, LV.box 6 0), (7, LV.box 7 0), (20, .pv (.int IntKind.i64 x20))], [.box [LV.box 1 0, LV.mp 2, LV.mp 3], .box [LV.pv (PV.int IntKind.i64 sz), LV.own 4, LV.own 5], .mp m_2, .mp m_3, .sl (3, 1) ixm ixn ix, .sl (118, 256) bkm bkn bk, .box [LV.pv (PV.int IntKind.i32 va), LV.pv (PV.int IntKind.i32 vb)], .arr c_7])
def yS (sz : Int) (kn ev : List (PV × PV)) (ixm ixn bkm bkn : Bool) (ix bk : LL) (va vb : Int) (J : Int → (List (PV × PV)) → (List (PV × PV)) → (List PV) → Prop) (μ : Int → (List (PV × PV)) → (List (PV × PV)) → (List PV) → Nat) (R : LV → Hp → Prop) : Prop :=
 cA Try.prog 62 ev ∧ aX Try.prog 62 (PV.agg [Z3 va, Z3 vb]) = true ∧ (∀ (v : PV), bS (PV.agg [Z3 va, Z3 vb]) ev = some v → ∃ (n : Int), v = Z6 n ∧ R (Y6 n) [Ob.box [LV.box 1 0, LV.mp 2, LV.mp 3], Ob.box [Y6 sz, LV.own 4, LV.own
 5], Ob.mp kn, Ob.mp ev, Ob.sl (3, 1) ixm ixn ix, Ob.sl (118, 256) bkm bkn bk]) ∧ (bS (PV.agg [Z3 va, Z3 vb]) ev = none → (SameSt ([(0, LV.box 0 0), (3, LV.box 6 0), (7, LV.box 7 0), (20, Y6 0)], [Ob.box [LV.box 1 0, LV.mp 2, LV.mp 3],
 Ob.box [Y6 sz, LV.own 4, LV.own 5], Ob.mp kn, Ob.mp ev, Ob.sl (3, 1) (bif false then true else ixm) ixn ix, Ob.sl (118, 256) (bif false then true else bkm) bkn bk, Ob.box [LV.pv (Z3 va), LV.pv (Z3 vb)], Ob.arr (List.replicate 256 (Z3 0))])
 (yR sz kn ev ixm ixn bkm bkn ix bk va vb (0 : Int) kn ev (List.replicate 256 (Z3 0))) ∧ J (0 : Int) kn ev (List.replicate 256 (Z3 0))) ∧ ∀ (x20 : Int) (m_2 m_3 : List (PV × PV)) (c_7 : List PV), J x20 m_2 m_3 c_7 → if decide (x20 < 128)
 = true then ((0 : Int) ≤ x20 ∧ x20 < (↑128 : Int)) ∧ (2 = (2 : Nat) ∧ 0 + x20.toNat * 2 + 2 ≤ c_7.length) ∧ SameSt ([(0, LV.box 0 0), (3, LV.box 6 0), (7, LV.box 7 0), (20, LV.pv (Z6 (IntKind.i64.wrap (x20 + 1))))], [Ob.box [LV.box 1 0,
 LV.mp 2, LV.mp 3], Ob.box [Y6 sz, LV.own 4, LV.own 5], Ob.mp m_2, Ob.mp m_3, Ob.sl (3, 1) (bif false then true else ixm) ixn ix, Ob.sl (118, 256) (bif false then true else bkm) bkn bk, Ob.box [LV.pv (Z3 va), LV.pv (Z3 vb)], Ob.arr (aL c_7
 (0 + x20.toNat * 2) [Z3 va, Z3 vb])]) (yR sz kn ev ixm ixn bkm bkn ix bk va vb (IntKind.i64.wrap (x20 + 1)) m_2 m_3 (aL c_7 ((0 : Nat) + x20.toNat * 2) [Z3 va, Z3 vb])) ∧ J (IntKind.i64.wrap (x20 + 1)) m_2 m_3 (aL c_7 ((0 : Nat) +
 x20.toNat * 2) [Z3 va, Z3 vb]) ∧ μ (IntKind.i64.wrap (x20 + 1)) m_2 m_3 (aL c_7 (0 + x20.toNat * 2) [Z3 va, Z3 vb]) < μ x20 m_2 m_3 c_7 else 256 ≤ (List.drop 0 c_7).length ∧ ACall Try.prog 67 [LV.box 0 0, LV.pv (PV.agg (List.take 256
 (List.drop 0 c_7)))] [Ob.box [LV.box 1 0, LV.mp 2, LV.mp 3], Ob.box [Y6 sz, LV.own 4, LV.own 5], Ob.mp m_2, Ob.mp m_3, Ob.sl (3, 1) false ixn ix, Ob.sl (118, 256) false bkn bk] fun (r : LV) (h' : Hp) ↦ ∃ (t : Int × List (PV × PV) × Bool ×
 LL), (r = Y6 t.1 ∧ h' = [Ob.box [LV.box 1 0, LV.mp 2, LV.mp 3], Ob.box [Y6 sz, LV.own 4, LV.own 5], Ob.mp t.snd.fst, Ob.mp m_3, Ob.sl (3, 1) false ixn ix, Ob.sl (118, 256) true t.snd.snd.fst t.snd.snd.snd]) ∧ (True ∧ ((3, 1) = (3, 1) ∧ ixn
 = ixn ∧ ix.length = ix.length) ∧ True ∧ True ∧ True ∧ True ∧ True) ∧ cA Try.prog 62 m_3 ∧ aX Try.prog 62 (PV.agg [Z3 va, Z3 vb]) = true ∧ R (Y6 t.1) [Ob.box [LV.box 1 0, LV.mp 2, LV.mp 3], Ob.box [Y6 sz, LV.own 4, LV.own 5], Ob.mp
 t.snd.fst, Ob.mp (aP (PV.agg [Z3 va, Z3 vb]) (Z6 t.1) m_3), Ob.sl (3, 1) (ixm || false) ixn ix, Ob.sl (118, 256) (bkm || true) t.snd.snd.fst t.snd.snd.snd])
theorem zmm (sz : Int) (kn ev : List (PV × PV)) (ixm ixn bkm bkn : Bool) (ix bk : LL) (va vb : Int) (J : Int → (List (PV × PV)) → (List (PV × PV)) → (List PV) → Prop) (μ : Int → (List (PV × PV)) → (List (PV × PV)) → (List PV) → Nat) {R : LV → Hp → Prop} (h : yS sz kn ev ixm ixn bkm bkn ix bk va vb J μ R) : ACall Try.prog 66 [.box 0 0, .pv (.agg [.int .i32 va, .int .i32 vb])] [.box [.box 1 0, .mp 2, .mp 3], .box [.pv (.int .i64 sz), .own 4, .own 5], .mp kn, .mp ev, .sl (3, 1) ixm ixn ix, .sl (118, 256) bkm bkn bk] R :=
  ACall.of Try.func66 (by kernel_rfl) (by kernel_rfl) (Nat.le_of_ble_eq_true (by kernel_rfl)) (Eq.mpr (by kernel_rfl : dH Try.prog (fun zz_ => match zz_ with | 67 => some ⟨Int × List (PV × PV) × Bool × LL, fun _ hs t => (.pv (.int .i64 t.1), match hs with | [m, r, .mp _, ev, ix, .sl a _ _ _] => [m, r, .mp t.2.1, ev, ix, .sl a true t.2.2.1 t.2.2.2] | h => h), none⟩ | _ => none) Try.f66 [0, 1, 3, 4, 5, 6, 7, 8, 19, 20, 21] (fun zz_ => match zz_ with | 5 => some ⟨Int × (List (PV × PV)) × (List (PV × PV)) × (List PV), fun s => yR sz kn ev ixm ixn bkm bkn ix bk va vb s.1 s.2.1 s.2.2.1 s.2.2.2, fun _ s => J s.1 s.2.1 s.2.2.1 s.2.2.2, fun s => μ s.1 s.2.1 s.2.2.1 s.2.2.2, fun e h => (gI e 20, oM h 2, oM h 3, oA h 7), [], [0, 3, 7, 20], [], fun p => ∀ (x20 : Int) (m_2 : List (PV × PV)) (m_3 : List (PV × PV)) (c_7 : List PV), p (x20, m_2, m_3, c_7), fun p h s => h s.1 s.2.1 s.2.2.1 s.2.2.2⟩ | _ => none) [0,1,2,3,4,5] (Try.f66.body.getD .skip) [.box 0 0, .pv (.agg [.int .i32 va, .int .i32 vb])] [.box [.box 1 0, .mp 2, .mp 3], .box [.pv (.int .i64 sz), .own 4, .own 5], .mp kn, .mp ev, .sl (3, 1) ixm ixn ix, .sl (118, 256) bkm bkn bk] R = yS sz kn ev ixm ixn bkm bkn ix bk va vb J μ R) h)

def j5 (sz : Int) (za zb : Int) (n f : Bool) (es : LL) (x10 : Int) (x11 : Int) (h3_0 : Int) (h3_1 : Int) (n_4 : Bool) (s_4 : LL) (n_5 : Bool) (s_5 : LL) (m_6 : List (PV × PV)) (m_7 : List (PV × PV)) : Env × Hp := ([(0, LV.pv (PV.int IntKind.i64 sz)), (2, LV.pv (PV.sl n f es)), (4, LV.box 0 0), (7, LV.box 1 0), (8, LV.box 2 0), (9, LV.box 3 0), (10, .pv (.int IntKind.i64 x10)), (11, .pv (.int IntKind.i64 x11))], [.box [LV.pv (PV.int IntKind.i32 za), LV.pv (PV.int IntKind.i32 zb)], .box [LV.pv (PV.int IntKind.i64 sz), LV.own 4, LV.own 5], .box [LV.box 1 0, LV.mp 6, LV.mp 7], .box [.pv (.int IntKind.i32 h3_0), .pv (.int IntKind.i32 h3_1)], .sl (3, 1) true n_4 s_4, .sl (118, 256) true n_5 s_5, .mp m_6, .mp m_7])
def o9 (sz : Int) (za zb : Int) (n f : Bool) (es : LL) (x10 : Int) (x11 : Int) (x13 : Int) (h3_0 : Int) (h3_1 : Int) (n_4 : Bool) (s_4 : LL) (n_5 : Bool) (s_5 : LL) (m_6 : List (PV × PV)) (m_7 : List (PV × PV)) : Env × Hp := ([(0, LV.pv (PV.int IntKind.i64 sz)), (2, LV.pv (PV.sl n f es)), (4, LV.box 0 0), (7, LV.box 1 0), (8, LV.box 2 0), (9, LV.box 3 0), (10, .pv (.int IntKind.i64 x10)), (11, .pv (.int IntKind.i64 x11)), (13, .pv (.int IntKind.i64 x13))], [.box [LV.pv (PV.int IntKind.i32 za), LV.pv (PV.int IntKind.i32 zb)], .box [LV.pv (PV.int IntKind.i64 sz), LV.own 4, LV.own 5], .box [LV.box 1 0, LV.mp 6, LV.mp 7], .box [.pv (.int IntKind.i32 h3_0), .pv (.int IntKind.i32 h3_1)], .sl (3, 1) true n_4 s_4, .sl (118, 256) true n_5 s_5, .mp m_6, .mp m_7])
def lF (sz : Int) (za zb : Int) (n f : Bool) (es : LL) (x10 : Int) (x11 : Int) (x88 : Int) (h3_0 : Int) (h3_1 : Int) (c_4 : List PV) (n_5 : Bool) (s_5 : LL) (n_6 : Bool) (s_6 : LL) (m_7 : List (PV × PV)) (m_8 : List (PV × PV)) : Env × Hp := ([(0, LV.pv (PV.int IntKind.i64 sz)), (2, LV.pv (PV.sl n f es)), (4, LV.box 0 0), (7, LV.box 1 0), (8, LV.box 2 0), (9, LV.box 3 0), (10, .pv (.int IntKind.i64 x10)), (11, .pv (.int IntKind.i64 x11)), (14, LV.box 4 0), (88, .pv (.int IntKind.i64 x88))], [.box [LV.pv (PV.int IntKind.i32 za), LV.pv (PV.int IntKind.i32 zb)], .box [LV.pv (PV.int IntKind.i64 sz), LV.own 5, LV.own 6], .box [LV.box 1 0, LV.mp 7, LV.mp 8], .box [.pv (.int IntKind.i32 h3_0), .pv (.int IntKind.i32 h3_1)], .arr c_4, .sl (3, 1) true n_5 s_5, .sl (118, 256) true n_6 s_6, .mp m_7, .mp m_8])
def yT (sz : Int) (za zb : Int) (n f : Bool) (es : LL) (J : Int → Int → Int → Int → Bool → (LL) → Bool → (LL) → (List (PV × PV)) → (List (PV × PV)) → Prop) (μ : Int → Int → Int → Int → Bool → (LL) → Bool → (LL) → (List (PV × PV)) → (List (PV × PV)) → Nat) (J2 : Int → Int → Int → Int → Int → Bool → (LL) → Bool → (LL) → (List (PV × PV)) → (List (PV × PV)) → Int → Int → Int → Int → Int → Bool → (LL) → Bool → (LL) → (List (PV × PV)) → (List (PV × PV)) → Prop) (μ2 : Int → Int → Int → Int → Int → Bool → (LL) → Bool → (LL) → (List (PV × PV)) → (List (PV × PV)) → Nat) (J3 : Int → Int → Int → Int → Int → (List PV) → Bool → (LL) → Bool → (LL) → (List (PV × PV)) → (List (PV × PV)) → Int → Int → Int → Int → Int → (List PV) → Bool → (LL) → Bool → (LL) → (List (PV × PV)) → (List (PV × PV)) → Prop) (μ3 : Int → Int → Int → Int → Int → (List PV) → Bool → (LL) → Bool → (LL) → (List (PV × PV)) → (List (PV × PV)) → Nat) (R : PV → Prop) : Prop :=
 if decide (sz < 1) = true then R PV.nilp else PCall Try.prog 65 [PV.sl n f es, PV.agg [Z3 za, Z3 zb], Z6 0, Z6 (IntKind.i64.wrap (sz - 1))] fun (v : PV) ↦ ∃ (vs : List PV), v = PV.tup vs ∧ vs.length = 2 ∧ ∃ (x : PV), vs.head? = some x ∧ ∃
 (cs : List PV), x = PV.agg cs ∧ cs.length = 2 ∧ ∃ (n1 : Int), cs.head? = some (Z3 n1) ∧ ∃ (n2 : Int), cs.tail.head? = some (Z3 n2) ∧ ∃ (x1 : PV), vs.tail.head? = some x1 ∧ ∃ (n3 : Int), x1 = Z6 n3 ∧ (aB (j5 sz za zb n f es n3 (0 :
 Int) n1 n2 true [] true [] [] []) ∧ J n3 (0 : Int) n1 n2 true [] true [] [] []) ∧ ∀ (x10 x11 h3_0 h3_1 : Int) (n_4 : Bool) (s_4 : LL) (n_5 : Bool) (s_5 : LL) (m_6 m_7 : List (PV × PV)), J x10 x11 h3_0 h3_1 n_4 s_4 n_5 s_5 m_6 m_7 → if
 decide (x11 < sz) = true then if decide (x11 > x10) = true then PCall Try.prog 65 [PV.sl n f es, PV.agg [Z3 za, Z3 zb], Z6 x11, Z6 (IntKind.i64.wrap (sz - 1))] fun (v1 : PV) ↦ ∃ (vs1 : List PV), v1 = PV.tup vs1 ∧ vs1.length = 2 ∧ ∃ (x2 :
 PV), vs1.head? = some x2 ∧ ∃ (cs1 : List PV), x2 = PV.agg cs1 ∧ cs1.length = 2 ∧ ∃ (n4 : Int), cs1.head? = some (Z3 n4) ∧ ∃ (n5 : Int), cs1.tail.head? = some (Z3 n5) ∧ ∃ (x3 : PV), vs1.tail.head? = some x3 ∧ ∃ (n6 : Int), x3 = Z6 n6 ∧ if
 decide (n6 ≥ IntKind.i64.wrap ((if sz < IntKind.i64.wrap (x11 + 128) then sz else IntKind.i64.wrap (x11 + 128)) - 1)) = true then ACall Try.prog 66 [LV.box 0 0, LV.pv (PV.agg [Z3 n4, Z3 n5])] [Ob.box [LV.box 1 0, LV.mp 2, LV.mp 3], Ob.box
 [Y6 sz, LV.own 4, LV.own 5], Ob.mp m_6, Ob.mp m_7, Ob.sl (3, 1) false n_4 s_4, Ob.sl (118, 256) false n_5 s_5] fun (r : LV) (h' : Hp) ↦ ∃ (t : Int × List (PV × PV) × List (PV × PV) × Bool × LL), (r = Y6 t.1 ∧ h' = [Ob.box [LV.box 1 0, LV.mp
 2, LV.mp 3], Ob.box [Y6 sz, LV.own 4, LV.own 5], Ob.mp t.snd.fst, Ob.mp t.snd.snd.fst, Ob.sl (3, 1) false n_4 s_4, Ob.sl (118, 256) true t.snd.snd.snd.fst t.snd.snd.snd.snd]) ∧ (True ∧ ((3, 1) = (3, 1) ∧ n_4 = n_4 ∧ s_4.length = s_4.length)
 ∧ True ∧ True ∧ True ∧ True ∧ True) ∧ (aB (o9 sz za zb n f es n6 x11 t.1 n4 n5 n_4 s_4 t.snd.snd.snd.fst t.snd.snd.snd.snd t.snd.fst t.snd.snd.fst) ∧ J2 n6 x11 t.1 n4 n5 n_4 s_4 t.snd.snd.snd.fst t.snd.snd.snd.snd t.snd.fst
 t.snd.snd.fst n6 x11 t.1 n4 n5 n_4 s_4 t.snd.snd.snd.fst t.snd.snd.snd.snd t.snd.fst t.snd.snd.fst) ∧ ∀ (x101 x111 x13 h3_01 h3_11 : Int) (n_41 : Bool) (s_41 : LL) (n_51 : Bool) (s_51 : LL) (m_61 m_71 : List (PV × PV)), J2 n6 x11 t.1 n4 n5
 n_4 s_4 t.snd.snd.snd.fst t.snd.snd.snd.snd t.snd.fst t.snd.snd.fst x101 x111 x13 h3_01 h3_11 n_41 s_41 n_51 s_51 m_61 m_71 → if (decide (x111 < sz) && decide (x101 ≥ IntKind.i64.wrap ((if sz < IntKind.i64.wrap (x111 + 128) then sz else
 IntKind.i64.wrap (x111 + 128)) - 1))) = true then (aR [[Z6 x13]] 1 ∧ (s_41.length + 1) * 8 ≤ 140737488355328) ∧ aB (o9 sz za zb n f es x101 (IntKind.i64.wrap (x111 + 128)) x13 h3_01 h3_11 (n_41 && false) (s_41 ++ [[Z6 x13]]) n_51
 s_51 m_61 m_71) ∧ J2 n6 x11 t.1 n4 n5 n_4 s_4 t.snd.snd.snd.fst t.snd.snd.snd.snd t.snd.fst t.snd.snd.fst x101 (IntKind.i64.wrap (x111 + 128)) x13 h3_01 h3_11 (n_41 && false) (s_41 ++ [[Z6 x13]]) n_51 s_51 m_61 m_71 ∧ μ2 x101
 (IntKind.i64.wrap (x111 + 128)) x13 h3_01 h3_11 (n_41 && false) (s_41 ++ [[Z6 x13]]) n_51 s_51 m_61 m_71 < μ2 x101 x111 x13 h3_01 h3_11 n_41 s_41 n_51 s_51 m_61 m_71 else aB (j5 sz za zb n f es x101 (IntKind.i64.wrap (IntKind.i64.wrap
 (x111 - 128) + 128)) h3_01 h3_11 n_41 s_41 n_51 s_51 m_61 m_71) ∧ J x101 (IntKind.i64.wrap (IntKind.i64.wrap (x111 - 128) + 128)) h3_01 h3_11 n_41 s_41 n_51 s_51 m_61 m_71 ∧ μ x101 (IntKind.i64.wrap (IntKind.i64.wrap (x111 - 128) + 128))
 h3_01 h3_11 n_41 s_41 n_51 s_51 m_61 m_71 < μ x10 x11 h3_0 h3_1 n_4 s_4 n_5 s_5 m_6 m_7 else (aB (lF sz za zb n f es n6 x11 (0 : Int) n4 n5 (List.replicate 256 (Z3 0)) n_4 s_4 n_5 s_5 m_6 m_7) ∧ J3 n6 x11 (0 : Int) n4 n5
 (List.replicate 256 (Z3 0)) n_4 s_4 n_5 s_5 m_6 m_7 n6 x11 (0 : Int) n4 n5 (List.replicate 256 (Z3 0)) n_4 s_4 n_5 s_5 m_6 m_7) ∧ ∀ (x101 x111 x88 h3_01 h3_11 : Int) (c_4 : List PV) (n_51 : Bool) (s_51 : LL) (n_6 : Bool) (s_6 : LL) (m_71
 m_8 : List (PV × PV)), J3 n6 x11 (0 : Int) n4 n5 (List.replicate 256 (Z3 0)) n_4 s_4 n_5 s_5 m_6 m_7 x101 x111 x88 h3_01 h3_11 c_4 n_51 s_51 n_6 s_6 m_71 m_8 → if decide (x88 < 128) = true then if (decide (IntKind.i64.wrap (x111 + x88) >
 x101) && decide (IntKind.i64.wrap (x111 + x88) < sz)) = true then PCall Try.prog 65 [PV.sl n f es, PV.agg [Z3 za, Z3 zb], Z6 (IntKind.i64.wrap (x111 + x88)), Z6 (IntKind.i64.wrap (sz - 1))] fun (v2 : PV) ↦ ∃ (vs2 : List PV), v2 = PV.tup vs2
 ∧ vs2.length = 2 ∧ ∃ (x4 : PV), vs2.head? = some x4 ∧ ∃ (cs2 : List PV), x4 = PV.agg cs2 ∧ cs2.length = 2 ∧ ∃ (n7 : Int), cs2.head? = some (Z3 n7) ∧ ∃ (n8 : Int), cs2.tail.head? = some (Z3 n8) ∧ ∃ (x5 : PV), vs2.tail.head? = some x5 ∧ ∃ (n9
 : Int), x5 = Z6 n9 ∧ ((0 : Int) ≤ x88 ∧ x88 < (↑128 : Int)) ∧ (2 = 2 ∧ 0 + x88.toNat * 2 + 2 ≤ c_4.length) ∧ aB (lF sz za zb n f es n9 x111 (IntKind.i64.wrap (x88 + 1)) n7 n8 (aL c_4 (0 + x88.toNat * 2) [Z3 n7, Z3 n8]) n_51 s_51 n_6
 s_6 m_71 m_8) ∧ J3 n6 x11 (0 : Int) n4 n5 (List.replicate 256 (Z3 0)) n_4 s_4 n_5 s_5 m_6 m_7 n9 x111 (IntKind.i64.wrap (x88 + 1)) n7 n8 (aL c_4 (0 + x88.toNat * 2) [Z3 n7, Z3 n8]) n_51 s_51 n_6 s_6 m_71 m_8 ∧ μ3 n9 x111 (IntKind.i64.wrap
 (x88 + 1)) n7 n8 (aL c_4 (0 + x88.toNat * 2) [Z3 n7, Z3 n8]) n_51 s_51 n_6 s_6 m_71 m_8 < μ3 x101 x111 x88 h3_01 h3_11 c_4 n_51 s_51 n_6 s_6 m_71 m_8 else ((0 : Int) ≤ x88 ∧ x88 < (↑128 : Int)) ∧ (2 = 2 ∧ 0 + x88.toNat * 2 + 2 ≤
 c_4.length) ∧ aB (lF sz za zb n f es x101 x111 (IntKind.i64.wrap (x88 + 1)) h3_01 h3_11 (aL c_4 (0 + x88.toNat * 2) [Z3 h3_01, Z3 h3_11]) n_51 s_51 n_6 s_6 m_71 m_8) ∧ J3 n6 x11 (0 : Int) n4 n5 (List.replicate 256 (Z3 0)) n_4 s_4
 n_5 s_5 m_6 m_7 x101 x111 (IntKind.i64.wrap (x88 + 1)) h3_01 h3_11 (aL c_4 (0 + x88.toNat * 2) [Z3 h3_01, Z3 h3_11]) n_51 s_51 n_6 s_6 m_71 m_8 ∧ μ3 x101 x111 (IntKind.i64.wrap (x88 + 1)) h3_01 h3_11 (aL c_4 (0 + x88.toNat * 2) [Z3 h3_01,
 Z3 h3_11]) n_51 s_51 n_6 s_6 m_71 m_8 < μ3 x101 x111 x88 h3_01 h3_11 c_4 n_51 s_51 n_6 s_6 m_71 m_8 else 256 ≤ (List.drop 0 c_4).length ∧ (ACall Try.prog 67 [LV.box 0 0, LV.pv (PV.agg (List.take 256 (List.drop 0 c_4)))] [Ob.box [LV.box 1 0,
 LV.mp 2, LV.mp 3], Ob.box [Y6 sz, LV.own 4, LV.own 5], Ob.mp m_71, Ob.mp m_8, Ob.sl (3, 1) false n_51 s_51, Ob.sl (118, 256) false n_6 s_6] fun (r : LV) (h' : Hp) ↦ ∃ (t : Int × List (PV × PV) × Bool × LL), (r = Y6 t.1 ∧ h' = [Ob.box
 [LV.box 1 0, LV.mp 2, LV.mp 3], Ob.box [Y6 sz, LV.own 4, LV.own 5], Ob.mp t.snd.fst, Ob.mp m_8, Ob.sl (3, 1) false n_51 s_51, Ob.sl (118, 256) true t.snd.snd.fst t.snd.snd.snd]) ∧ (True ∧ ((3, 1) = (3, 1) ∧ n_51 = n_51 ∧ s_51.length =
 s_51.length) ∧ True ∧ True ∧ True ∧ True ∧ True) ∧ (aR [[Z6 t.1]] 1 ∧ (s_51.length + 1) * 8 ≤ 140737488355328) ∧ aB (j5 sz za zb n f es x101 (IntKind.i64.wrap (x111 + 128)) h3_01 h3_11 (n_51 && false) (s_51 ++ [[Z6 t.1]])
 t.snd.snd.fst t.snd.snd.snd t.snd.fst m_8) ∧ J x101 (IntKind.i64.wrap (x111 + 128)) h3_01 h3_11 (n_51 && false) (s_51 ++ [[Z6 t.1]]) t.snd.snd.fst t.snd.snd.snd t.snd.fst m_8 ∧ μ x101 (IntKind.i64.wrap (x111 + 128)) h3_01 h3_11 (n_51 &&
 false) (s_51 ++ [[Z6 t.1]]) t.snd.snd.fst t.snd.snd.snd t.snd.fst m_8 < μ x10 x11 h3_0 h3_1 n_4 s_4 n_5 s_5 m_6 m_7) ∧ ACall Try.prog 67 [LV.box 0 0, LV.pv (PV.agg (List.take 256 (List.drop 0 c_4)))] [Ob.box [LV.box 1 0, LV.mp 2, LV.mp 3],
 Ob.box [Y6 sz, LV.own 4, LV.own 5], Ob.mp m_71, Ob.mp m_8, Ob.sl (3, 1) false n_51 s_51, Ob.sl (118, 256) false n_6 s_6] fun (r : LV) (h' : Hp) ↦ ∃ (t : Int × List (PV × PV) × Bool × LL), (r = Y6 t.1 ∧ h' = [Ob.box [LV.box 1 0, LV.mp 2,
 LV.mp 3], Ob.box [Y6 sz, LV.own 4, LV.own 5], Ob.mp t.snd.fst, Ob.mp m_8, Ob.sl (3, 1) false n_51 s_51, Ob.sl (118, 256) true t.snd.snd.fst t.snd.snd.snd]) ∧ (True ∧ ((3, 1) = (3, 1) ∧ n_51 = n_51 ∧ s_51.length = s_51.length) ∧ True ∧ True
 ∧ True ∧ True ∧ True) ∧ (aR [[Z6 t.1]] 1 ∧ (s_51.length + 1) * 8 ≤ 140737488355328) ∧ aB (j5 sz za zb n f es x101 (IntKind.i64.wrap (x111 + 128)) h3_01 h3_11 (n_51 && false) (s_51 ++ [[Z6 t.1]]) t.snd.snd.fst t.snd.snd.snd t.snd.fst
 m_8) ∧ J x101 (IntKind.i64.wrap (x111 + 128)) h3_01 h3_11 (n_51 && false) (s_51 ++ [[Z6 t.1]]) t.snd.snd.fst t.snd.snd.snd t.snd.fst m_8 ∧ μ x101 (IntKind.i64.wrap (x111 + 128)) h3_01 h3_11 (n_51 && false) (s_51 ++ [[Z6 t.1]]) t.snd.snd.fst
 t.snd.snd.snd t.snd.fst m_8 < μ x10 x11 h3_0 h3_1 n_4 s_4 n_5 s_5 m_6 m_7 else if decide (x10 ≥ IntKind.i64.wrap ((if sz < IntKind.i64.wrap (x11 + 128) then sz else IntKind.i64.wrap (x11 + 128)) - 1)) = true then ACall Try.prog 66 [LV.box 0
 0, LV.pv (PV.agg [Z3 h3_0, Z3 h3_1])] [Ob.box [LV.box 1 0, LV.mp 2, LV.mp 3], Ob.box [Y6 sz, LV.own 4, LV.own 5], Ob.mp m_6, Ob.mp m_7, Ob.sl (3, 1) false n_4 s_4, Ob.sl (118, 256) false n_5 s_5] fun (r : LV) (h' : Hp) ↦ ∃ (t : Int × List
 (PV × PV) × List (PV × PV) × Bool × LL), (r = Y6 t.1 ∧ h' = [Ob.box [LV.box 1 0, LV.mp 2, LV.mp 3], Ob.box [Y6 sz, LV.own 4, LV.own 5], Ob.mp t.snd.fst, Ob.mp t.snd.snd.fst, Ob.sl (3, 1) false n_4 s_4, Ob.sl (118, 256) true
 t.snd.snd.snd.fst t.snd.snd.snd.snd]) ∧ (True ∧ ((3, 1) = (3, 1) ∧ n_4 = n_4 ∧ s_4.length = s_4.length) ∧ True ∧ True ∧ True ∧ True ∧ True) ∧ (aB (o9 sz za zb n f es x10 x11 t.1 h3_0 h3_1 n_4 s_4 t.snd.snd.snd.fst t.snd.snd.snd.snd
 t.snd.fst t.snd.snd.fst) ∧ J2 x10 x11 t.1 h3_0 h3_1 n_4 s_4 t.snd.snd.snd.fst t.snd.snd.snd.snd t.snd.fst t.snd.snd.fst x10 x11 t.1 h3_0 h3_1 n_4 s_4 t.snd.snd.snd.fst t.snd.snd.snd.snd t.snd.fst t.snd.snd.fst) ∧ ∀ (x101 x111 x13 h3_01
 h3_11 : Int) (n_41 : Bool) (s_41 : LL) (n_51 : Bool) (s_51 : LL) (m_61 m_71 : List (PV × PV)), J2 x10 x11 t.1 h3_0 h3_1 n_4 s_4 t.snd.snd.snd.fst t.snd.snd.snd.snd t.snd.fst t.snd.snd.fst x101 x111 x13 h3_01 h3_11 n_41 s_41 n_51 s_51 m_61
 m_71 → if (decide (x111 < sz) && decide (x101 ≥ IntKind.i64.wrap ((if sz < IntKind.i64.wrap (x111 + 128) then sz else IntKind.i64.wrap (x111 + 128)) - 1))) = true then (aR [[Z6 x13]] 1 ∧ (s_41.length + 1) * 8 ≤ 140737488355328) ∧ aB
 (o9 sz za zb n f es x101 (IntKind.i64.wrap (x111 + 128)) x13 h3_01 h3_11 (n_41 && false) (s_41 ++ [[Z6 x13]]) n_51 s_51 m_61 m_71) ∧ J2 x10 x11 t.1 h3_0 h3_1 n_4 s_4 t.snd.snd.snd.fst t.snd.snd.snd.snd t.snd.fst t.snd.snd.fst x101
 (IntKind.i64.wrap (x111 + 128)) x13 h3_01 h3_11 (n_41 && false) (s_41 ++ [[Z6 x13]]) n_51 s_51 m_61 m_71 ∧ μ2 x101 (IntKind.i64.wrap (x111 + 128)) x13 h3_01 h3_11 (n_41 && false) (s_41 ++ [[Z6 x13]]) n_51 s_51 m_61 m_71 < μ2 x101 x111 x13
 h3_01 h3_11 n_41 s_41 n_51 s_51 m_61 m_71 else aB (j5 sz za zb n f es x101 (IntKind.i64.wrap (IntKind.i64.wrap (x111 - 128) + 128)) h3_01 h3_11 n_41 s_41 n_51 s_51 m_61 m_71) ∧ J x101 (IntKind.i64.wrap (IntKind.i64.wrap (x111 - 128) +
 128)) h3_01 h3_11 n_41 s_41 n_51 s_51 m_61 m_71 ∧ μ x101 (IntKind.i64.wrap (IntKind.i64.wrap (x111 - 128) + 128)) h3_01 h3_11 n_41 s_41 n_51 s_51 m_61 m_71 < μ x10 x11 h3_0 h3_1 n_4 s_4 n_5 s_5 m_6 m_7 else (aB (lF sz za zb n f es
 x10 x11 (0 : Int) h3_0 h3_1 (List.replicate 256 (Z3 0)) n_4 s_4 n_5 s_5 m_6 m_7) ∧ J3 x10 x11 (0 : Int) h3_0 h3_1 (List.replicate 256 (Z3 0)) n_4 s_4 n_5 s_5 m_6 m_7 x10 x11 (0 : Int) h3_0 h3_1 (List.replicate 256 (Z3 0)) n_4 s_4 n_5 s_5
 m_6 m_7) ∧ ∀ (x101 x111 x88 h3_01 h3_11 : Int) (c_4 : List PV) (n_51 : Bool) (s_51 : LL) (n_6 : Bool) (s_6 : LL) (m_71 m_8 : List (PV × PV)), J3 x10 x11 (0 : Int) h3_0 h3_1 (List.replicate 256 (Z3 0)) n_4 s_4 n_5 s_5 m_6 m_7 x101 x111 x88
 h3_01 h3_11 c_4 n_51 s_51 n_6 s_6 m_71 m_8 → if decide (x88 < 128) = true then if (decide (IntKind.i64.wrap (x111 + x88) > x101) && decide (IntKind.i64.wrap (x111 + x88) < sz)) = true then PCall Try.prog 65 [PV.sl n f es, PV.agg [Z3 za, Z3
 zb], Z6 (IntKind.i64.wrap (x111 + x88)), Z6 (IntKind.i64.wrap (sz - 1))] fun (v1 : PV) ↦ ∃ (vs1 : List PV), v1 = PV.tup vs1 ∧ vs1.length = 2 ∧ ∃ (x2 : PV), vs1.head? = some x2 ∧ ∃ (cs1 : List PV), x2 = PV.agg cs1 ∧ cs1.length = 2 ∧ ∃ (n4 :
 Int), cs1.head? = some (Z3 n4) ∧ ∃ (n5 : Int), cs1.tail.head? = some (Z3 n5) ∧ ∃ (x3 : PV), vs1.tail.head? = some x3 ∧ ∃ (n6 : Int), x3 = Z6 n6 ∧ ((0 : Int) ≤ x88 ∧ x88 < (↑128 : Int)) ∧ (2 = 2 ∧ 0 + x88.toNat * 2 + 2 ≤ c_4.length) ∧ aB
 (lF sz za zb n f es n6 x111 (IntKind.i64.wrap (x88 + 1)) n4 n5 (aL c_4 (0 + x88.toNat * 2) [Z3 n4, Z3 n5]) n_51 s_51 n_6 s_6 m_71 m_8) ∧ J3 x10 x11 (0 : Int) h3_0 h3_1 (List.replicate 256 (Z3 0)) n_4 s_4 n_5 s_5 m_6 m_7 n6 x111
 (IntKind.i64.wrap (x88 + 1)) n4 n5 (aL c_4 (0 + x88.toNat * 2) [Z3 n4, Z3 n5]) n_51 s_51 n_6 s_6 m_71 m_8 ∧ μ3 n6 x111 (IntKind.i64.wrap (x88 + 1)) n4 n5 (aL c_4 (0 + x88.toNat * 2) [Z3 n4, Z3 n5]) n_51 s_51 n_6 s_6 m_71 m_8 < μ3 x101
 x111 x88 h3_01 h3_11 c_4 n_51 s_51 n_6 s_6 m_71 m_8 else ((0 : Int) ≤ x88 ∧ x88 < (↑128 : Int)) ∧ (2 = 2 ∧ 0 + x88.toNat * 2 + 2 ≤ c_4.length) ∧ aB (lF sz za zb n f es x101 x111 (IntKind.i64.wrap (x88 + 1)) h3_01 h3_11 (aL c_4 (0 +
 x88.toNat * 2) [Z3 h3_01, Z3 h3_11]) n_51 s_51 n_6 s_6 m_71 m_8) ∧ J3 x10 x11 (0 : Int) h3_0 h3_1 (List.replicate 256 (Z3 0)) n_4 s_4 n_5 s_5 m_6 m_7 x101 x111 (IntKind.i64.wrap (x88 + 1)) h3_01 h3_11 (aL c_4 (0 + x88.toNat * 2) [Z3 h3_01,
 Z3 h3_11]) n_51 s_51 n_6 s_6 m_71 m_8 ∧ μ3 x101 x111 (IntKind.i64.wrap (x88 + 1)) h3_01 h3_11 (aL c_4 (0 + x88.toNat * 2) [Z3 h3_01, Z3 h3_11]) n_51 s_51 n_6 s_6 m_71 m_8 < μ3 x101 x111 x88 h3_01 h3_11 c_4 n_51 s_51 n_6 s_6 m_71 m_8 else
 256 ≤ (List.drop 0 c_4).length ∧ (ACall Try.prog 67 [LV.box 0 0, LV.pv (PV.agg (List.take 256 (List.drop 0 c_4)))] [Ob.box [LV.box 1 0, LV.mp 2, LV.mp 3], Ob.box [Y6 sz, LV.own 4, LV.own 5], Ob.mp m_71, Ob.mp m_8, Ob.sl (3, 1) false n_51
 s_51, Ob.sl (118, 256) false n_6 s_6] fun (r : LV) (h' : Hp) ↦ ∃ (t : Int × List (PV × PV) × Bool × LL), (r = Y6 t.1 ∧ h' = [Ob.box [LV.box 1 0, LV.mp 2, LV.mp 3], Ob.box [Y6 sz, LV.own 4, LV.own 5], Ob.mp t.snd.fst, Ob.mp m_8, Ob.sl (3, 1)
 false n_51 s_51, Ob.sl (118, 256) true t.snd.snd.fst t.snd.snd.snd]) ∧ (True ∧ ((3, 1) = (3, 1) ∧ n_51 = n_51 ∧ s_51.length = s_51.length) ∧ True ∧ True ∧ True ∧ True ∧ True) ∧ (aR [[Z6 t.1]] 1 ∧ (s_51.length + 1) * 8 ≤ 140737488355328) ∧
 aB (j5 sz za zb n f es x101 (IntKind.i64.wrap (x111 + 128)) h3_01 h3_11 (n_51 && false) (s_51 ++ [[Z6 t.1]]) t.snd.snd.fst t.snd.snd.snd t.snd.fst m_8) ∧ J x101 (IntKind.i64.wrap (x111 + 128)) h3_01 h3_11 (n_51 && false) (s_51 ++ [[Z6
 t.1]]) t.snd.snd.fst t.snd.snd.snd t.snd.fst m_8 ∧ μ x101 (IntKind.i64.wrap (x111 + 128)) h3_01 h3_11 (n_51 && false) (s_51 ++ [[Z6 t.1]]) t.snd.snd.fst t.snd.snd.snd t.snd.fst m_8 < μ x10 x11 h3_0 h3_1 n_4 s_4 n_5 s_5 m_6 m_7) ∧ ACall
 Try.prog 67 [LV.box 0 0, LV.pv (PV.agg (List.take 256 (List.drop 0 c_4)))] [Ob.box [LV.box 1 0, LV.mp 2, LV.mp 3], Ob.box [Y6 sz, LV.own 4, LV.own 5], Ob.mp m_71, Ob.mp m_8, Ob.sl (3, 1) false n_51 s_51, Ob.sl (118, 256) false n_6 s_6] fun
 (r : LV) (h' : Hp) ↦ ∃ (t : Int × List (PV × PV) × Bool × LL), (r = Y6 t.1 ∧ h' = [Ob.box [LV.box 1 0, LV.mp 2, LV.mp 3], Ob.box [Y6 sz, LV.own 4, LV.own 5], Ob.mp t.snd.fst, Ob.mp m_8, Ob.sl (3, 1) false n_51 s_51, Ob.sl (118, 256) true
 t.snd.snd.fst t.snd.snd.snd]) ∧ (True ∧ ((3, 1) = (3, 1) ∧ n_51 = n_51 ∧ s_51.length = s_51.length) ∧ True ∧ True ∧ True ∧ True ∧ True) ∧ (aR [[Z6 t.1]] 1 ∧ (s_51.length + 1) * 8 ≤ 140737488355328) ∧ aB (j5 sz za zb n f es x101
 (IntKind.i64.wrap (x111 + 128)) h3_01 h3_11 (n_51 && false) (s_51 ++ [[Z6 t.1]]) t.snd.snd.fst t.snd.snd.snd t.snd.fst m_8) ∧ J x101 (IntKind.i64.wrap (x111 + 128)) h3_01 h3_11 (n_51 && false) (s_51 ++ [[Z6 t.1]]) t.snd.snd.fst
 t.snd.snd.snd t.snd.fst m_8 ∧ μ x101 (IntKind.i64.wrap (x111 + 128)) h3_01 h3_11 (n_51 && false) (s_51 ++ [[Z6 t.1]]) t.snd.snd.fst t.snd.snd.snd t.snd.fst m_8 < μ x10 x11 h3_0 h3_1 n_4 s_4 n_5 s_5 m_6 m_7 else R (PV.ptr [Z6 sz, PV.sl n_4
 false s_4, PV.sl n_5 false s_5])
theorem zmn (sz : Int) (za zb : Int) (n f : Bool) (es : LL) (J : Int → Int → Int → Int → Bool → (LL) → Bool → (LL) → (List (PV × PV)) → (List (PV × PV)) → Prop) (μ : Int → Int → Int → Int → Bool → (LL) → Bool → (LL) → (List (PV × PV)) → (List (PV × PV)) → Nat) (J2 : Int → Int → Int → Int → Int → Bool → (LL) → Bool → (LL) → (List (PV × PV)) → (List (PV × PV)) → Int → Int → Int → Int → Int → Bool → (LL) → Bool → (LL) → (List (PV × PV)) → (List (PV × PV)) → Prop) (μ2 : Int → Int → Int → Int → Int → Bool → (LL) → Bool → (LL) → (List (PV × PV)) → (List (PV × PV)) → Nat) (J3 : Int → Int → Int → Int → Int → (List PV) → Bool → (LL) → Bool → (LL) → (List (PV × PV)) → (List (PV × PV)) → Int → Int → Int → Int → Int → (List PV) → Bool → (LL) → Bool → (LL) → (List (PV × PV)) → (List (PV × PV)) → Prop) (μ3 : Int → Int → Int → Int → Int → (List PV) → Bool → (LL) → Bool → (LL) → (List (PV × PV)) → (List (PV × PV)) → Nat) {R : PV → Prop} (h : yT sz za zb n f es J μ J2 μ2 J3 μ3 R) : PCall Try.prog 32 [.int .i64 sz, .agg [.int .i32 za, .int .i32 zb], .sl n f es] R :=
  PCall.of Try.func32 (by kernel_rfl) (by kernel_rfl) (Nat.le_of_ble_eq_true (by kernel_rfl)) (Eq.mpr (by kernel_rfl : aW Try.prog (fun zz_ => match zz_ with | 67 => some ⟨Int × List (PV × PV) × Bool × LL, fun _ hs t => (.pv (.int .i64 t.1), match hs with | [m, r, .mp _, ev, ix, .sl a _ _ _] => [m, r, .mp t.2.1, ev, ix, .sl a true t.2.2.1 t.2.2.2] | h => h), none⟩ | 66 => some ⟨Int × List (PV × PV) × List (PV × PV) × Bool × LL, fun _ hs t => (.pv (.int .i64 t.1), match hs with | [m, r, .mp _, .mp _, ix, .sl a _ _ _] => [m, r, .mp t.2.1, .mp t.2.2.1, ix, .sl a true t.2.2.2.1 t.2.2.2.2] | h => h), none⟩ | _ => none) Try.f32 [0, 1, 2, 4, 6, 7, 8, 9, 10, 11, 12, 13, 14, 15, 17, 36, 41, 58, 73, 88, 89, 102] (fun zz_ => match zz_ with | 7 => some ⟨Int × Int × Int × Int × Bool × (LL) × Bool × (LL) × (List (PV × PV)) × (List (PV × PV)), fun s => j5 sz za zb n f es s.1 s.2.1 s.2.2.1 s.2.2.2.1 s.2.2.2.2.1 s.2.2.2.2.2.1 s.2.2.2.2.2.2.1 s.2.2.2.2.2.2.2.1 s.2.2.2.2.2.2.2.2.1 s.2.2.2.2.2.2.2.2.2, fun _ s => J s.1 s.2.1 s.2.2.1 s.2.2.2.1 s.2.2.2.2.1 s.2.2.2.2.2.1 s.2.2.2.2.2.2.1 s.2.2.2.2.2.2.2.1 s.2.2.2.2.2.2.2.2.1 s.2.2.2.2.2.2.2.2.2, fun s => μ s.1 s.2.1 s.2.2.1 s.2.2.2.1 s.2.2.2.2.1 s.2.2.2.2.2.1 s.2.2.2.2.2.2.1 s.2.2.2.2.2.2.2.1 s.2.2.2.2.2.2.2.2.1 s.2.2.2.2.2.2.2.2.2, fun e h => (gI e 10, gI e 11, hI h 3 0, hI h 3 1, oN h 4, oS h 4, oN h 5, oS h 5, oM h 6, oM h 7), [(1001001, 3, 1), (1001002, 118, 256)], [0, 2, 4, 7, 8, 9, 10, 11], [], fun p => ∀ (x10 : Int) (x11 : Int) (h3_0 : Int) (h3_1 : Int) (n_4 : Bool) (s_4 : LL) (n_5 : Bool) (s_5 : LL) (m_6 : List (PV × PV)) (m_7 : List (PV × PV)), p (x10, x11, h3_0, h3_1, n_4, s_4, n_5, s_5, m_6, m_7), fun p h s => h s.1 s.2.1 s.2.2.1 s.2.2.2.1 s.2.2.2.2.1 s.2.2.2.2.2.1 s.2.2.2.2.2.2.1 s.2.2.2.2.2.2.2.1 s.2.2.2.2.2.2.2.2.1 s.2.2.2.2.2.2.2.2.2⟩ | 14 => some ⟨Int × Int × Int × Int × Int × Bool × (LL) × Bool × (LL) × (List (PV × PV)) × (List (PV × PV)), fun s => o9 sz za zb n f es s.1 s.2.1 s.2.2.1 s.2.2.2.1 s.2.2.2.2.1 s.2.2.2.2.2.1 s.2.2.2.2.2.2.1 s.2.2.2.2.2.2.2.1 s.2.2.2.2.2.2.2.2.1 s.2.2.2.2.2.2.2.2.2.1 s.2.2.2.2.2.2.2.2.2.2, fun t s => J2 t.1 t.2.1 t.2.2.1 t.2.2.2.1 t.2.2.2.2.1 t.2.2.2.2.2.1 t.2.2.2.2.2.2.1 t.2.2.2.2.2.2.2.1 t.2.2.2.2.2.2.2.2.1 t.2.2.2.2.2.2.2.2.2.1 t.2.2.2.2.2.2.2.2.2.2 s.1 s.2.1 s.2.2.1 s.2.2.2.1 s.2.2.2.2.1 s.2.2.2.2.2.1 s.2.2.2.2.2.2.1 s.2.2.2.2.2.2.2.1 s.2.2.2.2.2.2.2.2.1 s.2.2.2.2.2.2.2.2.2.1 s.2.2.2.2.2.2.2.2.2.2, fun s => μ2 s.1 s.2.1 s.2.2.1 s.2.2.2.1 s.2.2.2.2.1 s.2.2.2.2.2.1 s.2.2.2.2.2.2.1 s.2.2.2.2.2.2.2.1 s.2.2.2.2.2.2.2.2.1 s.2.2.2.2.2.2.2.2.2.1 s.2.2.2.2.2.2.2.2.2.2, fun e h => (gI e 10, gI e 11, gI e 13, hI h 3 0, hI h 3 1, oN h 4, oS h 4, oN h 5, oS h 5, oM h 6, oM h 7), [], [0, 2, 4, 7, 8, 9, 10, 11, 13], [], fun p => ∀ (x10 : Int) (x11 : Int) (x13 : Int) (h3_0 : Int) (h3_1 : Int) (n_4 : Bool) (s_4 : LL) (n_5 : Bool) (s_5 : LL) (m_6 : List (PV × PV)) (m_7 : List (PV × PV)), p (x10, x11, x13, h3_0, h3_1, n_4, s_4, n_5, s_5, m_6, m_7), fun p h s => h s.1 s.2.1 s.2.2.1 s.2.2.2.1 s.2.2.2.2.1 s.2.2.2.2.2.1 s.2.2.2.2.2.2.1 s.2.2.2.2.2.2.2.1 s.2.2.2.2.2.2.2.2.1 s.2.2.2.2.2.2.2.2.2.1 s.2.2.2.2.2.2.2.2.2.2⟩ | 20 => some ⟨Int × Int × Int × Int × Int × (List PV) × Bool × (LL) × Bool × (LL) × (List (PV × PV)) × (List (PV × PV)), fun s => lF sz za zb n f es s.1 s.2.1 s.2.2.1 s.2.2.2.1 s.2.2.2.2.1 s.2.2.2.2.2.1 s.2.2.2.2.2.2.1 s.2.2.2.2.2.2.2.1 s.2.2.2.2.2.2.2.2.1 s.2.2.2.2.2.2.2.2.2.1 s.2.2.2.2.2.2.2.2.2.2.1 s.2.2.2.2.2.2.2.2.2.2.2, fun t s => J3 t.1 t.2.1 t.2.2.1 t.2.2.2.1 t.2.2.2.2.1 t.2.2.2.2.2.1 t.2.2.2.2.2.2.1 t.2.2.2.2.2.2.2.1 t.2.2.2.2.2.2.2.2.1 t.2.2.2.2.2.2.2.2.2.1 t.2.2.2.2.2.2.2.2.2.2.1 t.2.2.2.2.2.2.2.2.2.2.2 s.1 s.2.1 s.2.2.1 s.2.2.2.1 s.2.2.2.2.1 s.2.2.2.2.2.1 s.2.2.2.2.2.2.1 s.2.2.2.2.2.2.2.1 s.2.2.2.2.2.2.2.2.1 s.2.2.2.2.2.2.2.2.2.1 s.2.2.2.2.2.2.2.2.2.2.1 s.2.2.2.2.2.2.2.2.2.2.2, fun s => μ3 s.1 s.2.1 s.2.2.1 s.2.2.2.1 s.2.2.2.2.1 s.2.2.2.2.2.1 s.2.2.2.2.2.2.1 s.2.2.2.2.2.2.2.1 s.2.2.2.2.2.2.2.2.1 s.2.2.2.2.2.2.2.2.2.1 s.2.2.2.2.2.2.2.2.2.2.1 s.2.2.2.2.2.2.2.2.2.2.2, fun e h => (gI e 10, gI e 11, gI e 88, hI h 3 0, hI h 3 1, oA h 4, oN h 5, oS h 5, oN h 6, oS h 6, oM h 7, oM h 8), [], [0, 2, 4, 7, 8, 9, 10, 11, 14, 88], [], fun p => ∀ (x10 : Int) (x11 : Int) (x88 : Int) (h3_0 : Int) (h3_1 : Int) (c_4 : List PV) (n_5 : Bool) (s_5 : LL) (n_6 : Bool) (s_6 : LL) (m_7 : List (PV × PV)) (m_8 : List (PV × PV)), p (x10, x11, x88, h3_0, h3_1, c_4, n_5, s_5, n_6, s_6, m_7, m_8), fun p h s => h s.1 s.2.1 s.2.2.1 s.2.2.2.1 s.2.2.2.2.1 s.2.2.2.2.2.1 s.2.2.2.2.2.2.1 s.2.2.2.2.2.2.2.1 s.2.2.2.2.2.2.2.2.1 s.2.2.2.2.2.2.2.2.2.1 s.2.2.2.2.2.2.2.2.2.2.1 s.2.2.2.2.2.2.2.2.2.2.2⟩ | _ => none) (Try.f32.body.getD .skip) [.int .i64 sz, .agg [.int .i32 za, .int .i32 zb], .sl n f es] R = yT sz za zb n f es J μ J2 μ2 J3 μ3 R) h)

end Go.Eng



namespace Go.Eng
open Go Go.Proofs Go.Eng.Trie
def encP (v : (Int × Int)) : List PV := [.int .i32 v.1, .int .i32 v.2]
theorem EP : Enc Try.prog [21, 21] encP := ⟨fun a => by
  simp only [encP, aY, Bool.and_true]
  rw [show Try.prog.underlying 21 = some (.int .i32) by kernel_rfl]
  rfl, fun a b => by
  obtain ⟨a0, a1⟩ := a
  obtain ⟨b0, b1⟩ := b
  simp only [encP, bD, dL, Bool.and_true]
  rw [Bool.eq_iff_iff]
  simp⟩
def pcP (p : Pc (Int × Int)) : List PV := [.int .i64 p.fr, .int .i64 p.to] ++ encP p.v
def iX (l : List (Pc (Int × Int))) : List (List PV) := l.map pcP
theorem zmo (p : Pc (Int × Int)) : (pcP p).length = 4 := rfl
theorem zew (l : List (Pc (Int × Int))) : (iX l).length = l.length := by simp [iX]
theorem yU (n f : Bool) (l : List (Pc (Int × Int))) (z : (Int × Int)) (i last : Int) (hl : l.length < 4611686018427387904) (hok : ∀ p ∈ l, -9223372036854775808 ≤ p.fr - 1 ∧ p.fr - 1 ≤ 9223372036854775807) :
    PCall Try.prog 65 [.sl n f (iX l), .agg (encP z), .int .i64 i, .int .i64 last] fun v => v = .tup [.agg (encP (findL l z i last).1), .int .i64 (findL l z i last).2] := by
  refine zmj _ _ _ z.1 z.2 _ _ (fun a k _ _ => 0 ≤ k ∧ k ≤ l.length ∧ findL l z i last = findL (l.drop k.toNat) z i a) (fun _ k _ _ => l.length - k.toNat) ?_
  unfold yO
  refine ⟨⟨rfl, Int.le_refl _, by omega, rfl⟩, ?_⟩
  rintro a k _ _ ⟨k0, k1, he⟩
  refine aI (fun hc => ?_) (fun hc => ?_)
  · simp only [decide_eq_true_eq, zew] at hc
    have hk : k.toNat < l.length := by omega
    have hw : IntKind.i64.wrap (k + 1) = k + 1 := aD (by omega) (by omega)
    have hn : (k + 1).toNat = k.toNat + 1 := by omega
    have hg : (iX l).getD k.toNat [] = pcP l[k.toNat] := cC hk
    have hix : aO (iX l) k 4 := bM zmo k0 (by omega)
    have hm := hok _ (List.getElem_mem hk)
    rw [rL hk] at he
    rw [hw]
    dsimp only
    rw [hn]
    have hmu : l.length - (k.toNat + 1) < l.length - k.toNat := by omega
    refine ⟨hix, l[k.toNat].fr, by rw [hg]; rfl, l[k.toNat].to, by rw [hg]; rfl, l[k.toNat].v.1, by rw [hg]; rfl, l[k.toNat].v.2, by rw [hg]; rfl, ?_⟩
    generalize l[k.toNat] = p at *
    have hw2 : IntKind.i64.wrap (p.fr - 1) = p.fr - 1 := aD hm.1 hm.2
    rw [hw2]
    rw [xO] at he
    by_cases h1 : p.fr ≤ i
    · refine bN (by simpa using h1) ?_
      by_cases h2 : i ≤ p.to
      · refine bN (by simpa using h2) ?_
        rw [if_pos ⟨h1, h2⟩] at he
        rw [he]
        repeat' (first | rfl | apply And.intro)
      · refine bO (by simpa using h2) ?_
        rw [if_neg (by omega), if_neg (by omega)] at he
        refine bO (by simp; omega) ?_
        exact ⟨rfl, ⟨by omega, by omega, he⟩, hmu⟩
    · refine bO (by simpa using h1) ?_
      rw [if_neg (by omega)] at he
      refine bN (by simp; omega) ?_
      by_cases h3 : p.fr ≤ a
      · refine bN (by simpa using h3) ?_
        rw [if_pos (by omega)] at he
        exact ⟨rfl, ⟨by omega, by omega, he⟩, hmu⟩
      · refine bO (by simpa using h3) ?_
        rw [if_neg (by omega)] at he
        exact ⟨rfl, ⟨by omega, by omega, he⟩, hmu⟩
  · simp only [decide_eq_true_eq, zew] at hc
    rw [List.drop_of_length_le (by omega)] at he
    rw [he]; rfl
def TrieP (sz : Int) (F : Int → (Int × Int)) (v : PV) : Prop := ∃ n f n2 f2 idx blk, v = .ptr [.int .i64 sz, .sl n f (aV idx), .sl n2 f2 (aZ encP blk)] ∧ TOK sz F idx blk
theorem p84 {sz : Int} {F : Int → (Int × Int)} {t : PV} (ht : TrieP sz F t) (i : Int) (h1 : sz ≤ 1114112) : PCall Try.prog 33 [t, .int .i64 i] fun v => v = .agg (encP (if 0 ≤ i ∧ i < sz then F i else (0, 0))) := by
  obtain ⟨n, f, n2, f2, idx, blk, rfl, ht⟩ := ht
  refine zmk _ _ _ _ _ _ _ _ ?_
  unfold yP
  refine aI (fun hc => ?_) (fun hc => ?_)
  · simp only [decide_eq_true_eq] at hc
    rw [if_neg (by omega)]; rfl
  · simp only [decide_eq_true_eq] at hc
    refine ⟨_, rfl, ?_⟩
    refine aI (fun hc2 => ?_) (fun hc2 => ?_)
    · simp only [decide_eq_true_eq, ge_iff_le] at hc2
      rw [if_neg (by omega)]; rfl
    · simp only [decide_eq_true_eq, ge_iff_le] at hc2
      rw [if_pos (by omega)]
      obtain ⟨hq, g0, hk, hj, he⟩ := ht.get (i := i) (by omega) (by omega)
      have hw : IntKind.i64.wrap (i.tdiv 128) = i / 128 := by rw [Int.tdiv_eq_ediv_of_nonneg (by omega)]; exact aD (by omega) (by omega)
      have hm : i.tmod 128 = i % 128 := Int.tmod_eq_emod_of_nonneg (by omega)
      have hg : (aV idx).getD (i / 128).toNat [] = [.int .i64 idx[(i / 128).toNat]] := cC hq
      have hg2 : (aZ encP blk).getD idx[(i / 128).toNat].toNat [] = cells encP blk[idx[(i / 128).toNat].toNat] := cC hk
      refine ⟨_, _, _, rfl, _, _, _, rfl, ?_⟩
      rw [hw]
      have := EP.at _ _ hj
      simp only [List.length_cons, List.length_nil, Nat.zero_add, Nat.reduceAdd] at this
      have hcell : List.drop ((i % 128).toNat * 2) ((aZ encP blk).getD idx[(i / 128).toNat].toNat []) = encP (F i) ++ (List.drop ((i % 128).toNat + 1) (blk[idx[(i / 128).toNat].toNat]).1).flatMap encP := by
        rw [hg2]; unfold cells; rw [this, he]
      refine ⟨bM kZ (by omega) (by omega), idx[(i / 128).toNat], by rw [hg]; rfl, bM (EP.cells_len) g0 (by omega), by rw [hm]; omega, ?_⟩
      rw [hm, hcell]
      exact ⟨(F i).1, rfl, (F i).2, rfl, rfl⟩
def cP (b : aQ (Int × Int)) : List PV := cells encP b
def kvP (k : Int) : PV := .int .i64 k
def eE (kn : List (aQ (Int × Int) × Int)) : List (PV × PV) := bP (fun b => .agg (cP b)) kvP kn
def fB (ev : List ((Int × Int) × Int)) : List (PV × PV) := bP (fun v => .agg (encP v)) kvP ev
def j6 (sz : Int) (kn : List (aQ (Int × Int) × Int)) (ev : List ((Int × Int) × Int)) (ixm ixn bkm bkn : Bool) (idx : List Int) (blk : List (aQ (Int × Int))) : Hp :=
  [.box [.box 1 0, .mp 2, .mp 3], .box [.pv (.int .i64 sz), .own 4, .own 5], .mp (eE kn), .mp (fB ev), .sl (3, 1) ixm ixn (aV idx), .sl (118, 256) bkm bkn (aZ encP blk)]
theorem lG (b : aQ (Int × Int)) : (cP b).length = 256 := EP.cells_len b
theorem yV (b : aQ (Int × Int)) : List.take 256 (List.drop 0 (cP b)) = cP b := by rw [List.drop_zero, List.take_of_length_le (by rw [lG]; omega)]
theorem zex : dU Try.prog 118 = true := by kernel_rfl
theorem zey : eI Try.prog 118 = (List.replicate 128 [21, 21]).flatten := by kernel_rfl
theorem yW : dU Try.prog 62 = true := by kernel_rfl
theorem yX : eI Try.prog 62 = [21, 21] := by kernel_rfl
theorem zmp (b : aQ (Int × Int)) (kn : List (aQ (Int × Int) × Int)) : bS (.agg (cP b)) (eE kn) = (bQ b kn).map kvP := kQ (ek := fun b => PV.agg (cP b)) (ev := kvP) EP.blkEq b kn
theorem zmq (b : aQ (Int × Int)) (k : Int) (kn : List (aQ (Int × Int) × Int)) : aP (.agg (cP b)) (kvP k) (eE kn) = eE (bJ b k kn) := gW (ek := fun b => PV.agg (cP b)) (ev := kvP) EP.blkEq b k kn
theorem zez (b : aQ (Int × Int)) : aX Try.prog 118 (.agg (cP b)) = true := EP.blkOk zex zey b
theorem ze0 (kn : List (aQ (Int × Int) × Int)) : cA Try.prog 118 (eE kn) := EP.blksOk zex zey kn
theorem ze1 {sz : Int} {F : Int → (Int × Int)} {idx : List Int} {blk : List (aQ (Int × Int))} {kn : List (aQ (Int × Int) × Int)} {ev : List ((Int × Int) × Int)} (hk : TInv sz F idx blk kn ev) (hb : blk.length ≤ 10000000) (ixn bkn : Bool) (b : aQ (Int × Int)) :
    ACall Try.prog 67 [.box 0 0, .pv (.agg (cP b))] (j6 sz kn ev false ixn false bkn idx blk) fun r h' => ∃ k kn' bn' blk', r = .pv (kvP k) ∧ h' = j6 sz kn' ev false ixn true bn' idx blk' ∧ TInv sz F idx blk' kn' ev ∧ 0 ≤ k ∧ blk'[k.toNat]? = some b ∧ blk'.length ≤ blk.length + 1 := by
  refine ACall.mark 1000 [5] (R := fun r h' => ∃ k kn' bm' bn' blk', r = .pv (kvP k) ∧ h' = j6 sz kn' ev false ixn bm' bn' idx blk' ∧ TInv sz F idx blk' kn' ev ∧ 0 ≤ k ∧ blk'[k.toNat]? = some b ∧ blk'.length ≤ blk.length + 1) ?_ ?_
  · refine zml _ _ _ _ _ _ _ _ _ _ ?_
    unfold yQ
    rw [yV, zmp]
    have h128 : 256 ≤ (List.drop 0 (cP b)).length := by rw [List.drop_zero, lG]; omega
    refine ⟨h128, ze0 kn, zez b, fun v hv => ?_, fun hv => ?_⟩
    · cases hg : bQ b kn with
      | none => rw [hg] at hv; cases hv
      | some k =>
        rw [hg] at hv; cases hv
        obtain ⟨k0, k1⟩ := hk.kn_ok b k hg
        exact ⟨k, rfl, k, kn, false, bkn, blk, rfl, rfl, hk, k0, k1, by omega⟩
    · have hsz : aR [cP b] 256 ∧ ((aZ encP blk).length + 1) * 1024 ≤ 140737488355328 := ⟨fun e he => by simp at he; subst he; exact lG b, by rw [iU]; omega⟩
      have fin : ∃ k kn' bm' bn' blk', LV.pv (.int .i64 ((aZ encP blk).length : Int)) = .pv (kvP k) ∧
          [Ob.box [.box 1 0, .mp 2, .mp 3], .box [.pv (.int .i64 sz), .own 4, .own 5], .mp (aP (.agg (cP b)) (.int .i64 ((aZ encP blk).length : Int)) (eE kn)), .mp (fB ev), .sl (3, 1) false ixn (aV idx), .sl (118, 256) true (bkn && false) (aZ encP blk ++ [cP b])] = j6 sz kn' ev false ixn bm' bn' idx blk' ∧ TInv sz F idx blk' kn' ev ∧ 0 ≤ k ∧ blk'[k.toNat]? = some b ∧ blk'.length ≤ blk.length + 1 := by
        refine ⟨blk.length, bJ b (blk.length : Int) kn, true, bkn && false, blk ++ [b], by rw [iU]; rfl, ?_, hk.place b, by omega, by simp, by simp⟩
        have := zmq b (blk.length : Int) kn
        unfold kvP at this
        rw [iU, this]
        simp [j6, aZ, cP]
      exact ⟨h128, ze0 kn, zez b, h128, ⟨lG b, hsz, fin⟩, lG b, ⟨hsz, fin⟩, hsz, fin⟩
  · rintro r h' ⟨k, kn', bm', bn', blk', rfl, rfl, h1, h2, h3, h4⟩
    exact ⟨k, kn', bn', blk', rfl, rfl, h1, h2, h3, h4⟩
theorem zmr (v : (Int × Int)) (ev : List ((Int × Int) × Int)) : bS (.agg (encP v)) (fB ev) = (bQ v ev).map kvP := kQ (ek := fun v => PV.agg (encP v)) (ev := kvP) EP.valEq v ev
theorem zms (v : (Int × Int)) (k : Int) (ev : List ((Int × Int) × Int)) : aP (.agg (encP v)) (kvP k) (fB ev) = fB (bJ v k ev) := gW (ek := fun v => PV.agg (encP v)) (ev := kvP) EP.valEq v k ev
theorem yY (v : (Int × Int)) : aX Try.prog 62 (.agg (encP v)) = true := EP.valOk yW yX v
theorem ze2 (ev : List ((Int × Int) × Int)) : cA Try.prog 62 (fB ev) := EP.valsOk yW yX ev
theorem yZ (l : List (Int × Int)) (j : Nat) (hj : j < l.length) (v : (Int × Int)) : aL (l.flatMap encP) (0 + j * 2) (encP v) = (l.set j v).flatMap encP := by
  have := EP.put l j hj v
  simp only [List.length_cons, List.length_nil, Nat.zero_add, Nat.reduceAdd] at this ⊢
  exact this
theorem y0 (l : List (Int × Int)) : (l.flatMap encP).length = l.length * 2 := EP.flen l
theorem ze3 : List.replicate 256 (PV.int .i32 0) = (List.replicate 128 ((0, 0) : (Int × Int))).flatMap encP := by rfl
theorem zmt {l : List (Int × Int)} {v : (Int × Int)} (hl : l.length = 128) (h : ∀ q, q < 128 → l[q]? = some v) : l = List.replicate 128 v := by
  refine List.ext_getElem? fun q => ?_
  rcases Nat.lt_or_ge q 128 with hq | hq
  · rw [h q hq, List.getElem?_replicate, if_pos hq]
  · rw [List.getElem?_eq_none (by omega), List.getElem?_eq_none (by simp; omega)]
theorem zmu {sz : Int} {F : Int → (Int × Int)} {idx : List Int} {blk : List (aQ (Int × Int))} {kn : List (aQ (Int × Int) × Int)} {ev : List ((Int × Int) × Int)} (hk : TInv sz F idx blk kn ev) (hb : blk.length ≤ 10000000) (ixn bkn : Bool) (v : (Int × Int)) :
    ACall Try.prog 66 [.box 0 0, .pv (.agg (encP v))] (j6 sz kn ev false ixn false bkn idx blk) fun r h' => ∃ k kn' ev' bn' blk', r = .pv (kvP k) ∧ h' = j6 sz kn' ev' false ixn true bn' idx blk' ∧ TInv sz F idx blk' kn' ev' ∧ 0 ≤ k ∧ blk'[k.toNat]? = some (rep v) ∧ blk'.length ≤ blk.length + 1 := by
  refine ACall.mark 1000 [5] (R := fun r h' => ∃ k kn' ev' bm' bn' blk', r = .pv (kvP k) ∧ h' = j6 sz kn' ev' false ixn bm' bn' idx blk' ∧ TInv sz F idx blk' kn' ev' ∧ 0 ≤ k ∧ blk'[k.toNat]? = some (rep v) ∧ blk'.length ≤ blk.length + 1) ?_ ?_
  · refine zmm _ _ _ _ _ _ _ _ _ v.1 v.2 (fun x m2 m3 c => 0 ≤ x ∧ x ≤ 128 ∧ m2 = eE kn ∧ m3 = fB ev ∧ ∃ l : List (Int × Int), l.length = 128 ∧ c = l.flatMap encP ∧ ∀ q, q < x.toNat → l[q]? = some v) (fun x _ _ _ => 128 - x.toNat) ?_
    unfold yS
    rw [show [.int .i32 v.1, .int .i32 v.2] = encP v from rfl, zmr]
    refine ⟨ze2 ev, yY v, fun u hu => ?_, fun hu => ⟨⟨rfl, Int.le_refl _, by omega, rfl, rfl, List.replicate 128 (0, 0), by simp, ze3, fun q hq => by simp at hq⟩, ?_⟩⟩
    · cases hg : bQ v ev with
      | none => rw [hg] at hu; cases hu
      | some k =>
        rw [hg] at hu; cases hu
        obtain ⟨k0, k1⟩ := hk.ev_ok v k hg
        exact ⟨k, rfl, k, kn, ev, false, bkn, blk, rfl, rfl, hk, k0, k1, by omega⟩
    · rintro x _ _ _ ⟨x0, x1, rfl, rfl, l, hl, rfl, hq⟩
      refine aI (fun hc => ?_) (fun hc => ?_)
      · simp only [decide_eq_true_eq] at hc
        have hw : IntKind.i64.wrap (x + 1) = x + 1 := aD (by omega) (by omega)
        have hn : (x + 1).toNat = x.toNat + 1 := by omega
        rw [yZ l x.toNat (by omega) v, hw, y0]
        refine ⟨⟨x0, hc⟩, ⟨rfl, by omega⟩, rfl, ⟨by omega, by omega, rfl, rfl, l.set x.toNat v, by simpa using hl, rfl, fun q hq' => ?_⟩, by dsimp only; omega⟩
        rw [hn] at hq'
        rw [List.getElem?_set]
        by_cases e : x.toNat = q
        · rw [if_pos e, if_pos (by omega)]
        · rw [if_neg e]; exact hq q (by omega)
      · simp only [decide_eq_true_eq] at hc
        have hx : x = 128 := by omega
        subst hx
        have hrep := zmt hl hq
        subst hrep
        have hcI : (List.replicate 128 v).flatMap encP = cP (rep v) := rfl
        rw [hcI, yV]
        refine ⟨by rw [List.drop_zero, lG]; omega, ?_⟩
        refine (ze1 hk hb ixn bkn (rep v)).mono ?_
        rintro _ _ ⟨k, kn', bn', blk', rfl, rfl, h1, h2, h3, h4⟩
        refine ⟨(k, eE kn', bn', aZ encP blk'), ⟨rfl, rfl⟩, ⟨trivial, ⟨rfl, rfl, rfl⟩, trivial, trivial, trivial, trivial, trivial⟩, ze2 ev, yY v, ?_⟩
        have := zms v k ev
        unfold kvP at this
        simp only [this]
        exact ⟨k, kn', bJ v k ev, _, bn', blk', rfl, rfl, h1.even h2 h3, h2, h3, h4⟩
  · rintro r h' ⟨k, kn', ev', bm', bn', blk', rfl, rfl, h1, h2, h3, h4⟩
    exact ⟨k, kn', ev', bn', blk', rfl, rfl, h1, h2, h3, h4⟩
theorem zmv {v : (Int × Int)} {j : Nat} {u : (Int × Int)} (h : (Trie.rep v).1[j]? = some u) : u = v ∧ j < 128 := by
  simp only [Trie.rep, List.getElem?_replicate] at h
  split at h
  · rename_i hj; cases h; exact ⟨rfl, hj⟩
  · cases h
theorem p83 (sz : Int) (z : (Int × Int)) (n f : Bool) (l : List (Pc (Int × Int))) (hl : l.length < 4611686018427387904) (hok : ∀ p ∈ l, -9223372036854775808 ≤ p.fr - 1 ∧ p.fr - 1 ≤ 9223372036854775807) (hs1 : 1 ≤ sz) (hs2 : sz ≤ 1114112) :
    PCall Try.prog 32 [.int .i64 sz, .agg (encP z), .sl n f (iX l)] fun v => TrieP sz (eB l z) v := by
  have hF := fun i => oY l z i (sz - 1)
  generalize hFF : eB l z = F at *
  refine zmn _ z.1 z.2 _ _ _
    (fun x10 x11 va vb _ s2 _ s3 m4 m5 => ∃ idx blk kn ev, s2 = aV idx ∧ s3 = aZ encP blk ∧ m4 = eE kn ∧ m5 = fB ev ∧ TInv sz F idx blk kn ev ∧ x11 = 128 * idx.length ∧ blk.length ≤ idx.length ∧ x11 < sz + 128 ∧ (∀ j, x11 ≤ j → j ≤ x10 → F j = (va, vb)) ∧ x10 ≤ sz - 1)
    (fun _ x11 _ _ _ _ _ _ _ _ => (sz + 128 - x11).toNat)
    (fun _ y11 _ _ _ _ _ _ _ _ _ x10 x11 x13 va vb _ s2 _ s3 m4 m5 => ∃ idx blk kn ev, s2 = aV idx ∧ s3 = aZ encP blk ∧ m4 = eE kn ∧ m5 = fB ev ∧ TInv sz F idx blk kn ev ∧ x11 = 128 * idx.length ∧ x11 < sz + 128 ∧ (∀ j, x11 ≤ j → j ≤ x10 → F j = (va, vb)) ∧ x10 ≤ sz - 1 ∧ 0 ≤ x13 ∧ blk[x13.toNat]? = some (rep (va, vb)) ∧
      ((x11 = y11 ∧ x11 < sz ∧ (x11 + 127 ≤ x10 ∨ sz - 1 ≤ x10) ∧ blk.length ≤ idx.length + 1) ∨ (y11 + 128 ≤ x11 ∧ blk.length ≤ idx.length)))
    (fun _ x11 _ _ _ _ _ _ _ _ _ => (sz + 128 - x11).toNat)
    (fun _ y11 _ _ _ _ _ _ _ _ _ _ x10 x11 x va vb c _ s3 _ s4 m5 m6 => ∃ idx blk kn ev, s3 = aV idx ∧ s4 = aZ encP blk ∧ m5 = eE kn ∧ m6 = fB ev ∧ TInv sz F idx blk kn ev ∧ x11 = 128 * idx.length ∧ blk.length ≤ idx.length ∧ x11 = y11 ∧ x11 < sz ∧ 0 ≤ x ∧ x ≤ 128 ∧ x10 ≤ sz - 1 ∧ (∀ j, x11 + x ≤ j → j ≤ x10 → F j = (va, vb)) ∧
      ∃ b : List (Int × Int), b.length = 128 ∧ c = b.flatMap encP ∧ ∀ (q : Nat) u, b[q]? = some u → q < x.toNat → x11 + q < sz → u = F (x11 + q))
    (fun _ _ x _ _ _ _ _ _ _ _ _ => (128 - x).toNat) ?_
  unfold yT
  have hw1 : IntKind.i64.wrap (sz - 1) = sz - 1 := aD (by omega) (by omega)
  rw [hw1]
  refine bO (by simp; omega) ?_
  refine (yU n f l z 0 (sz - 1) hl hok).mono ?_
  rintro _ rfl
  obtain ⟨_, f2, f3, f4⟩ := hF 0 (by omega)
  refine ⟨_, rfl, rfl, _, rfl, _, rfl, rfl, _, rfl, _, rfl, _, rfl, _, rfl, ⟨rfl, [], [], [], [], rfl, rfl, rfl, rfl, TInv.nil, rfl, Nat.le_refl _, by omega, f4, f3⟩, ?_⟩
  clear f2 f3 f4
  rintro u0 x v0a v0b _ _ _ _ _ _ ⟨idx, blk, kn, ev, rfl, rfl, rfl, rfl, hk, hx, hb, hx2, hv0, hu0⟩
  refine aI (fun hc => ?_) (fun hc => ?_)
  · simp only [decide_eq_true_eq] at hc
    have hw2 : IntKind.i64.wrap (x + 128) = x + 128 := aD (by omega) (by omega)
    rw [hw2]
    have hmin : ∀ a : Int, IntKind.i64.wrap ((if sz < a + 128 then sz else a + 128) - 1) = (if sz < a + 128 then sz else a + 128) - 1 ∨ ¬ (0 ≤ a ∧ a ≤ 1114112) := fun a => by
      by_cases ha : 0 ≤ a ∧ a ≤ 1114112
      · left; split <;> exact aD (by omega) (by omega)
      · exact .inr ha
    have hmx := (hmin x).resolve_right (by omega)
    rw [hmx]
    refine aI (fun hgt => ?ga) (fun hgt => ?gb)
    case' ga =>
      refine (yU n f l z x (sz - 1) hl hok).mono ?_
      rintro _ rfl
      obtain ⟨_, hux, hu, hv⟩ := hF x (by omega)
      refine ⟨_, rfl, rfl, _, rfl, _, rfl, rfl, _, rfl, _, rfl, _, rfl, _, rfl, ?_⟩
      revert hv hu
      generalize (findL l z x (sz - 1)).1 = v
      generalize (findL l z x (sz - 1)).2 = u
      clear hv0 hu0 hux
      intro hu hv
    case' gb =>
      obtain ⟨v, rfl, rfl⟩ : ∃ v : (Int × Int), v.1 = v0a ∧ v.2 = v0b := ⟨(v0a, v0b), rfl, rfl⟩
      revert hv0 hu0 hgt
      generalize u0 = u
      intro hu hgt hv
    all_goals
      clear hgt
      refine aI (fun hc2 => ?_) (fun hc2 => ?_)
      · simp only [decide_eq_true_eq, ge_iff_le] at hc2
        have hc3 : x + 127 ≤ u ∨ sz - 1 ≤ u := by split at hc2 <;> omega
        refine (zmu hk (by omega) _ _ v).mono ?_
        rintro _ _ ⟨k, kn', ev', bn', blk', rfl, rfl, g1, g2, g3, g4⟩
        refine ⟨(k, eE kn', fB ev', bn', aZ encP blk'), ⟨rfl, rfl⟩, ⟨trivial, ⟨rfl, rfl, rfl⟩, trivial, trivial, trivial, trivial, trivial⟩, ⟨rfl, idx, blk', kn', ev', rfl, rfl, rfl, rfl, g1, hx, hx2, hv, hu, g2, g3, .inl ⟨rfl, hc, hc3, by omega⟩⟩, ?_⟩
        rintro t y k' wa wb _ _ _ _ _ _ ⟨idx2, blk2, kn2, ev2, rfl, rfl, rfl, rfl, hk2, hy, hy2, hw, ht, hk0, hkb, hor⟩
        have hwy : IntKind.i64.wrap (y + 128) = y + 128 := aD (by omega) (by omega)
        rw [hwy, (hmin y).resolve_right (by omega)]
        refine aI (fun hc4 => ?_) (fun hc4 => ?_)
        · simp only [Bool.and_eq_true, decide_eq_true_eq, ge_iff_le] at hc4
          have hc5 : y + 127 ≤ t ∨ sz - 1 ≤ t := by have := hc4.2; split at this <;> omega
          refine ⟨⟨fun e he => by simp at he; subst he; rfl, by rw [g9]; omega⟩, rfl, ⟨idx2 ++ [k'], blk2, kn2, ev2, by simp [aV], rfl, rfl, rfl, hk2.push hk0 hkb fun j u' hj hlt => ?_, by simp; omega, by omega, fun j h1 h2 => hw j (by omega) h2, ht, hk0, hkb, .inr ⟨by omega, by simp; omega⟩⟩, by dsimp only; omega⟩
          obtain ⟨rfl, hj2⟩ := zmv hj
          exact (hw _ (by omega) (by omega)).symm
        · have hw128 : IntKind.i64.wrap (y - 128) = y - 128 := aD (by omega) (by omega)
          have hback : IntKind.i64.wrap (y - 128 + 128) = y := by rw [aD (by omega) (by omega)]; omega
          rw [hw128, hback]
          simp only [Bool.and_eq_true, decide_eq_true_eq, ge_iff_le, not_and] at hc4
          have hor2 : x + 128 ≤ y ∧ blk2.length ≤ idx2.length := by
            rcases hor with ⟨h1, h2, h3, h4⟩ | h
            · exfalso
              have := hc4 h2
              split at this <;> omega
            · exact h
          exact ⟨rfl, ⟨idx2, blk2, kn2, ev2, rfl, rfl, rfl, rfl, hk2, hy, hor2.2, hy2, hw, ht⟩, by dsimp only; omega⟩
      · clear hc2
        refine ⟨⟨rfl, idx, blk, kn, ev, rfl, rfl, rfl, rfl, hk, hx, hb, rfl, hc, Int.le_refl _, by omega, hu, fun j h1 h2 => hv j (by omega) h2, List.replicate 128 (0, 0), by simp, ze3, fun q u' _ hq _ => by simp at hq⟩, ?_⟩
        rintro t y i wa wb _ _ _ _ _ _ _ ⟨idx2, blk2, kn2, ev2, rfl, rfl, rfl, rfl, hk2, hy, hb2, hyx, hy2, i0, i1, ht, hw, b, hbl, rfl, hbq⟩
        obtain ⟨w, rfl, rfl⟩ : ∃ v : (Int × Int), v.1 = wa ∧ v.2 = wb := ⟨(wa, wb), rfl, rfl⟩
        have hwyi : IntKind.i64.wrap (y + i) = y + i := aD (by omega) (by omega)
        have hwi : IntKind.i64.wrap (i + 1) = i + 1 := aD (by omega) (by omega)
        have hwy : IntKind.i64.wrap (y + 128) = y + 128 := aD (by omega) (by omega)
        rw [hwyi, hwi, hwy]
        have step : ∀ (v' : (Int × Int)) (u' : Int), (∀ j, y + i ≤ j → j ≤ u' → F j = v') → u' ≤ sz - 1 → (y + i < sz → F (y + i) = v') → i < 128 →
            ∃ idx blk kn ev, aV idx2 = aV idx ∧ aZ encP blk2 = aZ encP blk ∧ eE kn2 = eE kn ∧ fB ev2 = fB ev ∧ TInv sz F idx blk kn ev ∧ y = 128 * idx.length ∧ blk.length ≤ idx.length ∧ y = x ∧ y < sz ∧ 0 ≤ i + 1 ∧ i + 1 ≤ 128 ∧ u' ≤ sz - 1 ∧ (∀ j, y + (i + 1) ≤ j → j ≤ u' → F j = v') ∧
              ∃ c : List (Int × Int), c.length = 128 ∧ (b.set i.toNat v').flatMap encP = c.flatMap encP ∧ ∀ (q : Nat) u, c[q]? = some u → q < (i + 1).toNat → y + q < sz → u = F (y + q) := fun v' u' h1 h2 h3 h4 => by
          refine ⟨idx2, blk2, kn2, ev2, rfl, rfl, rfl, rfl, hk2, hy, hb2, hyx, hy2, by omega, by omega, h2, fun j a1 a2 => h1 j (by omega) a2, b.set i.toNat v', by simpa using hbl, rfl, fun q u hq hq2 hq3 => ?_⟩
          rw [List.getElem?_set] at hq
          by_cases e : i.toNat = q
          · rw [if_pos e, if_pos (by omega)] at hq
            cases hq
            have e2 : y + (q : Int) = y + i := by omega
            rw [e2]
            exact (h3 (by omega)).symm
          · rw [if_neg e] at hq
            exact hbq q u hq (by omega) hq3
        refine aI (fun hc5 => ?_) (fun hc5 => ?_)
        · simp only [decide_eq_true_eq] at hc5
          refine aI (fun hc6 => ?_) (fun hc6 => ?_)
          · simp only [Bool.and_eq_true, decide_eq_true_eq, gt_iff_lt] at hc6
            refine (yU n f l z (y + i) (sz - 1) hl hok).mono ?_
            rintro _ rfl
            obtain ⟨q1, q2, q3, q4⟩ := hF (y + i) (by omega)
            refine ⟨_, rfl, rfl, _, rfl, _, rfl, rfl, _, rfl, _, rfl, _, rfl, _, rfl, ⟨i0, hc5⟩, ⟨rfl, by rw [y0]; omega⟩, rfl, ?_, by dsimp only; omega⟩
            have hput := yZ b i.toNat (by omega) (findL l z (y + i) (sz - 1)).1
            unfold encP at hput ⊢
            rw [hput]
            exact step _ _ q4 q3 (fun _ => q1.symm) hc5
          · simp only [Bool.and_eq_true, decide_eq_true_eq, gt_iff_lt, not_and] at hc6
            refine ⟨⟨i0, hc5⟩, ⟨rfl, by rw [y0]; omega⟩, rfl, ?_, by dsimp only; omega⟩
            have hput := yZ b i.toNat (by omega) w
            unfold encP at hput ⊢
            rw [hput]
            exact step _ _ hw ht (fun h => hw _ (Int.le_refl _) ((Int.lt_or_le t (y + i)).elim (fun h2 => absurd h (hc6 h2)) id)) hc5
        · simp only [decide_eq_true_eq] at hc5
          have hi : i = 128 := by omega
          subst hi
          obtain ⟨B, hB⟩ : ∃ B : aQ (Int × Int), B.1 = b := ⟨⟨b, hbl⟩, rfl⟩
          subst hB
          have hcI : B.1.flatMap encP = cP B := rfl
          rw [hcI, yV]
          refine ⟨by rw [List.drop_zero, lG]; omega, (fun h => ⟨h, h⟩) ?_⟩
          refine (ze1 hk2 (by omega) _ _ B).mono ?_
          rintro _ _ ⟨k, kn', bn', blk', rfl, rfl, h1, h2, h3, h4⟩
          refine ⟨(k, eE kn', bn', aZ encP blk'), ⟨rfl, rfl⟩, ⟨trivial, ⟨rfl, rfl, rfl⟩, trivial, trivial, trivial, trivial, trivial⟩, ⟨fun e he => by simp at he; subst he; rfl, by rw [g9]; omega⟩, rfl, ⟨idx2 ++ [k], blk', kn', ev2, by simp [aV, kvP], rfl, rfl, rfl, h1.push h2 h3 fun j u' hj hlt => ?_, by simp; omega, by simp; omega, by omega, fun j a1 a2 => hw j (by omega) a2, ht⟩, by dsimp only; omega⟩
          have hj2 : j < 128 := by have := (List.getElem?_eq_some_iff.1 hj).1; simp only [hbl] at this; exact this
          rw [← hy]
          exact hbq j u' hj (by omega) (by omega)
  · simp only [decide_eq_true_eq] at hc
    exact ⟨_, _, _, _, idx, blk, rfl, by omega, hk.idx_ok⟩
end Go.Eng



namespace Go.Eng
open Go Go.Proofs Go.Eng.Rows Go.Eng.Trie
theorem TrieI.congr {sz : Int} {F G : Int → Int} {v : PV} (h : TrieI sz F v) (hFG : ∀ i, 0 ≤ i → i < sz → F i = G i) : TrieI sz G v := by
  obtain ⟨n, f, n2, f2, idx, blk, rfl, h1, h2⟩ := h
  refine ⟨n, f, n2, f2, idx, blk, rfl, h1, fun q k hq => ?_⟩
  obtain ⟨k0, b, hb, hv⟩ := h2 q k hq
  exact ⟨k0, b, hb, fun j u hj hlt => by rw [← hFG _ (by omega) hlt]; exact hv j u hj hlt⟩
theorem TrieP.congr {sz : Int} {F G : Int → Int × Int} {v : PV} (h : TrieP sz F v) (hFG : ∀ i, 0 ≤ i → i < sz → F i = G i) : TrieP sz G v := by
  obtain ⟨n, f, n2, f2, idx, blk, rfl, h1, h2⟩ := h
  refine ⟨n, f, n2, f2, idx, blk, rfl, h1, fun q k hq => ?_⟩
  obtain ⟨k0, b, hb, hv⟩ := h2 q k hq
  exact ⟨k0, b, hb, fun j u hj hlt => by rw [← hFG _ (by omega) hlt]; exact hv j u hj hlt⟩
theorem TrieF.congr {sz : Int} {F G : Int → Fl} {v : PV} (h : TrieF sz F v) (hFG : ∀ i, 0 ≤ i → i < sz → F i = G i) : TrieF sz G v := by
  obtain ⟨n, f, n2, f2, idx, blk, rfl, h1, h2⟩ := h
  refine ⟨n, f, n2, f2, idx, blk, rfl, h1, fun q k hq => ?_⟩
  obtain ⟨k0, b, hb, hv⟩ := h2 q k hq
  exact ⟨k0, b, hb, fun j u hj hlt => by rw [← hFG _ (by omega) hlt]; exact hv j u hj hlt⟩
def toI (s : Sp) : Pc Int := ⟨s.fr, s.to, s.a⟩
theorem y6 (n f : Bool) (rows : List Row) (k : Int) (hl : rows.length < 1000000) : PCall Try.prog 29 [.sl n f (bE rows), .int .i64 k] fun v => TrieI 1114112 (aH rows k) v := by
  have hg := kW k rows
  have hlen := hg.len
  refine zj5 _ _ _ _ (fun _ _ s10 x11 x12 m s => s10 = aJ (aG k rows) ∧ x11 = (aG k rows).length ∧ 0 ≤ x12 ∧ x12 ≤ x11 ∧ s = iV (((aG k rows).take x12.toNat).map toI)) (fun _ _ _ x11 x12 _ _ => (x11 - x12).toNat) ?_
  unfold wE
  refine (p29 _ _ rows k (by omega)).mono ?_
  rintro _ ⟨n1, f1, rfl⟩
  refine ⟨_, _, _, rfl, ⟨rfl, rfl, by rw [dY], Int.le_refl _, by rw [dY]; omega, rfl⟩, ?_⟩
  rintro _ _ _ x11 i m _ ⟨rfl, rfl, i0, i1, rfl⟩
  refine aI (fun hc => ?_) (fun hc => ?_)
  · simp only [decide_eq_true_eq] at hc
    have hi : i.toNat < (aG k rows).length := by omega
    have hw : IntKind.i64.wrap (i + 1) = i + 1 := aD (by omega) (by omega)
    have hn : (i + 1).toNat = i.toNat + 1 := by omega
    have hgd : (aJ (aG k rows)).getD i.toNat [] = cV (aG k rows)[i.toNat] := cC hi
    have hix : aO (aJ (aG k rows)) i 4 := bM fQ i0 (by omega)
    refine ⟨hix, (aG k rows)[i.toNat].fr, by rw [hgd]; rfl, (aG k rows)[i.toNat].to, by rw [hgd]; rfl, (aG k rows)[i.toNat].a, by rw [hgd]; rfl, (aG k rows)[i.toNat].b, by rw [hgd]; rfl, ⟨fun e he => by simp at he; subst he; rfl, by simp [iV]; omega⟩, rfl, ?_⟩
    rw [hw]
    refine ⟨⟨rfl, rfl, by omega, by omega, ?_⟩, by dsimp only; omega⟩
    rw [hn, cZ hi, List.map_append]
    unfold iV
    rw [List.map_append]
    rfl
  · simp only [decide_eq_true_eq] at hc
    rw [List.take_of_length_le (by omega)]
    refine (zl3 1114112 0 _ _ _ (by simp; omega) (fun p hp => ?_) (by omega) (by omega)).mono fun v hv => hv.congr fun i h0 h1 => zll rows k i
    obtain ⟨s, hs, rfl⟩ := List.mem_map.1 hp
    have := hg.2 s hs
    exact ⟨by simp only [toI]; omega, by simp only [toI]; omega⟩

def sH (ll : List (Bool × Bool × List Sp)) : List (List PV) := ll.map fun x => [.sl x.1 x.2.1 (aJ x.2.2)]
abbrev sI (M : List (Int × Bool)) : List (PV × PV) := bP (fun n => .int .i64 n) (fun b => .bool b) M
def fT (ll : List (Bool × Bool × List Sp)) : List Sp := (ll.map (·.2.2)).flatten
def mK (l : List Sp) : List Int := l.flatMap fun s => [s.fr, s.to + 1]
theorem zmw (l : List Sp) (s : Sp) (x : Int) : x ∈ mK (l ++ [s]) ↔ x ∈ mK l ∨ x = s.fr ∨ x = s.to + 1 := by
  simp [mK]
def JM (done : List Sp) (m : List (PV × PV)) : Prop := ∃ M : List (Int × Bool), m = sI M ∧ (M.map (·.1)).Nodup ∧ M.length ≤ 1 + 2 * done.length ∧ ∀ x, x ∈ M.map (·.1) ↔ x = 0 ∨ x ∈ mK done
theorem zmx (n f : Bool) (ll : List (Bool × Bool × List Sp)) (hl : ll.length < 1000) (hg : ∀ x ∈ ll, Rows.Good x.2.2) :
    PCall Try.prog 56 [.sl n f (sH ll)] fun v => ∃ n f t, v = .sl n f (aV t) ∧ t.length < 4000000000 ∧ ∀ x, x ∈ t ↔ jS (ll.map (·.2.2)) x := by
  have hlen : ∀ k, (fT (ll.take k)).length ≤ 1114112 * k := fun k => by
    induction k with
    | zero => simp [fT]
    | succ k ih =>
      by_cases hk : k < ll.length
      · rw [cZ hk]
        have := (hg _ (List.getElem_mem hk)).len
        simp only [fT, List.map_append, List.flatten_append, List.length_append, List.map_cons, List.map_nil, List.flatten_cons, List.flatten_nil, List.append_nil] at ih ⊢
        omega
      · rw [List.take_of_length_le (by omega)]
        rw [List.take_of_length_le (by omega)] at ih
        omega
  refine zj6 _ _ _ (fun i m => 0 ≤ i ∧ i ≤ ll.length ∧ JM (fT (ll.take i.toNat)) m) (fun i _ => ll.length - i.toNat)
    (fun i _ _ _ _ _ _ i' n18 f18 s18 x19 k m => i' = i ∧ 0 ≤ i ∧ ∃ hi : i.toNat < ll.length, s18 = aJ ll[i.toNat].2.2 ∧ x19 = ll[i.toNat].2.2.length ∧ 0 ≤ k ∧ k ≤ x19 ∧ JM (fT (ll.take i.toNat) ++ ll[i.toNat].2.2.take k.toNat) m) (fun _ _ _ _ x19 k _ => (x19 - k).toNat)
    (fun m s r _ => ∃ (A : List Int) (R : List (Int × Bool)) (K : List Int), s = aV A ∧ r = sI R ∧ (A ++ R.map (·.1)).Perm K ∧ K.length < 4000000000 ∧ (∀ x, x ∈ K ↔ jS (ll.map (·.2.2)) x)) (fun _ _ r _ => r.length) ?_
  unfold wH
  refine ⟨fun kv hkv => (by cases hkv), ⟨rfl, Int.le_refl _, by omega, [(0, true)], rfl, by simp, by simp [fT], fun x => by simp [fT, mK]⟩, ?_⟩
  rintro i _ ⟨i0, i1, M, rfl, hnd, hml, hmem⟩
  have hlc : (sH ll).length = ll.length := by simp [sH]
  refine aI (fun hc => ?_) (fun hc => ?_)
  · simp only [decide_eq_true_eq, hlc] at hc
    have hi : i.toNat < ll.length := by omega
    have hw : IntKind.i64.wrap (i + 1) = i + 1 := aD (by omega) (by omega)
    have hn : (i + 1).toNat = i.toNat + 1 := by omega
    have hgd : (sH ll).getD i.toNat [] = [.sl ll[i.toNat].1 ll[i.toNat].2.1 (aJ ll[i.toNat].2.2)] := cC hi
    have hgi := hg _ (List.getElem_mem hi)
    have hgl := hgi.len
    have hsl := hlen i.toNat
    refine ⟨bM (enc := fun x : Bool × Bool × List Sp => [PV.sl x.1 x.2.1 (aJ x.2.2)]) (fun _ => rfl) i0 hc, _, _, _, by rw [hgd]; rfl, ⟨rfl, rfl, i0, hi, rfl, by rw [dY], Int.le_refl _, by rw [dY]; omega, M, rfl, hnd, by simpa using hml, by simpa using hmem⟩, ?_⟩
    rintro i' n18 f18 _ _ k _ ⟨rfl, _, _, rfl, rfl, k0, k1, M, rfl, hnd, hml, hmem⟩
    rw [List.length_append, List.length_take] at hml
    refine aI (fun hc2 => ?_) (fun hc2 => ?_)
    · simp only [decide_eq_true_eq] at hc2
      have hk : k.toNat < ll[i'.toNat].2.2.length := by omega
      have hwk : IntKind.i64.wrap (k + 1) = k + 1 := aD (by omega) (by omega)
      have hnk : (k + 1).toNat = k.toNat + 1 := by omega
      have hgk : (aJ ll[i'.toNat].2.2).getD k.toNat [] = cV ll[i'.toNat].2.2[k.toNat] := cC hk
      have hix : aO (aJ ll[i'.toNat].2.2) k 4 := bM fQ k0 (by omega)
      have hr := hgi.2 _ (List.getElem_mem hk)
      have hts : ll[i'.toNat].2.2.take (k.toNat + 1) = ll[i'.toNat].2.2.take k.toNat ++ [ll[i'.toNat].2.2[k.toNat]] := cZ hk
      generalize ll[i'.toNat].2.2[k.toNat] = s at *
      have hwt : IntKind.i64.wrap (s.to + 1) = s.to + 1 := aD (by omega) (by omega)
      have set1 := gW (ek := fun n => PV.int .i64 n) (ev := fun b => PV.bool b) (oO .i64) s.fr true M
      have set2 := gW (ek := fun n => PV.int .i64 n) (ev := fun b => PV.bool b) (oO .i64) (s.to + 1) true (bJ s.fr true M)
      have fin : (JM (fT (ll.take i'.toNat) ++ ll[i'.toNat].2.2.take (k.toNat + 1)) (aP (.int .i64 (s.to + 1)) (.bool true) (aP (.int .i64 s.fr) (.bool true) (sI M)))) := by
        refine ⟨bJ (s.to + 1) true (bJ s.fr true M), by rw [set1, set2], zdj (zdj hnd), ?_, fun x => ?_⟩
        · have e1 := zdl s.fr true M
          have e2 := zdl (s.to + 1) true (bJ s.fr true M)
          rw [hts, List.length_append, List.length_append, List.length_take]
          simp only [List.length_cons, List.length_nil]
          omega
        · rw [zdk, zdk, hmem, hts, ← List.append_assoc, zmw]
          constructor
          · rintro ((h | h) | h)
            · exact h.elim .inl fun h => .inr (.inl h)
            · exact .inr (.inr (.inl h))
            · exact .inr (.inr (.inr h))
          · rintro (h | h | h | h)
            · exact .inl (.inl (.inl h))
            · exact .inl (.inl (.inr h))
            · exact .inl (.inr h)
            · exact .inr h
      have hk1 : eT .i64 (aP (.int .i64 s.fr) (.bool true) (sI M)) := by rw [set1]; exact kS _
      refine ⟨hix, s.fr, by rw [hgk]; rfl, s.to, by rw [hgk]; rfl, s.a, by rw [hgk]; rfl, s.b, by rw [hgk]; rfl, ?_⟩
      rw [hwt, hwk]
      have hmu : ((ll[i'.toNat].2.2.length : Int) - (k + 1)).toNat < ((ll[i'.toNat].2.2.length : Int) - k).toNat := by omega
      rw [← hnk] at fin
      refine ⟨⟨?_, ?_⟩, ?_⟩ <;> exact ⟨kS M, hk1, rfl, ⟨rfl, i0, hi, rfl, rfl, by omega, by omega, fin⟩, hmu⟩
    · simp only [decide_eq_true_eq] at hc2
      have htl : ll[i'.toNat].2.2.take k.toNat = ll[i'.toNat].2.2 := List.take_of_length_le (by omega)
      rw [htl] at hmem
      have hso : fT (ll.take (i' + 1).toNat) = fT (ll.take i'.toNat) ++ ll[i'.toNat].2.2 := by
        rw [hn, cZ hi]; simp only [fT, List.map_append, List.map_cons, List.map_nil, List.flatten_append, List.flatten_cons, List.flatten_nil, List.append_nil]
      rw [hw]
      refine ⟨rfl, ⟨by omega, by omega, M, rfl, hnd, ?_, fun x => ?_⟩, by dsimp only; omega⟩
      · rw [hso, List.length_append]; omega
      · rw [hmem, hso]
  · simp only [decide_eq_true_eq, hlc] at hc
    rw [List.take_of_length_le (by omega)] at hmem hml
    have hM : M.length < 4000000000 := by
      have := hlen ll.length
      rw [List.take_of_length_le (Nat.le_refl _)] at this
      omega
    refine ⟨⟨rfl, [], M, M.map (·.1), rfl, rfl, List.Perm.refl _, by simpa using hM, fun x => ?_⟩, ?_⟩
    · rw [hmem]
      unfold jS mK fT
      simp only [List.mem_flatMap, List.mem_flatten, List.mem_cons, List.not_mem_nil, or_false]
      constructor
      · rintro (h | ⟨s, ⟨l, hl, hs⟩, h⟩)
        · exact .inl h
        · exact .inr ⟨l, hl, s, hs, h⟩
      · rintro (h | ⟨l, hl, s, hs, h⟩)
        · exact .inl h
        · exact .inr ⟨s, ⟨l, hl, hs⟩, h⟩
    · rintro m _ _ q ⟨A, R, K, rfl, rfl, hp, hKl, hKm⟩
      have hlen2 := hp.length_eq
      simp only [List.length_append, List.length_map] at hlen2
      refine ⟨fun hr => ?_, fun j k v hj => ?_⟩
      · have hR : R = [] := by cases R with | nil => rfl | cons => simp [bP] at hr
        subst hR
        simp only [List.map_nil, List.append_nil] at hp
        simp only [List.length_nil] at hlen2
        exact ⟨_, _, A, rfl, by omega, fun x => by rw [hp.mem_iff, hKm]⟩
      · obtain ⟨hjl, rfl, rfl, hpe, he⟩ := zjl hj
        refine ⟨R[j].1, rfl, R[j].2, rfl, _, rfl, _, rfl, ⟨fun e he => by simp at he; subst he; rfl, by rw [g9]; omega⟩, rfl, ⟨A ++ [R[j].1], R.eraseIdx j, K, by simp [aV], he, ?_, hKl, hKm⟩, ?_⟩
        · refine List.Perm.trans ?_ hp
          rw [List.append_assoc]
          refine List.Perm.append_left A ?_
          simpa using hpe.map (·.1)
        · dsimp only
          rw [he, zdi, zdi, List.length_eraseIdx_of_lt hjl]; omega
end Go.Eng



namespace Go.Eng
open Go Go.Proofs Go.Eng.Rows Go.Eng.Trie
theorem mL {i : Int} (h0 : 0 ≤ i) (h1 : i < 4) : i = 0 ∨ i = 1 ∨ i = 2 ∨ i = 3 := by omega
def cG (l0 l1 l2 l3 : List Sp) (i : Nat) : List Sp := [l0, l1, l2, l3].getD i []
theorem at4 (n0 f0 n1 f1 n2 f2 n3 f3 : Bool) (l0 l1 l2 l3 : List Sp) {i : Int} (h0 : 0 ≤ i) (h1 : i < 4) : ∃ n f, [PV.sl n0 f0 (aJ l0), .sl n1 f1 (aJ l1), .sl n2 f2 (aJ l2), .sl n3 f3 (aJ l3)].getD i.toNat .unit = .sl n f (aJ (cG l0 l1 l2 l3 i.toNat)) := by
  rcases mL h0 h1 with rfl | rfl | rfl | rfl
  · exact ⟨n0, f0, rfl⟩
  · exact ⟨n1, f1, rfl⟩
  · exact ⟨n2, f2, rfl⟩
  · exact ⟨n3, f3, rfl⟩
theorem zmy (l0 l1 l2 l3 : List Sp) {i : Int} (h0 : 0 ≤ i) (h1 : i < 4) : ([l0, l1, l2, l3].take (i + 1).toNat) = ([l0, l1, l2, l3].take i.toNat) ++ [cG l0 l1 l2 l3 i.toNat] := by
  rcases mL h0 h1 with rfl | rfl | rfl | rfl <;> rfl
theorem zmz (l0 l1 l2 l3 : List Sp) {i : Int} (h0 : 0 ≤ i) (h1 : i < 4) : cG l0 l1 l2 l3 i.toNat ∈ [l0, l1, l2, l3] := by
  rcases mL h0 h1 with rfl | rfl | rfl | rfl <;> simp [cG]
theorem zm0 (a last : Int) (n0 f0 n1 f1 n2 f2 n3 f3 : Bool) (l0 l1 l2 l3 : List Sp) (hg : ∀ l ∈ [l0, l1, l2, l3], Rows.Good l) :
    PCall Try.prog 58 [.int .i64 a, .int .i64 last, .agg [.sl n0 f0 (aJ l0), .sl n1 f1 (aJ l1), .sl n2 f2 (aJ l2), .sl n3 f3 (aJ l3)]] fun v => v = .int .i64 (c9 a last [l0, l1, l2, l3].flatten) := by
  refine zj7 _ _ _ _ _ _ _ _ _ _ _ _ _ _
    (fun x _ _ s0 _ _ s1 _ _ s2 _ _ s3 i => s0 = aJ l0 ∧ s1 = aJ l1 ∧ s2 = aJ l2 ∧ s3 = aJ l3 ∧ 0 ≤ i ∧ i ≤ 4 ∧ x = c9 a last ([l0, l1, l2, l3].take i.toNat).flatten) (fun _ _ _ _ _ _ _ _ _ _ _ _ _ i => (4 - i).toNat)
    (fun _ _ _ _ _ _ _ _ _ _ _ _ _ i _ _ _ _ _ x _ _ s0 _ _ s1 _ _ s2 _ _ s3 i' _ _ s15 x16 k => s0 = aJ l0 ∧ s1 = aJ l1 ∧ s2 = aJ l2 ∧ s3 = aJ l3 ∧ i = i' ∧ s15 = aJ (cG l0 l1 l2 l3 i.toNat) ∧ x16 = (cG l0 l1 l2 l3 i.toNat).length ∧ 0 ≤ k ∧ k ≤ x16 ∧
      x = c9 a last (([l0, l1, l2, l3].take i.toNat).flatten ++ (cG l0 l1 l2 l3 i.toNat).take k.toNat)) (fun _ _ _ _ _ _ _ _ _ _ _ _ _ _ _ _ _ x16 k => (x16 - k).toNat) ?_
  unfold wJ
  refine ⟨_, _, _, rfl, _, _, _, rfl, _, _, _, rfl, _, _, _, rfl, ⟨rfl, rfl, rfl, rfl, rfl, Int.le_refl _, by omega, rfl⟩, ?_⟩
  rintro _ n0 f0 _ n1 f1 _ n2 f2 _ n3 f3 _ i ⟨rfl, rfl, rfl, rfl, i0, i1, rfl⟩
  have hw : IntKind.i64.wrap (i + 1) = i + 1 := aD (by omega) (by omega)
  refine aI (fun hc => ?_) (fun hc => ?_)
  · simp only [decide_eq_true_eq] at hc
    obtain ⟨m, g, hat⟩ := at4 n0 f0 n1 f1 n2 f2 n3 f3 l0 l1 l2 l3 i0 hc
    have hgi := hg _ (zmz l0 l1 l2 l3 i0 hc)
    have hgl := hgi.len
    refine ⟨⟨i0, hc, by simp; omega⟩, m, g, _, hat, ⟨rfl, rfl, rfl, rfl, rfl, rfl, rfl, by rw [dY], Int.le_refl _, by rw [dY]; omega, by simp⟩, ?_⟩
    rintro _ n0 f0 _ n1 f1 _ n2 f2 _ n3 f3 _ _ n15 f15 _ _ k ⟨rfl, rfl, rfl, rfl, rfl, rfl, rfl, k0, k1, rfl⟩
    have htk := zmy l0 l1 l2 l3 i0 hc
    refine aI (fun hc2 => ?_) (fun hc2 => ?_)
    · simp only [decide_eq_true_eq] at hc2
      have hk : k.toNat < (cG l0 l1 l2 l3 i.toNat).length := by omega
      have hwk : IntKind.i64.wrap (k + 1) = k + 1 := aD (by omega) (by omega)
      have hnk : (k + 1).toNat = k.toNat + 1 := by omega
      have hgk : (aJ (cG l0 l1 l2 l3 i.toNat)).getD k.toNat [] = cV (cG l0 l1 l2 l3 i.toNat)[k.toNat] := cC hk
      have hix : aO (aJ (cG l0 l1 l2 l3 i.toNat)) k 4 := bM fQ k0 (by omega)
      have hr := hgi.2 _ (List.getElem_mem hk)
      have hts : (cG l0 l1 l2 l3 i.toNat).take (k.toNat + 1) = (cG l0 l1 l2 l3 i.toNat).take k.toNat ++ [(cG l0 l1 l2 l3 i.toNat)[k.toNat]] := cZ hk
      have hmu : (((cG l0 l1 l2 l3 i.toNat).length : Int) - (k + 1)).toNat < (((cG l0 l1 l2 l3 i.toNat).length : Int) - k).toNat := by omega
      refine ⟨hix, (cG l0 l1 l2 l3 i.toNat)[k.toNat].fr, by rw [hgk]; rfl, (cG l0 l1 l2 l3 i.toNat)[k.toNat].to, by rw [hgk]; rfl, (cG l0 l1 l2 l3 i.toNat)[k.toNat].a, by rw [hgk]; rfl, (cG l0 l1 l2 l3 i.toNat)[k.toNat].b, by rw [hgk]; rfl, ?_⟩
      rw [hwk]
      generalize (cG l0 l1 l2 l3 i.toNat)[k.toNat] = s at *
      have hws : IntKind.i64.wrap (s.fr - 1) = s.fr - 1 := aD (by omega) (by omega)
      rw [hws]
      have hstep : c9 a last (([l0, l1, l2, l3].take i.toNat).flatten ++ (cG l0 l1 l2 l3 i.toNat).take (k + 1).toNat) = if s.fr > a ∧ s.fr ≤ c9 a last (([l0, l1, l2, l3].take i.toNat).flatten ++ (cG l0 l1 l2 l3 i.toNat).take k.toNat) then s.fr - 1 else c9 a last (([l0, l1, l2, l3].take i.toNat).flatten ++ (cG l0 l1 l2 l3 i.toNat).take k.toNat) := by
        rw [hnk, hts, ← List.append_assoc, zec]; rfl
      refine aI (fun h1 => aI (fun h2 => ?_) (fun h2 => ?_)) (fun h1 => ?_)
      · simp only [decide_eq_true_eq] at h1 h2
        rw [if_pos ⟨h1, h2⟩] at hstep
        exact ⟨rfl, ⟨rfl, rfl, rfl, rfl, rfl, rfl, rfl, by omega, by omega, hstep.symm⟩, hmu⟩
      · simp only [decide_eq_true_eq] at h1 h2
        rw [if_neg (fun h => h2 h.2)] at hstep
        exact ⟨rfl, ⟨rfl, rfl, rfl, rfl, rfl, rfl, rfl, by omega, by omega, hstep.symm⟩, hmu⟩
      · simp only [decide_eq_true_eq] at h1
        rw [if_neg (fun h => h1 h.1)] at hstep
        exact ⟨rfl, ⟨rfl, rfl, rfl, rfl, rfl, rfl, rfl, by omega, by omega, hstep.symm⟩, hmu⟩
    · simp only [decide_eq_true_eq] at hc2
      have htl : (cG l0 l1 l2 l3 i.toNat).take k.toNat = (cG l0 l1 l2 l3 i.toNat) := List.take_of_length_le (by omega)
      rw [hw, htl]
      refine ⟨rfl, ⟨rfl, rfl, rfl, rfl, by omega, by omega, ?_⟩, by dsimp only; omega⟩
      rw [htk]; simp
  · simp only [decide_eq_true_eq] at hc
    have : i = 4 := by omega
    subst this
    rfl
end Go.Eng



namespace Go.Eng
open Go Go.Proofs Go.Eng.Rows Go.Eng.Trie
def kd (q : Nat) : Int := [5, 7, 8, 3].getD q 0
def k4 (rows : List Row) (q : Nat) : List Sp := aG (kd q) rows
theorem zm1 (rows : List Row) {i : Int} (h0 : 0 ≤ i) (h1 : i < 4) : cG (aG 5 rows) (aG 7 rows) (aG 8 rows) (aG 3 rows) i.toNat = k4 rows i.toNat := by
  rcases mL h0 h1 with rfl | rfl | rfl | rfl <;> rfl
def CellsK (rows : List Row) (i : Int) (c : List PV) : Prop := c.length = 4 ∧ ∀ q : Nat, (q : Int) < i → ∃ n f, c[q]? = some (.sl n f (aJ (k4 rows q)))
def HasC (rows : List Row) (a i : Int) (c : List PV) : Prop := c.length = 4 ∧ ∀ q : Nat, (q : Int) < i → c[q]? = some (.bool (eK rows (kd q) a))
theorem ze4 {c : List PV} (hl : c.length = 4) {i : Int} (h0 : 0 ≤ i) (h1 : i < 4) (v : PV) : (aL c (0 + i.toNat * 1) [v]).length = 4 ∧ ∀ q : Nat, (aL c (0 + i.toNat * 1) [v])[q]? = if q = i.toNat then some v else c[q]? := by
  have hle : (0 + i.toNat * 1) + [v].length ≤ c.length := by simp; omega
  refine ⟨by rw [jE _ _ _ hle, hl], fun q => ?_⟩
  rw [lV _ _ _ hle]
  simp only [Nat.zero_add, Nat.mul_one, List.length_cons, List.length_nil]
  by_cases hq : q = i.toNat
  · subst hq; rw [if_pos (by omega), if_pos rfl]; simp
  · rw [if_neg (by omega), if_neg hq]
theorem CellsK.put {rows : List Row} {i : Int} {c : List PV} (h : CellsK rows i c) (h0 : 0 ≤ i) (h1 : i < 4) (n f : Bool) : CellsK rows (i + 1) (aL c (0 + i.toNat * 1) [.sl n f (aJ (k4 rows i.toNat))]) := by
  obtain ⟨e1, e2⟩ := ze4 h.1 h0 h1 (.sl n f (aJ (k4 rows i.toNat)))
  refine ⟨e1, fun q hq => ?_⟩
  rw [e2]
  by_cases hqi : q = i.toNat
  · subst hqi; rw [if_pos rfl]; exact ⟨n, f, rfl⟩
  · rw [if_neg hqi]; exact h.2 q (by omega)
theorem HasC.put {rows : List Row} {a i : Int} {c : List PV} (h : HasC rows a i c) (h0 : 0 ≤ i) (h1 : i < 4) {b : Bool} (hb : b = eK rows (kd i.toNat) a) : HasC rows a (i + 1) (aL c (0 + i.toNat * 1) [.bool b]) := by
  obtain ⟨e1, e2⟩ := ze4 h.1 h0 h1 (.bool b)
  refine ⟨e1, fun q hq => ?_⟩
  rw [e2]
  by_cases hqi : q = i.toNat
  · subst hqi; rw [if_pos rfl, hb]
  · rw [if_neg hqi]; exact h.2 q (by omega)
theorem eq4 {c : List PV} {a0 a1 a2 a3 : PV} (hl : c.length = 4) (h0 : c[0]? = some a0) (h1 : c[1]? = some a1) (h2 : c[2]? = some a2) (h3 : c[3]? = some a3) : c = [a0, a1, a2, a3] := by
  match c, hl with
  | [b0, b1, b2, b3], _ => simp at h0 h1 h2 h3; rw [h0, h1, h2, h3]
theorem CellsK.all {rows : List Row} {c : List PV} (h : CellsK rows 4 c) : ∃ n0 f0 n1 f1 n2 f2 n3 f3, c = [.sl n0 f0 (aJ (aG 5 rows)), .sl n1 f1 (aJ (aG 7 rows)), .sl n2 f2 (aJ (aG 8 rows)), .sl n3 f3 (aJ (aG 3 rows))] := by
  obtain ⟨n0, f0, e0⟩ := h.2 0 (by omega)
  obtain ⟨n1, f1, e1⟩ := h.2 1 (by omega)
  obtain ⟨n2, f2, e2⟩ := h.2 2 (by omega)
  obtain ⟨n3, f3, e3⟩ := h.2 3 (by omega)
  exact ⟨n0, f0, n1, f1, n2, f2, n3, f3, eq4 h.1 e0 e1 e2 e3⟩
theorem HasC.all {rows : List Row} {a : Int} {c : List PV} (h : HasC rows a 4 c) : c = [.bool (cW rows a).1, .bool (cW rows a).2.1, .bool (cW rows a).2.2.1, .bool (cW rows a).2.2.2] :=
  eq4 h.1 (h.2 0 (by omega)) (h.2 1 (by omega)) (h.2 2 (by omega)) (h.2 3 (by omega))
theorem zm2 {i : Int} (h0 : 0 ≤ i) (h1 : i < 4) : [PV.int .i64 5, .int .i64 7, .int .i64 8, .int .i64 3].getD i.toNat .unit = .int .i64 (kd i.toNat) := by
  rcases mL h0 h1 with rfl | rfl | rfl | rfl <;> rfl
theorem ze5 (rows : List Row) : ∀ l ∈ l4 rows, Rows.Good l := by
  intro l hl
  simp only [l4, List.mem_cons, List.not_mem_nil, or_false] at hl
  rcases hl with rfl | rfl | rfl | rfl <;> exact kW _ _
theorem zm3 (rows : List Row) {i : Int} (h0 : 0 ≤ i) (h1 : i < 4) : (l4 rows).take (i + 1).toNat = (l4 rows).take i.toNat ++ [k4 rows i.toNat] := by
  rcases mL h0 h1 with rfl | rfl | rfl | rfl <;> rfl
theorem zm4 {rows : List Row} {x : Int} (h : jS (l4 rows) x) : 0 ≤ x ∧ x ≤ 1114112 := by
  rcases h with rfl | ⟨l, hl, s, hs, h⟩
  · omega
  · have := (ze5 rows l hl).2 s hs
    omega
def TrP (rows : List Row) (t : List Int) (i : Int) (s : List (List PV)) : Prop := ∃ P : List (Pc Fl), s = iW P ∧ (P.length : Int) ≤ i ∧ PiecesOK rows (t.take i.toNat) P
theorem zm5 (n f : Bool) (rows : List Row) (hl : rows.length < 1000000) : PCall Try.prog 30 [.sl n f (bE rows)] fun v => TrieF 1114112 (cW rows) v := by
  refine zj8 _ _ _
    (fun a b c d i c0 => a = 5 ∧ b = 7 ∧ c = 8 ∧ d = 3 ∧ 0 ≤ i ∧ i ≤ 4 ∧ CellsK rows i c0) (fun _ _ _ _ i _ => (4 - i).toNat)
    (fun p4 _ _ s29 x30 i _ s => CellsK rows 4 p4 ∧ ∃ t, s29 = aV t ∧ x30 = t.length ∧ t.length < 4000000000 ∧ (∀ x, x ∈ t ↔ jS (l4 rows) x) ∧ 0 ≤ i ∧ i ≤ x30 ∧ TrP rows t i s) (fun _ _ _ _ x30 i _ _ => (x30 - i).toNat)
    (fun p4 a _ _ _ s29 x30 i _ _ _ _ _ _ _ _ _ _ _ _ _ _ s _ p4' a' x11 _ _ s29' x30' i' _ _ s0 _ _ s1 _ _ s2 _ _ s3 k _ s' c1 => p4 = p4' ∧ a = a' ∧ s29 = s29' ∧ x30 = x30' ∧ i = i' ∧ s = s' ∧ s0 = aJ (aG 5 rows) ∧ s1 = aJ (aG 7 rows) ∧ s2 = aJ (aG 8 rows) ∧ s3 = aJ (aG 3 rows) ∧
      0 ≤ k ∧ k ≤ 4 ∧ HasC rows a k c1 ∧ LastOK ((l4 rows).take k.toNat) a x11) (fun _ _ _ _ _ _ _ _ _ _ _ _ _ _ _ _ _ _ _ _ k _ _ _ => (4 - k).toNat) ?_
  unfold wL
  refine ⟨⟨rfl, Nat.le_refl _⟩, _, rfl, _, rfl, _, rfl, _, rfl, ⟨rfl, rfl, rfl, rfl, rfl, Int.le_refl _, by omega, rfl, fun q hq => absurd hq (by omega)⟩, ?_⟩
  rintro _ _ _ _ i c0 ⟨rfl, rfl, rfl, rfl, i0, i1, hck⟩
  have hw : IntKind.i64.wrap (i + 1) = i + 1 := aD (by omega) (by omega)
  refine aI (fun hc => ?_) (fun hc => ?_)
  · simp only [decide_eq_true_eq] at hc
    refine ⟨⟨i0, hc, by simp; omega⟩, kd i.toNat, zm2 i0 hc, ?_⟩
    refine (p29 _ _ rows (kd i.toNat) (by omega)).mono ?_
    rintro _ ⟨n1, f1, rfl⟩
    rw [hw]
    exact ⟨_, _, _, rfl, ⟨i0, hc⟩, ⟨rfl, by rw [hck.1]; omega⟩, rfl, ⟨rfl, rfl, rfl, rfl, by omega, by omega, hck.put i0 hc n1 f1⟩, by dsimp only; omega⟩
  · simp only [decide_eq_true_eq] at hc
    have : i = 4 := by omega
    subst this
    obtain ⟨n0, f0, n1, f1, n2, f2, n3, f3, rfl⟩ := hck.all
    refine ⟨⟨⟨by simp, by simp⟩, rfl⟩, ?_⟩
    refine (zmx false true [(n0, f0, aG 5 rows), (n1, f1, aG 7 rows), (n2, f2, aG 8 rows), (n3, f3, aG 3 rows)] (by simp) (fun x hx => ?_)).mono ?_
    · simp only [List.mem_cons, List.not_mem_nil, or_false] at hx
      rcases hx with rfl | rfl | rfl | rfl <;> exact kW _ _
    rintro _ ⟨n4, f4, t, rfl, htl, ht⟩
    refine ⟨_, _, _, rfl, ⟨rfl, hck, t, rfl, by rw [g9], htl, ht, Int.le_refl _, by rw [g9]; omega, [], rfl, Int.le_refl _, PiecesOK.nil rows⟩, ?_⟩
    clear ht htl
    rintro p4 n29 f29 _ _ i m _ ⟨hck, t, rfl, rfl, htl, ht, i0, i1, P, rfl, hPl, hP⟩
    have hw : IntKind.i64.wrap (i + 1) = i + 1 := aD (by omega) (by omega)
    refine aI (fun hc => ?_) (fun hc => ?_)
    · simp only [decide_eq_true_eq] at hc
      have hi : i.toNat < t.length := by omega
      have hn : (i + 1).toNat = i.toNat + 1 := by omega
      have hgd : (aV t).getD i.toNat [] = [.int .i64 t[i.toNat]] := cC hi
      have hts : t.take (i.toNat + 1) = t.take i.toNat ++ [t[i.toNat]] := cZ hi
      have hcut := (ht t[i.toNat]).1 (List.getElem_mem hi)
      have hrng := zm4 hcut
      obtain ⟨n0, f0, n1, f1, n2, f2, n3, f3, rfl⟩ := hck.all
      refine ⟨bM kZ i0 (by omega), t[i.toNat], by rw [hgd]; rfl, _, _, _, rfl, _, _, _, rfl, _, _, _, rfl, _, _, _, rfl,
        ⟨rfl, rfl, rfl, rfl, rfl, rfl, rfl, rfl, rfl, rfl, rfl, Int.le_refl _, by omega, ⟨rfl, fun q hq => absurd hq (by omega)⟩, LastOK.nil _⟩, ?_⟩
      generalize t[i.toNat] = a at *
      rintro _ _ x11 n29 f29 _ _ _ n0 f0 _ n1 f1 _ n2 f2 _ n3 f3 _ k m' _ c1 ⟨rfl, rfl, rfl, rfl, rfl, rfl, rfl, rfl, rfl, rfl, k0, k1, hhas, hlast⟩
      have hwk : IntKind.i64.wrap (k + 1) = k + 1 := aD (by omega) (by omega)
      refine aI (fun hc2 => ?_) (fun hc2 => ?_)
      · simp only [decide_eq_true_eq] at hc2
        obtain ⟨n4, f4, hat⟩ := at4 n0 f0 n1 f1 n2 f2 n3 f3 (aG 5 rows) (aG 7 rows) (aG 8 rows) (aG 3 rows) k0 hc2
        rw [zm1 rows k0 hc2] at hat
        refine ⟨⟨k0, hc2, by simp; omega⟩, n4, f4, _, hat, ?_⟩
        have hwa : IntKind.i32.wrap a = a := dW (by omega) (by omega)
        rw [hwa]
        refine (p34 _ _ (k4 rows k.toNat) a (kW _ _) (by omega)).mono ?_
        rintro _ ⟨x, q, rfl, hq1, hq2⟩
        have htk := zm3 rows k0 hc2
        have hmu : (4 - (k + 1)).toNat < (4 - k).toNat := by omega
        refine ⟨_, rfl, rfl, _, rfl, _, rfl, rfl, x.fr, rfl, x.to, rfl, x.a, rfl, x.b, rfl, _, rfl, q, rfl, ?_⟩
        rw [hwk]
        have hsz : ([PV.bool true].length : Nat) = 1 ∧ 0 + k.toNat * 1 + 1 ≤ c1.length := ⟨rfl, by rw [hhas.1]; omega⟩
        cases q with
        | true =>
          obtain ⟨hx1, hx2⟩ := hq1 rfl
          have hv : (x.a == 1) = eK rows (kd k.toNat) a := by
            unfold eK; rw [kX hx1 hx2]; rfl
          refine bN rfl ⟨⟨k0, hc2⟩, hsz, bN rfl ⟨rfl, ⟨rfl, rfl, rfl, rfl, rfl, rfl, rfl, rfl, rfl, rfl, by omega, by omega, hhas.put k0 hc2 hv, ?_⟩, hmu⟩⟩
          rw [htk]
          have := hlast.some hx1 hx2 (kW _ _)
          exact this
        | false =>
          obtain ⟨_, hno⟩ := hq2 rfl
          have hv : false = eK rows (kd k.toNat) a := by
            unfold eK; rw [sE hno]
          refine bO (by simp) ⟨⟨k0, hc2⟩, hsz, bO (by simp) ⟨rfl, ⟨rfl, rfl, rfl, rfl, rfl, rfl, rfl, rfl, rfl, rfl, by omega, by omega, hhas.put k0 hc2 hv, ?_⟩, hmu⟩⟩
          rw [htk]
          exact hlast.none hno
      · simp only [decide_eq_true_eq] at hc2
        have : k = 4 := by omega
        subst this
        have hc1 := hhas.all
        subst hc1
        have hmu : ((t.length : Int) - (i + 1)).toNat < ((t.length : Int) - i).toNat := by omega
        refine ⟨_, rfl, _, rfl, _, rfl, _, rfl, ?_⟩
        rw [hw]
        refine aI (fun hc3 => ?_) (fun hc3 => ?_)
        · refine ⟨_, _, _, rfl, _, _, _, rfl, _, _, _, rfl, _, _, _, rfl, ⟨by omega, by omega⟩, _, rfl, ⟨by omega, by omega⟩, _, rfl, ⟨by omega, by omega⟩, _, rfl, ⟨by omega, by omega⟩, _, rfl, ?_⟩
          refine (zm0 a x11 _ _ _ _ _ _ _ _ (aG 5 rows) (aG 7 rows) (aG 8 rows) (aG 3 rows) (ze5 rows)).mono ?_
          rintro _ rfl
          refine ⟨_, rfl, ⟨fun e he => by simp at he; subst he; rfl, by simp [iW]; omega⟩, rfl, ⟨hck, t, rfl, rfl, htl, ht, by omega, by omega, P ++ [⟨a, c9 a x11 (l4 rows).flatten, cW rows a⟩], ?_, by simp; omega, ?_⟩, hmu⟩
          · unfold iW; rw [List.map_append]; rfl
          · rw [hn, hts]; exact hP.put hrng.1 hrng.2 hlast
        · refine ⟨rfl, ⟨hck, t, rfl, rfl, htl, ht, by omega, by omega, P, rfl, by omega, ?_⟩, hmu⟩
          rw [hn, hts]
          refine hP.skip ?_
          revert hc3
          generalize cW rows a = fl
          obtain ⟨b0, b1, b2, b3⟩ := fl
          cases b0 <;> cases b1 <;> cases b2 <;> cases b3 <;> simp
    · simp only [decide_eq_true_eq] at hc
      rw [List.take_of_length_le (by omega)] at hP
      refine (zmi 1114112 (false, false, false, false) _ _ P (by omega) (fun p hp => ?_) (by omega) (by omega)).mono fun v hv => hv.congr fun i h0 h1 => hP.val ht h0 (by omega)
      have := (hP.sound p hp).1
      omega
end Go.Eng



namespace Go.Eng.Rows
open Go Go.Eng Go.Eng.Trie
theorem ze6 (k v p : PV) (M : List (PV × PV)) : cJ (bC k M) p (aP k v M) = aP k p M ∧ bC k M < (aP k v M).length := by
  unfold cJ bC aP
  cases h : bB k M with
  | none => simp
  | some j =>
    have := kK h
    simp [this]
def dA (rows : List Row) : Prop := ∀ x ∈ rows, x.kind = 2 → (1 ≤ x.a ∧ x.a ≤ 1114111) ∧ 0 ≤ x.b ∧ x.b ≤ 1114111
theorem mM {rows : List Row} {k r : Int} {p : Int × Int} (h : bU rows k r = some p) : ∃ x ∈ rows, x.kind = k ∧ x.a = p.1 ∧ x.b = p.2 ∧ x.fr ≤ r ∧ r ≤ x.to ∧ 0 ≤ r ∧ r ≤ 1114111 := by
  unfold bU at h
  split at h
  · rename_i hr
    unfold first at h
    cases hf : rows.find? (fun x => x.has k r) with
    | none => rw [hf] at h; cases h
    | some x =>
      rw [hf] at h; cases h
      have h1 := List.mem_of_find?_eq_some hf
      have h2 := List.find?_some hf
      simp only [Row.has, Bool.and_eq_true, decide_eq_true_eq] at h2
      exact ⟨x, h1, h2.1, rfl, rfl, h2.2.1, h2.2.2, hr.1, hr.2⟩
  · cases h
theorem mN {rows : List Row} (hp : dA rows) (r : Int) : (0 ≤ (aF rows r).1 ∧ (aF rows r).1 ≤ 1114111) ∧ 0 ≤ (aF rows r).2 ∧ (aF rows r).2 ≤ 1114111 := by
  unfold aF
  cases h : bU rows 2 r with
  | none => simp
  | some p =>
    obtain ⟨x, h1, h2, h3, h4, _⟩ := mM h
    have := hp x h1 h2
    simp only; omega
theorem zm6 {rows : List Row} (hp : dA rows) {r : Int} {p : Int × Int} (h : bU rows 2 r = some p) : aF rows r ≠ (0, 0) := by
  unfold aF
  rw [h]
  obtain ⟨x, h1, h2, h3, h4, _⟩ := mM h
  have := hp x h1 h2
  intro e
  simp only at e
  rw [e] at h3
  simp only at h3
  omega
theorem zm7 {rows : List Row} {r : Int} {s : Sp} (hs : s ∈ aG 2 rows) (h : s.has r) : aF rows r = (s.a, s.b) := by
  unfold aF; rw [kX hs h]
theorem zm8 {rows : List Row} {r : Int} (h : aF rows r ≠ (0, 0)) : ∃ s ∈ aG 2 rows, s.has r := by
  cases hf : bU rows 2 r with
  | none => unfold aF at h; rw [hf] at h; exact absurd rfl h
  | some p => obtain ⟨s, h1, h2, _⟩ := xQ hf; exact ⟨s, h1, h2⟩
theorem ze7 {rows : List Row} (hp : dA rows) {s : Sp} (hs : s ∈ aG 2 rows) : (1 ≤ s.a ∧ s.a ≤ 1114111) ∧ 0 ≤ s.b ∧ s.b ≤ 1114111 := by
  have hg := (kW 2 rows).2 s hs
  obtain ⟨x, h1, h2, h3, h4, _⟩ := mM (kX hs (r := s.fr) ⟨Int.le_refl _, hg.2.1⟩)
  have := hp x h1 h2
  simp only at h3 h4
  omega
def lH (rows : List Row) (r : Int) : Prop := aF rows r ≠ (0, 0) ∧ fR rows r = false
structure MadeOK (rows : List Row) (D : Int → Prop) (made : List ((Int × Int) × Int)) (sec : List (Int × Bool)) : Prop where
  m1 : ∀ p r, bQ p made = some r → D r ∧ lH rows r ∧ aF rows r = p ∧ ∀ r', D r' → lH rows r' → aF rows r' = p → r ≤ r'
  m2 : ∀ p, bQ p made = none → ∀ r', D r' → lH rows r' → aF rows r' ≠ p
  s1 : ∀ b v, bQ b sec = some v → v = true ∧ ∃ r, D r ∧ lH rows r ∧ (aF rows r).2 = b
  s2 : ∀ b, bQ b sec = none → ∀ r', D r' → lH rows r' → (aF rows r').2 ≠ b
theorem MadeOK.nil (rows : List Row) : MadeOK rows (fun _ => False) [] [] := ⟨fun p r h => (by cases h), fun p _ r' h => h.elim, fun b v h => (by cases h), fun b _ r' h => h.elim⟩
theorem MadeOK.same {rows : List Row} {D D' : Int → Prop} {made : List ((Int × Int) × Int)} {sec : List (Int × Bool)} (h : MadeOK rows D made sec) (hd : ∀ r, lH rows r → (D r ↔ D' r)) : MadeOK rows D' made sec :=
  ⟨fun p r hr => by
    obtain ⟨h1, h2, h3, h4⟩ := h.m1 p r hr
    exact ⟨(hd r h2).1 h1, h2, h3, fun r' q1 q2 q3 => h4 r' ((hd r' q2).2 q1) q2 q3⟩,
  fun p hr r' q1 q2 => h.m2 p hr r' ((hd r' q2).2 q1) q2,
  fun b v hb => by
    obtain ⟨h1, r, h2, h3, h4⟩ := h.s1 b v hb
    exact ⟨h1, r, (hd r h3).1 h2, h3, h4⟩,
  fun b hb r' q1 q2 => h.s2 b hb r' ((hd r' q2).2 q1) q2⟩
theorem MadeOK.known {rows : List Row} {D : Int → Prop} {made : List ((Int × Int) × Int)} {sec : List (Int × Bool)} (h : MadeOK rows D made sec) {x r0 : Int} (hx : ∀ r, D r → r < x) (hk : bQ (aF rows x) made = some r0) : MadeOK rows (fun r => D r ∨ r = x) made sec := by
  obtain ⟨k1, k2, k3, k4⟩ := h.m1 _ _ hk
  refine ⟨fun p r hr => ?_, fun p hr r' q1 q2 => ?_, fun b v hb => ?_, fun b hb r' q1 q2 => ?_⟩
  · obtain ⟨h1, h2, h3, h4⟩ := h.m1 p r hr
    refine ⟨.inl h1, h2, h3, fun r' q1 q2 q3 => ?_⟩
    rcases q1 with q1 | rfl
    · exact h4 r' q1 q2 q3
    · exact Int.le_of_lt (hx r h1)
  · rcases q1 with q1 | rfl
    · exact h.m2 p hr r' q1 q2
    · intro e; rw [← e, hk] at hr; cases hr
  · obtain ⟨h1, r, h2, h3, h4⟩ := h.s1 b v hb
    exact ⟨h1, r, .inl h2, h3, h4⟩
  · rcases q1 with q1 | rfl
    · exact h.s2 b hb r' q1 q2
    · intro e
      exact h.s2 b hb r0 k1 k2 (by rw [k3, e])
theorem MadeOK.out {rows : List Row} {D : Int → Prop} {made : List ((Int × Int) × Int)} {sec : List (Int × Bool)} (h : MadeOK rows D made sec) {x : Int} (ho : fR rows x = true) : MadeOK rows (fun r => D r ∨ r = x) made sec :=
  h.same fun r hr => ⟨.inl, fun hd => hd.elim id fun e => by subst e; have := hr.2; rw [ho] at this; cases this⟩
theorem MadeOK.put {rows : List Row} {D : Int → Prop} {made : List ((Int × Int) × Int)} {sec : List (Int × Bool)} (h : MadeOK rows D made sec) {x : Int} (hx : ∀ r, D r → r < x) (hn : bQ (aF rows x) made = none) (hg : lH rows x) :
    MadeOK rows (fun r => D r ∨ r = x) (bJ (aF rows x) x made) (bJ (aF rows x).2 true sec) := by
  refine ⟨fun p r hr => ?_, fun p hr r' q1 q2 => ?_, fun b v hb => ?_, fun b hb r' q1 q2 => ?_⟩
  · rw [kR] at hr
    split at hr
    · rename_i hp; cases hr; subst hp
      refine ⟨.inr rfl, hg, rfl, fun r' q1 q2 q3 => ?_⟩
      rcases q1 with q1 | rfl
      · exact absurd q3 (h.m2 _ hn r' q1 q2)
      · exact Int.le_refl _
    · rename_i hp
      obtain ⟨h1, h2, h3, h4⟩ := h.m1 p r hr
      refine ⟨.inl h1, h2, h3, fun r' q1 q2 q3 => ?_⟩
      rcases q1 with q1 | rfl
      · exact h4 r' q1 q2 q3
      · exact Int.le_of_lt (hx r h1)
  · rw [kR] at hr
    split at hr
    · cases hr
    · rename_i hp
      rcases q1 with q1 | rfl
      · exact h.m2 p hr r' q1 q2
      · exact fun e => hp e.symm
  · rw [kR] at hb
    split at hb
    · rename_i hp; cases hb; exact ⟨rfl, x, .inr rfl, hg, hp.symm⟩
    · obtain ⟨h1, r, h2, h3, h4⟩ := h.s1 b v hb
      exact ⟨h1, r, .inl h2, h3, h4⟩
  · rw [kR] at hb
    split at hb
    · cases hb
    · rename_i hp
      rcases q1 with q1 | rfl
      · exact h.s2 b hb r' q1 q2
      · exact fun e => hp e.symm
end Go.Eng.Rows



namespace Go.Eng
open Go Go.Proofs Go.Eng.Rows Go.Eng.Trie
structure iY (rows : List Row) (tc tg tj tf tp : PV) : Prop where
  c : TrieI 1114112 (aH rows 1) tc
  g : TrieI 1114112 (aH rows 4) tg
  j : TrieI 1114112 (aH rows 6) tj
  f : TrieF 1114112 (cW rows) tf
  p : TrieP 1114112 (aF rows) tp
theorem TrieI.ptr {sz : Int} {F : Int → Int} {v : PV} (h : TrieI sz F v) : ∃ ps, v = .ptr ps := by
  obtain ⟨n, f, n2, f2, idx, blk, rfl, _⟩ := h; exact ⟨_, rfl⟩
theorem TrieF.ptr {sz : Int} {F : Int → Fl} {v : PV} (h : TrieF sz F v) : ∃ ps, v = .ptr ps := by
  obtain ⟨n, f, n2, f2, idx, blk, rfl, _⟩ := h; exact ⟨_, rfl⟩
theorem TrieP.ptr {sz : Int} {F : Int → Int × Int} {v : PV} (h : TrieP sz F v) : ∃ ps, v = .ptr ps := by
  obtain ⟨n, f, n2, f2, idx, blk, rfl, _⟩ := h; exact ⟨_, rfl⟩
theorem y7 {rows : List Row} {k r : Int} (h : ¬ (0 ≤ r ∧ r < 1114112)) : bU rows k r = none := by
  unfold bU; rw [if_neg (by omega)]
theorem zm9 (rows : List Row) (k r : Int) : (if 0 ≤ r ∧ r < 1114112 then aH rows k r else 0) = aH rows k r := by
  split
  · rfl
  · rename_i h; unfold aH; rw [y7 h]
theorem ze8 (rows : List Row) (r : Int) : (if 0 ≤ r ∧ r < 1114112 then aF rows r else (0, 0)) = aF rows r := by
  split
  · rfl
  · rename_i h; unfold aF; rw [y7 h]
theorem zna (rows : List Row) (r : Int) : (if 0 ≤ r ∧ r < 1114112 then cW rows r else (false, false, false, false)) = cW rows r := by
  split
  · rfl
  · rename_i h; unfold cW eK; simp only [y7 h]
section
variable {rows : List Row} {tc tg tj tf tp : PV} (M S : List (PV × PV))
theorem y8 (ht : iY rows tc tg tj tf tp) {r : Int} (hr : -2147483648 ≤ r ∧ r ≤ 2147483647) : PCall Try.prog 45 [.ptr [tc, tg, tj, tf, tp, .mp M, .mp S], .int .i32 r] fun v => v = .int .i64 (aH rows 1 r) := by
  refine zj9 _ _ _ _ _ _ _ _ ?_
  unfold wM
  obtain ⟨ps, rfl⟩ := ht.c.ptr
  refine .inl ⟨ps, rfl, ?_⟩
  have hw : IntKind.i64.wrap r = r := aD (by omega) (by omega)
  rw [hw]
  refine (zlv ht.c r (by omega)).mono ?_
  rintro _ rfl
  exact ⟨_, rfl, by rw [zm9]⟩
theorem pB (ht : iY rows tc tg tj tf tp) {r : Int} (hr : -2147483648 ≤ r ∧ r ≤ 2147483647) : PCall Try.prog 68 [.ptr [tc, tg, tj, tf, tp, .mp M, .mp S], .int .i32 r] fun v =>
    v = .tup [.int .i32 (aF rows r).1, .int .i32 (aF rows r).2, .bool (!decide (aF rows r = (0, 0)))] := by
  refine zka _ _ _ _ _ _ _ _ ?_
  unfold wN
  obtain ⟨ps, rfl⟩ := ht.p.ptr
  refine .inl ⟨ps, rfl, ?_⟩
  have hw : IntKind.i64.wrap r = r := aD (by omega) (by omega)
  rw [hw]
  refine (p84 ht.p r (by omega)).mono ?_
  rintro _ rfl
  rw [ze8]
  refine ⟨_, rfl, rfl, _, rfl, _, rfl, ?_⟩
  generalize aF rows r = p
  obtain ⟨a, b⟩ := p
  simp only [cond_false, Bool.and_true]
  congr 4
  by_cases h1 : a = 0 <;> by_cases h2 : b = 0 <;> simp [h1, h2]
theorem znb (hp : dA rows) (ht : iY rows tc tg tj tf tp) {r : Int} (hr : -2147483648 ≤ r ∧ r ≤ 2147483647) : PCall Try.prog 34 [.ptr [tc, tg, tj, tf, tp, .mp M, .mp S], .int .i32 r] fun v => v = .bool (fR rows r) := by
  refine zkb _ _ _ _ _ _ _ _ ?_
  unfold wO
  refine (pB M S ht hr).mono ?_
  rintro _ rfl
  have hrng := mN hp r
  have hf : eK rows 3 r = (cW rows r).2.2.2 := rfl
  refine ⟨_, rfl, rfl, _, rfl, _, rfl, _, rfl, _, rfl, _, rfl, _, rfl, ?_⟩
  have hw : IntKind.i64.wrap r = r := aD (by omega) (by omega)
  rw [hw]
  refine aI (fun h1 => aI (fun h2 => ?_) (fun h2 => ?_)) (fun h1 => ?_)
  · simp only [Bool.not_eq_true', decide_eq_false_iff_not] at h1
    simp only [beq_iff_eq] at h2
    unfold fR; simp [h1, h2]
  · simp only [Bool.not_eq_true', decide_eq_false_iff_not] at h1
    simp only [beq_iff_eq] at h2
    obtain ⟨ps, hps⟩ := ht.f.ptr
    refine .inl ⟨ps, by rw [hps], ?_⟩
    rw [← hps]
    refine (zma ht.f r (by omega)).mono ?_
    rintro _ rfl
    rw [zna]
    refine ⟨_, rfl, rfl, _, rfl, _, rfl, _, rfl, _, rfl, ?_⟩
    refine aI (fun h3 => ?_) (fun h3 => ?_)
    · rw [← hf] at h3
      unfold fR; simp [h1, h2, h3]
    · rw [← hf] at h3
      refine (y8 M S ht hr).mono ?_
      rintro _ rfl
      refine ⟨_, rfl, ?_⟩
      refine aI (fun h4 => ?_) (fun h4 => ?_)
      · simp only [bne_iff_ne, ne_eq] at h4
        unfold fR; simp [h1, h2, h4]
      · simp only [bne_iff_ne, ne_eq, Decidable.not_not] at h4
        refine (y8 M S ht (by omega)).mono ?_
        rintro _ rfl
        refine ⟨_, rfl, ?_⟩
        unfold fR
        simp only [Bool.not_eq_true] at h3
        simp only [h1, h2, h3, h4, decide_false, Bool.not_false, Bool.true_and, Bool.false_or, decide_true, Bool.not_true]
        rfl
  · simp only [Bool.not_eq_true', decide_eq_false_iff_not, Decidable.not_not] at h1
    unfold fR; simp [h1]
end
abbrev dZ (M : List ((Int × Int) × Int)) : List (PV × PV) := bP (fun p => .agg (encP p)) (fun n => .int .i32 n) M
abbrev gG (S : List (Int × Bool)) : List (PV × PV) := bP (fun n => .int .i32 n) (fun b => .bool b) S
theorem y9 (p : Int × Int) : aX Try.prog 62 (.agg (encP p)) = true := yY p
theorem zA (made : List ((Int × Int) × Int)) : cA Try.prog 62 (dZ made) := by
  unfold dZ; exact EP.valsOk yW yX made
theorem ze9 (made : List ((Int × Int) × Int)) (p : Int × Int) : bS (.agg (encP p)) (dZ made) = (bQ p made).map fun n => .int .i32 n := kQ (ek := fun p => PV.agg (encP p)) (ev := fun n => PV.int .i32 n) EP.valEq p made
end Go.Eng



namespace Go.Eng
open Go Go.Proofs Go.Eng.Rows Go.Eng.Trie
def lI (rows : List Row) (v : PV) : Prop := ∃ tc tg tj tf tp made sec, v = .ptr [tc, tg, tj, tf, tp, .mp (dZ made), .mp (gG sec)] ∧ iY rows tc tg tj tf tp ∧ MadeOK rows (fun r => 0 ≤ r ∧ r ≤ 1114111) made sec
def toP (s : Sp) : Pc (Int × Int) := ⟨s.fr, s.to, (s.a, s.b)⟩
theorem pC {v : PV} (h : ∃ ps, v = .ptr ps) : dS v = true := by obtain ⟨ps, rfl⟩ := h; rfl
def lJ (l : List Sp) (r : Int) : Prop := ∃ s ∈ l, s.has r
theorem znc (n f : Bool) (rows : List Row) (hl : rows.length < 1000000) (hp : dA rows) : PCall Try.prog 11 [.sl n f (bE rows)] (lI rows) := by
  have hg := kW 2 rows
  have hlen := hg.len
  refine zkc _ _ _
    (fun _ _ s5 _ _ s28 x29 i h0 h1 h2 h3 _ s m2 m3 => s5 = aJ (aG 2 rows) ∧ s28 = aJ (aG 2 rows) ∧ x29 = (aG 2 rows).length ∧ 0 ≤ i ∧ i ≤ x29 ∧ TrieI 1114112 (aH rows 1) h0 ∧ TrieI 1114112 (aH rows 4) h1 ∧ TrieI 1114112 (aH rows 6) h2 ∧ TrieF 1114112 (cW rows) h3 ∧
      s = iX (((aG 2 rows).take i.toNat).map toP) ∧ m2 = [] ∧ m3 = []) (fun _ _ _ _ _ _ x29 i _ _ _ _ _ _ _ _ => (x29 - i).toNat)
    (fun _ _ s5 x29 i h0 h1 h2 h3 h4 m2 m3 => s5 = aJ (aG 2 rows) ∧ x29 = (aG 2 rows).length ∧ 0 ≤ i ∧ i ≤ x29 ∧ iY rows h0 h1 h2 h3 h4 ∧ ∃ made sec, m2 = dZ made ∧ m3 = gG sec ∧ MadeOK rows (lJ ((aG 2 rows).take i.toNat)) made sec) (fun _ _ _ x29 i _ _ _ _ _ _ _ => (x29 - i).toNat)
    (fun _ _ _ _ _ i _ _ _ _ _ _ _ _ _ _ _ r _ _ s5 x29 i' h0 h1 h2 h3 h4 a b c d m2 m3 => s5 = aJ (aG 2 rows) ∧ x29 = (aG 2 rows).length ∧ i = i' ∧ 0 ≤ i ∧ iY rows h0 h1 h2 h3 h4 ∧ ∃ hi : i.toNat < (aG 2 rows).length, a = (aG 2 rows)[i.toNat].fr ∧ b = (aG 2 rows)[i.toNat].to ∧ a ≤ r ∧ r ≤ b + 1 ∧
      ∃ made sec, m2 = dZ made ∧ m3 = gG sec ∧ MadeOK rows (fun x => lJ ((aG 2 rows).take i.toNat) x ∨ (a ≤ x ∧ x < r)) made sec) (fun r _ _ _ _ _ _ _ _ _ _ _ b _ _ _ _ => (b + 1 - r).toNat) ?_
  unfold wR
  refine (y6 _ _ rows 1 hl).mono fun v hv => (y6 _ _ rows 4 hl).mono fun v1 hv1 => (y6 _ _ rows 6 hl).mono fun v2 hv2 => (zm5 _ _ rows hl).mono fun v3 hv3 => ⟨pC hv.ptr, pC hv1.ptr, pC hv2.ptr, pC hv3.ptr, ?_⟩
  refine (p29 _ _ rows 2 (by omega)).mono ?_
  rintro _ ⟨n1, f1, rfl⟩
  refine ⟨_, _, _, rfl, ⟨rfl, rfl, rfl, by rw [dY], Int.le_refl _, by rw [dY]; omega, hv, hv1, hv2, hv3, rfl, rfl, rfl⟩, ?_⟩
  clear hv hv1 hv2 hv3
  rintro n5 f5 _ n28 f28 _ _ i v v1 v2 v3 m _ _ _ ⟨rfl, rfl, rfl, i0, i1, hv, hv1, hv2, hv3, rfl, rfl, rfl⟩
  have hw : IntKind.i64.wrap (i + 1) = i + 1 := aD (by omega) (by omega)
  refine aI (fun hc => ?_) (fun hc => ?_)
  · simp only [decide_eq_true_eq] at hc
    have hi : i.toNat < (aG 2 rows).length := by omega
    have hn : (i + 1).toNat = i.toNat + 1 := by omega
    have hgd : (aJ (aG 2 rows)).getD i.toNat [] = cV (aG 2 rows)[i.toNat] := cC hi
    have hix : aO (aJ (aG 2 rows)) i 4 := bM fQ i0 (by omega)
    have hsr := ze7 hp (List.getElem_mem hi)
    refine ⟨hix, (aG 2 rows)[i.toNat].fr, by rw [hgd]; rfl, (aG 2 rows)[i.toNat].to, by rw [hgd]; rfl, (aG 2 rows)[i.toNat].a, by rw [hgd]; rfl, (aG 2 rows)[i.toNat].b, by rw [hgd]; rfl, ⟨fun e he => by simp at he; subst he; rfl, by simp [iX]; omega⟩, rfl, ?_⟩
    have w1 : IntKind.i32.wrap (aG 2 rows)[i.toNat].a = (aG 2 rows)[i.toNat].a := dW (by omega) (by omega)
    have w2 : IntKind.i32.wrap (aG 2 rows)[i.toNat].b = (aG 2 rows)[i.toNat].b := dW (by omega) (by omega)
    rw [hw, w1, w2]
    refine ⟨⟨rfl, rfl, rfl, by omega, by omega, hv, hv1, hv2, hv3, ?_, rfl, rfl⟩, by dsimp only; omega⟩
    rw [hn, cZ hi, List.map_append]
    unfold iX
    rw [List.map_append]
    rfl
  · simp only [decide_eq_true_eq] at hc
    rw [List.take_of_length_le (by omega)]
    refine (p83 1114112 (0, 0) _ _ ((aG 2 rows).map toP) (by simp; omega) (fun p hp' => ?_) (by omega) (by omega)).mono fun v4 hv4 => ?_
    · obtain ⟨s, hs, rfl⟩ := List.mem_map.1 hp'
      have := hg.2 s hs
      simp only [toP]; omega
    have hv4 : TrieP 1114112 (aF rows) v4 := hv4.congr fun i h0 h1 => zlm rows i
    refine ⟨pC hv4.ptr, ⟨rfl, rfl, by rw [dY], Int.le_refl _, by rw [dY]; omega, ⟨hv, hv1, hv2, hv3, hv4⟩, [], [], rfl, rfl, (MadeOK.nil rows).same fun r hr => ⟨False.elim, fun ⟨s, hs, _⟩ => by cases hs⟩⟩, ?_⟩
    clear hv hv1 hv2 hv3 hv4 hw hc i0 i1
    rintro n5 f5 _ _ i v v1 v2 v3 v4 _ _ ⟨rfl, rfl, i0, i1, htri, made, sec, rfl, rfl, hm⟩
    have hw : IntKind.i64.wrap (i + 1) = i + 1 := aD (by omega) (by omega)
    refine aI (fun hc => ?_) (fun hc => ?_)
    · simp only [decide_eq_true_eq] at hc
      have hi : i.toNat < (aG 2 rows).length := by omega
      have hn : (i + 1).toNat = i.toNat + 1 := by omega
      have hgd : (aJ (aG 2 rows)).getD i.toNat [] = cV (aG 2 rows)[i.toNat] := cC hi
      have hix : aO (aJ (aG 2 rows)) i 4 := bM fQ i0 (by omega)
      have hsr := hg.2 _ (List.getElem_mem hi)
      have hts : (aG 2 rows).take (i.toNat + 1) = (aG 2 rows).take i.toNat ++ [(aG 2 rows)[i.toNat]] := cZ hi
      have hlt : ∀ x, lJ ((aG 2 rows).take i.toNat) x → x < (aG 2 rows)[i.toNat].fr := fun x ⟨s, hs, hx⟩ => by
        obtain ⟨j, hj, rfl⟩ := List.getElem_of_mem hs
        rw [List.length_take] at hj
        rw [List.getElem_take] at hx
        have := (List.pairwise_iff_getElem.1 hg.1) j i.toNat (by omega) hi (by omega)
        unfold Sp.has at hx
        omega
      have w1 : IntKind.i32.wrap (aG 2 rows)[i.toNat].fr = (aG 2 rows)[i.toNat].fr := dW (by omega) (by omega)
      refine ⟨hix, (aG 2 rows)[i.toNat].fr, by rw [hgd]; rfl, (aG 2 rows)[i.toNat].to, by rw [hgd]; rfl, (aG 2 rows)[i.toNat].a, by rw [hgd]; rfl, (aG 2 rows)[i.toNat].b, by rw [hgd]; rfl, ?_⟩
      rw [w1]
      refine ⟨⟨rfl, rfl, rfl, rfl, i0, htri, hi, rfl, rfl, Int.le_refl _, by omega, made, sec, rfl, rfl, hm.same fun r hr => ⟨.inl, fun h => h.elim id fun h => by omega⟩⟩, ?_⟩
      clear htri hm
      rintro r n5 f5 _ _ _ v v1 v2 v3 v4 _ _ c d _ _ ⟨rfl, rfl, rfl, _, htri, _, rfl, rfl, r0, r1, made, sec, rfl, rfl, hm⟩
      have hwr : IntKind.i64.wrap r = r := aD (by omega) (by omega)
      have hwr1 : IntKind.i32.wrap (r + 1) = r + 1 := dW (by omega) (by omega)
      rw [hwr]
      refine aI (fun hc2 => ?_) (fun hc2 => ?_)
      · simp only [decide_eq_true_eq] at hc2
        have hhas : (aG 2 rows)[i.toNat].has r := ⟨r0, hc2⟩
        have hpr := zm7 (List.getElem_mem hi) hhas
        have hpne : aF rows r ≠ (0, 0) := by
          have := ze7 hp (List.getElem_mem hi)
          rw [hpr]; intro e; injection e with e1 e2; omega
        have hmax : ∀ x, (lJ ((aG 2 rows).take i.toNat) x ∨ ((aG 2 rows)[i.toNat].fr ≤ x ∧ x < r)) → x < r := fun x hx => by
          rcases hx with hx | hx
          · have := hlt x hx; omega
          · exact hx.2
        have hD : ∀ x, ((lJ ((aG 2 rows).take i.toNat) x ∨ ((aG 2 rows)[i.toNat].fr ≤ x ∧ x < r)) ∨ x = r) ↔ (lJ ((aG 2 rows).take i.toNat) x ∨ ((aG 2 rows)[i.toNat].fr ≤ x ∧ x < r + 1)) := fun x => by
          constructor
          · rintro ((h | h) | h)
            · exact .inl h
            · exact .inr (by omega)
            · exact .inr (by omega)
          · rintro (h | h)
            · exact .inl (.inl h)
            · by_cases e : x = r
              · exact .inr e
              · exact .inl (.inr (by omega))
        have hmu : ((aG 2 rows)[i.toNat].to + 1 - (r + 1)).toNat < ((aG 2 rows)[i.toNat].to + 1 - r).toNat := by omega
        refine (p84 htri.p r (by omega)).mono ?_
        rintro _ rfl
        rw [ze8]
        refine ⟨_, rfl, rfl, _, rfl, _, rfl, zA made, y9 (aF rows r), fun v7 hv7 => ?_, fun hv7 => ?_⟩
        · have hv7 : bS (.agg (encP (aF rows r))) (dZ made) = some v7 := hv7
          rw [ze9] at hv7
          cases hk : bQ (aF rows r) made with
          | none => rw [hk] at hv7; cases hv7
          | some q =>
            rw [hk] at hv7; cases hv7
            refine ⟨q, rfl, ?_⟩
            rw [hwr1]
            exact ⟨rfl, ⟨rfl, rfl, rfl, i0, htri, hi, rfl, rfl, by omega, by omega, made, sec, rfl, rfl, (hm.known hmax hk).same fun x hx => hD x⟩, hmu⟩
        · have hv7 : bS (.agg (encP (aF rows r))) (dZ made) = none := hv7
          rw [ze9] at hv7
          have hk : bQ (aF rows r) made = none := by cases h : bQ (aF rows r) made with | none => rfl | some q => rw [h] at hv7; cases hv7
          refine (znb _ _ hp htri (by omega)).mono ?_
          rintro _ rfl
          refine ⟨_, rfl, rfl, ?_⟩
          rw [hwr1]
          refine aI (fun ho => ?_) (fun ho => ?_)
          · simp only [Bool.not_eq_true'] at ho
            have hm' := (hm.put hmax hk ⟨hpne, ho⟩).same fun x hx => hD x
            obtain ⟨e1, e2⟩ := ze6 (.agg (encP (aF rows r))) (bI (.agg (encP (aF rows r))) (.int .i32 0) (dZ made)) (.int .i32 r) (dZ made)
            obtain ⟨e3, e4⟩ := ze6 (.int .i32 (aF rows r).2) (bI (.int .i32 (aF rows r).2) (.bool false) (gG sec)) (.bool true) (gG sec)
            have e1 := e1.trans (gW (ek := fun p => PV.agg (encP p)) (ev := fun n => PV.int .i32 n) EP.valEq (aF rows r) r made)
            have e3 := e3.trans (gW (ek := fun n => PV.int .i32 n) (ev := fun b => PV.bool b) (oO .i32) (aF rows r).2 true sec)
            have b1 : (0 : Int) ≤ (bC (.agg (encP (aF rows r))) (dZ made) : Nat) ∧ ((bC (.agg (encP (aF rows r))) (dZ made) : Nat) : Int).toNat < (aP (.agg (encP (aF rows r))) (bI (.agg (encP (aF rows r))) (.int .i32 0) (dZ made)) (dZ made)).length := ⟨by omega, by rw [Int.toNat_natCast]; exact e2⟩
            have b2 : (0 : Int) ≤ (bC (.int .i32 (aF rows r).2) (gG sec) : Nat) ∧ ((bC (.int .i32 (aF rows r).2) (gG sec) : Nat) : Int).toNat < (aP (.int .i32 (aF rows r).2) (bI (.int .i32 (aF rows r).2) (.bool false) (gG sec)) (gG sec)).length := ⟨by omega, by rw [Int.toNat_natCast]; exact e4⟩
            refine ⟨⟨zA made, y9 _, b1, kS sec, b2, ?_⟩, zA made, y9 _, ⟨b1, kS sec, b2, ?_⟩, b1, kS sec, b2, ?_⟩
            all_goals exact ⟨rfl, ⟨rfl, rfl, rfl, i0, htri, hi, rfl, rfl, by omega, by omega, bJ (aF rows r) r made, bJ (aF rows r).2 true sec, e1, e3, hm'⟩, hmu⟩
          · simp only [Bool.not_eq_true', Bool.not_eq_false] at ho
            exact ⟨rfl, ⟨rfl, rfl, rfl, i0, htri, hi, rfl, rfl, by omega, by omega, made, sec, rfl, rfl, (hm.out ho).same fun x hx => hD x⟩, hmu⟩
      · simp only [decide_eq_true_eq] at hc2
        rw [hw]
        refine ⟨rfl, ⟨rfl, rfl, by omega, by omega, htri, made, sec, rfl, rfl, ?_⟩, by dsimp only; omega⟩
        rw [hn, hts]
        refine hm.same fun x hx => ?_
        unfold lJ
        constructor
        · rintro (⟨s, hs, h⟩ | h)
          · exact ⟨s, List.mem_append_left _ hs, h⟩
          · exact ⟨_, List.mem_append_right _ (List.mem_singleton.2 rfl), by unfold Sp.has; omega⟩
        · rintro ⟨s, hs, h⟩
          rcases List.mem_append.1 hs with hs | hs
          · exact .inl ⟨s, hs, h⟩
          · simp only [List.mem_singleton] at hs; subst hs
            unfold Sp.has at h; exact .inr (by omega)
    · simp only [decide_eq_true_eq] at hc
      rw [List.take_of_length_le (by omega)] at hm
      refine ⟨v, v1, v2, v3, v4, made, sec, rfl, htri, hm.same fun r hr => ?_⟩
      constructor
      · rintro ⟨s, hs, h⟩
        have := hg.2 s hs
        unfold Sp.has at h
        omega
      · intro _
        exact zm8 hr.1
end Go.Eng



namespace Go.Eng.Rows
open Go Go.Eng Go.Eng.Trie
def bV (r : Int) : Bool := decide (44032 ≤ r) && decide (r ≤ 55203)
def dJ (r : Int) : List Int :=
  if (r - 44032) % 28 = 0 then [4352 + (r - 44032) / 588, 4449 + (r - 44032) / 28 % 21]
  else [4352 + (r - 44032) / 588, 4449 + (r - 44032) / 28 % 21, 4519 + (r - 44032) % 28]
def znd (r : Int) : Bool := (decide (4449 ≤ r) && decide (r ≤ 4469)) || (decide (4520 ≤ r) && decide (r ≤ 4546))
def aN (rows : List Row) : Nat → Int → List Int
  | 0, r => if bV r then dJ r else [r]
  | d + 1, r => if bV r then dJ r else if aF rows r = (0, 0) then [r] else aN rows d (aF rows r).1 ++ (if (aF rows r).2 = 0 then [] else aN rows d (aF rows r).2)
def zne (rows : List Row) (r : Int) : Bool := rows.any fun x => decide (x.kind = 2) && (decide (x.b = r) && (!decide (r = 0) && !fR rows x.fr))
def ofQ (rows : List Row) (r : Int) : Int := if fR rows r then 1 else if zne rows r || znd r then 2 else 0
def zfa (rows : List Row) (r : Int) : Int := (aN rows 8 r).headD 0
def zB (rows : List Row) (r : Int) : Bool := (decide (aH rows 1 r = 0) && decide (ofQ rows r = 0)) && (decide (aH rows 1 (zfa rows r) = 0) && decide (ofQ rows (zfa rows r) = 0))
theorem gH {rows : List Row} {d : Nat} {r : Int} (h : bV r = true) : aN rows d r = dJ r := by cases d <;> simp [aN, h]
theorem mO {rows : List Row} {d : Nat} {r : Int} (h : bV r = false) (h2 : aF rows r = (0, 0)) : aN rows d r = [r] := by cases d <;> simp [aN, h, h2]
theorem mP (r : Int) : (dJ r).length ≤ 3 := by unfold dJ; split <;> simp
theorem hE (rows : List Row) : ∀ (d : Nat) (r : Int), (aN rows d r).length ≤ 3 * 2 ^ d
  | 0, r => by
    unfold aN; split
    · have := mP r; simp; omega
    · simp
  | d + 1, r => by
    unfold aN
    have h2 : 2 ^ (d + 1) = 2 * 2 ^ d := by rw [Nat.pow_succ]; omega
    have h3 : 1 ≤ 2 ^ d := Nat.one_le_two_pow
    split
    · have := mP r; omega
    · split
      · simp; omega
      · have e1 := hE rows d (aF rows r).1
        rw [List.length_append]
        split
        · simp; omega
        · have e2 := hE rows d (aF rows r).2; omega
theorem zfb {r : Int} (h : bV r = true) : ∀ x ∈ dJ r, 0 ≤ x ∧ x ≤ 1114111 := by
  simp only [bV, Bool.and_eq_true, decide_eq_true_eq] at h
  intro x hx
  unfold dJ at hx
  split at hx <;> simp only [List.mem_cons, List.not_mem_nil, or_false] at hx
  · rcases hx with rfl | rfl <;> omega
  · rcases hx with rfl | rfl | rfl <;> omega
theorem zfc (r : Int) : dJ r ≠ [] := by unfold dJ; split <;> simp
theorem zfd (rows : List Row) : ∀ (d : Nat) (r : Int), aN rows d r ≠ []
  | 0, r => by unfold aN; split; exact zfc r; simp
  | d + 1, r => by
    unfold aN
    split
    · exact zfc r
    · split
      · simp
      · intro e; exact zfd rows d _ (List.append_eq_nil_iff.1 e).1
theorem zC {rows : List Row} (hp : dA rows) : ∀ (d : Nat) (r : Int), ∀ x ∈ aN rows d r, x = r ∨ (0 ≤ x ∧ x ≤ 1114111)
  | 0, r => fun x hx => by
    unfold aN at hx
    split at hx
    · rename_i h; exact .inr (zfb h x hx)
    · simp at hx; exact .inl hx
  | d + 1, r => fun x hx => by
    unfold aN at hx
    have hg := mN hp r
    split at hx
    · rename_i h; exact .inr (zfb h x hx)
    · split at hx
      · simp at hx; exact .inl hx
      · rcases List.mem_append.1 hx with hx | hx
        · rcases zC hp d _ x hx with rfl | h
          · exact .inr hg.1
          · exact .inr h
        · split at hx
          · cases hx
          · rcases zC hp d _ x hx with rfl | h
            · exact .inr hg.2
            · exact .inr h
def sJ (rows : List Row) : Prop := ∀ x ∈ rows, x.kind = 2 → x.fr = x.to ∧ (0 ≤ x.fr ∧ x.fr ≤ 1114111) ∧ first rows 2 x.fr = some (x.a, x.b)
end Go.Eng.Rows



namespace Go.Eng
open Go Go.Proofs Go.Eng.Rows Go.Eng.Trie
theorem iZ (a b : List Int) : aA (a ++ b) = aA a ++ aA b := by simp [aA]
theorem dE (a : List Int) : aR (aA a) 1 := rK (enc := fun n => [PV.int .i32 n]) (fun _ => rfl) a
def R32 (l : List Int) : Prop := ∀ x ∈ l, -2147483648 ≤ x ∧ x ≤ 2147483647
theorem znf (x : Int) : ([PV.int .i32 x] : List PV).length = 1 := rfl
theorem j7 {l : List Int} {i : Int} (h0 : 0 ≤ i) (hi : i.toNat < l.length) : aO (aA l) i 1 ∧ (aA l).getD i.toNat [] = [.int .i32 l[i.toNat]] :=
  ⟨bM znf h0 (by omega), cC hi⟩
theorem zng (r : Int) : PCall Try.prog 94 [.int .i32 r] fun v => v = .bool (bV r) := by
  refine zjw _ ?_; unfold vV
  unfold bV
  by_cases h1 : 44032 ≤ r <;> by_cases h2 : r ≤ 55203 <;> simp [h1, h2] <;> omega
theorem pIs (r : Int) : PCall Try.prog 97 [.int .i32 r] fun v => v = .bool (bV r) := by
  refine zjy _ ?_; unfold vX
  unfold bV
  by_cases h1 : 44032 ≤ r <;> by_cases h2 : r ≤ 55203 <;> simp [h1, h2]
theorem zfe {r : Int} (h : bV r = true) : (44032 ≤ r ∧ r ≤ 55203) ∧ IntKind.i32.wrap (r - 44032) = r - 44032 ∧ IntKind.i32.wrap (4352 + IntKind.i32.wrap ((r - 44032).tdiv 588)) = 4352 + (r - 44032) / 588 ∧
    IntKind.i32.wrap (4449 + (IntKind.i32.wrap ((r - 44032).tdiv 28)).tmod 21) = 4449 + (r - 44032) / 28 % 21 ∧ IntKind.i32.wrap (4519 + (r - 44032).tmod 28) = 4519 + (r - 44032) % 28 := by
  simp only [bV, Bool.and_eq_true, decide_eq_true_eq] at h
  have e1 : (r - 44032).tdiv 588 = (r - 44032) / 588 := Int.tdiv_eq_ediv_of_nonneg (by omega)
  have e2 : (r - 44032).tdiv 28 = (r - 44032) / 28 := Int.tdiv_eq_ediv_of_nonneg (by omega)
  have e3 : (r - 44032).tmod 28 = (r - 44032) % 28 := Int.tmod_eq_emod_of_nonneg (by omega)
  have w1 : IntKind.i32.wrap ((r - 44032) / 588) = (r - 44032) / 588 := dW (by omega) (by omega)
  have w2 : IntKind.i32.wrap ((r - 44032) / 28) = (r - 44032) / 28 := dW (by omega) (by omega)
  have e4 : ((r - 44032) / 28).tmod 21 = (r - 44032) / 28 % 21 := Int.tmod_eq_emod_of_nonneg (by omega)
  rw [e1, e2, e3, w1, w2, e4]
  exact ⟨h, dW (by omega) (by omega), dW (by omega) (by omega), dW (by omega) (by omega), dW (by omega) (by omega)⟩
theorem sK (r : Int) : PCall Try.prog 70 [.int .i32 r] fun v => if bV r then v = .sl false true (aA (dJ r)) else v = .sl true true [] := by
  refine zjx _ ?_; unfold vW
  refine (zng r).mono ?_
  rintro _ rfl
  refine ⟨_, rfl, ?_⟩
  cases h : bV r with
  | false => exact bN rfl rfl
  | true =>
    obtain ⟨hr, a1, a2, a3, a4⟩ := zfe h
    refine bO (by simp) ?_
    rw [a1, a2, a3, a4]
    refine ⟨⟨rfl, by omega⟩, ⟨by omega, by omega⟩, _, rfl, ?_⟩
    by_cases hc : (r - 44032) % 28 = 0
    · refine bN (by simp; omega) ⟨⟨by unfold dC; simp, rfl⟩, ?_⟩
      simp [dJ, hc, aA]
    · refine bO (by simp; omega) ⟨⟨by unfold dC; simp, rfl⟩, ?_⟩
      simp [dJ, hc, aA]
def zD (L : List Int) (r1 : LV) (h' : Hp) : Prop := (∃ nl, r1 = .own 0 ∧ h' = [.sl (21, 1) true nl (aA L)]) ∨ (r1 = .pv (.sl false true (aA L)) ∧ h' = [])
def FullR (L : List Int) (r1 : LV) (h' : Hp) : Prop := (∃ m nl, r1 = .own 0 ∧ h' = [.sl (21, 1) m nl (aA L)]) ∨ (r1 = .pv (.sl false true (aA L)) ∧ h' = [])
theorem FullR.mark {f : Nat} {args : List LV} {L : List Int} (h : ACall Try.prog f args [] (FullR L)) : ACall Try.prog f args [] (zD L) := by
  refine ACall.mark 0 [] h ?_
  rintro r h' (⟨m, nl, rfl, rfl⟩ | ⟨rfl, rfl⟩)
  · exact .inl ⟨nl, rfl, rfl⟩
  · exact .inr ⟨rfl, rfl⟩
theorem zff {r : Int} (hs : bV r = true) : ACall Try.prog 98 [.pv (.int .i32 r)] [] (zD (dJ r)) := by
  refine FullR.mark (zjz _ ?_); unfold vY
  refine (pIs r).mono ?_
  rintro _ rfl
  refine ⟨_, rfl, ?_⟩
  rw [hs]
  refine bO (by simp) ?_
  obtain ⟨hr, a1, a2, a3, a4⟩ := zfe hs
  have w0 : IntKind.i64.wrap r = r := aD (by omega) (by omega)
  have w1 : IntKind.i64.wrap (r - 44032) = r - 44032 := aD (by omega) (by omega)
  have e1 : (r - 44032).tdiv 588 = (r - 44032) / 588 := Int.tdiv_eq_ediv_of_nonneg (by omega)
  have e2 : (r - 44032).tdiv 28 = (r - 44032) / 28 := Int.tdiv_eq_ediv_of_nonneg (by omega)
  have e3 : (r - 44032).tmod 28 = (r - 44032) % 28 := Int.tmod_eq_emod_of_nonneg (by omega)
  have w2 : IntKind.i64.wrap ((r - 44032) / 588) = (r - 44032) / 588 := aD (by omega) (by omega)
  have w3 : IntKind.i64.wrap ((r - 44032) / 28) = (r - 44032) / 28 := aD (by omega) (by omega)
  have e4 : ((r - 44032) / 28).tmod 21 = (r - 44032) / 28 % 21 := Int.tmod_eq_emod_of_nonneg (by omega)
  rw [w0, w1, e1, e2, e3, w2, w3, e4]
  have w4 : IntKind.i64.wrap (4352 + (r - 44032) / 588) = 4352 + (r - 44032) / 588 := aD (by omega) (by omega)
  have w5 : IntKind.i64.wrap (4449 + (r - 44032) / 28 % 21) = 4449 + (r - 44032) / 28 % 21 := aD (by omega) (by omega)
  have w6 : IntKind.i64.wrap (4519 + (r - 44032) % 28) = 4519 + (r - 44032) % 28 := aD (by omega) (by omega)
  rw [w4, w5, w6]
  have w7 : IntKind.i32.wrap (4352 + (r - 44032) / 588) = 4352 + (r - 44032) / 588 := dW (by omega) (by omega)
  have w8 : IntKind.i32.wrap (4449 + (r - 44032) / 28 % 21) = 4449 + (r - 44032) / 28 % 21 := dW (by omega) (by omega)
  have w9 : IntKind.i32.wrap (4519 + (r - 44032) % 28) = 4519 + (r - 44032) % 28 := dW (by omega) (by omega)
  rw [w7, w8, w9]
  by_cases hc : (r - 44032) % 28 = 0
  · refine bO (by simp [hc]) (.inr ⟨by simp [dJ, hc, aA], rfl⟩)
  · refine bN (by simp [hc]) ⟨?_, .inl ⟨false, false, rfl, by simp [dJ, hc, aA]⟩⟩
    exact ⟨rfl, .inr (by simp), dE [_, _], dE [_], by simp⟩
section
variable {rows : List Row}
theorem pA (n f : Bool) (k r : Int) (hl : rows.length < 1000000) (hr : -9223372036854775808 ≤ r ∧ r ≤ 9223372036854775807) : PCall Try.prog 121 [.sl n f (bE rows), .int .i64 k, .int .i64 r] fun v => v = .int .i64 (aH rows k r) := by
  refine zj0 _ _ _ _ _ ?_; unfold vZ
  refine (p33 n f rows k r (by omega)).mono ?_
  rintro _ ⟨m, rfl, hm⟩
  refine ⟨m, rfl, ?_⟩
  rcases hm with ⟨rfl, hn⟩ | ⟨m0, hm, hr2, hf⟩
  · refine bN (by simp) ?_
    unfold aH bU
    split
    · rename_i p hp
      split at hp
      · rename_i hr2; rw [hn hr2.1 hr2.2] at hp; cases hp
      · cases hp
    · rfl
  · refine bO (by simp; omega) ?_
    have hg : (bE rows).getD m.toNat [] = mJ rows[m.toNat] := cC hm
    refine ⟨bM oX m0 (by omega), rows[m.toNat].a, by rw [hg]; rfl, ?_⟩
    unfold aH bU
    rw [if_pos hr2, hf]
theorem znh (n f : Bool) (k r : Int) (hl : rows.length < 1000000) (hr : -2147483648 ≤ r ∧ r ≤ 2147483647) : PCall Try.prog 114 [.sl n f (bE rows), .int .i64 k, .int .i32 r] fun v => v = .int .i64 (aH rows k r) := by
  refine zj1 _ _ _ _ _ ?_; unfold v8
  have hw : IntKind.i64.wrap r = r := aD (by omega) (by omega)
  rw [hw]
  refine (pA n f k r hl (by omega)).mono ?_
  rintro _ rfl
  exact ⟨_, rfl, rfl⟩
theorem zni (n f : Bool) (r : Int) (hl : rows.length < 1000000) (hr : -2147483648 ≤ r ∧ r ≤ 2147483647) : PCall Try.prog 100 [.sl n f (bE rows), .int .i32 r] fun v => v = .int .i64 (aH rows 1 r) := by
  refine zj3 _ _ _ _ ?_; unfold wB
  refine (znh n f 1 r hl hr).mono ?_
  rintro _ rfl
  exact ⟨_, rfl, rfl⟩
theorem zfg (hp : dA rows) (n f : Bool) (r : Int) (hl : rows.length < 1000000) (hr : -2147483648 ≤ r ∧ r ≤ 2147483647) : PCall Try.prog 99 [.sl n f (bE rows), .int .i32 r] fun v =>
    v = .tup [.int .i32 (aF rows r).1, .int .i32 (aF rows r).2, .bool (!decide (aF rows r = (0, 0)))] := by
  refine zj2 _ _ _ _ ?_; unfold wA
  have hw : IntKind.i64.wrap r = r := aD (by omega) (by omega)
  rw [hw]
  refine (p33 n f rows 2 r (by omega)).mono ?_
  rintro _ ⟨m, rfl, hm⟩
  refine ⟨m, rfl, ?_⟩
  rcases hm with ⟨rfl, hn⟩ | ⟨m0, hm, hr2, hf⟩
  · refine bN (by simp) ?_
    have : aF rows r = (0, 0) := by
      unfold aF bU
      split
      · rename_i p hp
        split at hp
        · rename_i hr2; rw [hn hr2.1 hr2.2] at hp; cases hp
        · cases hp
      · rfl
    rw [this]; rfl
  · refine bO (by simp; omega) ?_
    have hg : (bE rows).getD m.toNat [] = mJ rows[m.toNat] := cC hm
    have hfg : bU rows 2 r = some (rows[m.toNat].a, rows[m.toNat].b) := by unfold bU; rw [if_pos hr2]; exact hf
    have hne := zm6 hp hfg
    have hpg : aF rows r = (rows[m.toNat].a, rows[m.toNat].b) := by unfold aF; rw [hfg]
    have hrng := mN hp r
    obtain ⟨y, hy, hk, ha, hb2, _⟩ := mM hfg
    have hya := hp y hy hk
    rw [hpg] at hrng hne ⊢
    simp only at hrng ha hb2
    have w1 : IntKind.i32.wrap rows[m.toNat].a = rows[m.toNat].a := dW (by omega) (by omega)
    have w2 : IntKind.i32.wrap rows[m.toNat].b = rows[m.toNat].b := dW (by omega) (by omega)
    have hix : aO (bE rows) m 5 := bM oX m0 (by omega)
    refine ⟨hix, rows[m.toNat].a, by rw [hg]; rfl, ?_⟩
    refine bO (by simp; omega) ⟨hix, rows[m.toNat].a, by rw [hg]; rfl, hix, rows[m.toNat].b, by rw [hg]; rfl, ?_⟩
    rw [w1, w2]
    simp [hne]
end
end Go.Eng



namespace Go.Eng
open Go Go.Proofs Go.Eng.Rows Go.Eng.Trie
section
variable {rows : List Row}
theorem znj (hp : dA rows) (n f : Bool) (hl : rows.length < 1000000) : ∀ (d : Nat) (r : Int), d ≤ 8 → (-2147483648 ≤ r ∧ r ≤ 2147483647) →
    ACall Try.prog 78 [.pv (.sl n f (bE rows)), .pv (.int .i32 r), .pv (.int .i64 d)] [] (zD (aN rows d r)) := by
  intro d
  induction d with
  | zero =>
    intro r hd hr
    refine FullR.mark (zdq _ _ _ _ _ ?_); unfold rW
    refine (pIs r).mono ?_
    rintro _ rfl
    refine ⟨_, rfl, ?_⟩
    refine aI (fun hs => ?_) (fun hs => ?_)
    · rw [gH hs]
      refine (zff hs).mono ?_
      rintro r1 h' (⟨nl, rfl, rfl⟩ | ⟨rfl, rfl⟩)
      · exact .inl ⟨(nl, _), ⟨rfl, rfl⟩, trivial, .inl ⟨true, nl, rfl, rfl⟩⟩
      · exact .inr ⟨_, ⟨rfl, rfl⟩, trivial, .inr ⟨rfl, rfl⟩⟩
    · simp only [Bool.not_eq_true] at hs
      refine (zfg hp n f r hl hr).mono ?_
      rintro _ rfl
      refine ⟨_, rfl, rfl, _, rfl, _, rfl, _, rfl, _, rfl, _, rfl, _, rfl, ?_⟩
      refine bN (by simp) (.inr ⟨?_, rfl⟩)
      simp [aN, hs, aA]
  | succ d ih =>
    intro r hd hr
    have hg := mN hp r
    have hw : IntKind.i64.wrap (((d + 1 : Nat) : Int) - 1) = (d : Int) := by rw [show (((d + 1 : Nat) : Int) - 1) = (d : Int) by omega]; exact aD (by omega) (by omega)
    refine FullR.mark (zdq _ _ _ _ _ ?_); unfold rW
    rw [hw]
    refine (pIs r).mono ?_
    rintro _ rfl
    refine ⟨_, rfl, ?_⟩
    refine aI (fun hs => ?_) (fun hs => ?_)
    · rw [gH hs]
      refine (zff hs).mono ?_
      rintro r1 h' (⟨nl, rfl, rfl⟩ | ⟨rfl, rfl⟩)
      · exact .inl ⟨(nl, _), ⟨rfl, rfl⟩, trivial, .inl ⟨true, nl, rfl, rfl⟩⟩
      · exact .inr ⟨_, ⟨rfl, rfl⟩, trivial, .inr ⟨rfl, rfl⟩⟩
    · simp only [Bool.not_eq_true] at hs
      refine (zfg hp n f r hl hr).mono ?_
      rintro _ rfl
      refine ⟨_, rfl, rfl, _, rfl, _, rfl, _, rfl, _, rfl, _, rfl, _, rfl, ?_⟩
      by_cases h0 : aF rows r = (0, 0)
      · refine bN (by simp [h0]) (.inr ⟨?_, rfl⟩)
        rw [mO hs h0]; rfl
      · refine bO (by simp [h0]; omega) ?_
        have hpow : 2 ^ d ≤ 2 ^ 8 := Nat.pow_le_pow_right (by omega) (by omega)
        have ea := hE rows d (aF rows r).1
        have eb := hE rows d (aF rows r).2
        have na := zfd rows d (aF rows r).2
        have heq : aN rows (d + 1) r = aN rows d (aF rows r).1 ++ (if (aF rows r).2 = 0 then [] else aN rows d (aF rows r).2) := by
          rw [aN]; simp [hs, h0]
        rw [heq]
        refine (ih (aF rows r).1 (by omega) (by omega)).mono ?_
        have second : ∀ (K : LV → Hp → Prop), (aF rows r).2 ≠ 0 → (∀ nl, K (.own 0) [.sl (21, 1) true nl (aA (aN rows d (aF rows r).2))]) → K (.pv (.sl false true (aA (aN rows d (aF rows r).2)))) [] → ACall Try.prog 78 [.pv (.sl n f (bE rows)), .pv (.int .i32 (aF rows r).2), .pv (.int .i64 d)] [] K := fun K _ k1 k2 => by
          refine (ih (aF rows r).2 (by omega) (by omega)).mono ?_
          rintro r1 h' (⟨nl, rfl, rfl⟩ | ⟨rfl, rfl⟩)
          · exact k1 nl
          · exact k2
        have sz : ∀ L : List Int, L.length ≤ 768 → ((aA (aN rows d (aF rows r).1)).length + (aA L).length) * 4 ≤ 140737488355328 := fun L h => by simp only [bG]; omega
        rintro r1 h' (⟨nl, rfl, rfl⟩ | ⟨rfl, rfl⟩)
        · refine .inl ⟨(nl, _), ⟨rfl, rfl⟩, trivial, aI (fun hb => ?_) (fun hb => ?_)⟩
          · simp only [bne_iff_ne, ne_eq] at hb
            rw [if_neg hb]
            refine second _ hb (fun nl2 => .inl ⟨(nl2, _), ⟨rfl, rfl⟩, trivial, ⟨dE _, sz _ (by omega)⟩, .inl ⟨true, _, rfl, by rw [iZ]; rfl⟩⟩) (.inr ⟨_, ⟨rfl, rfl⟩, trivial, ⟨dE _, sz _ (by omega)⟩, .inl ⟨true, _, rfl, by rw [iZ]; rfl⟩⟩)
          · simp only [bne_iff_ne, ne_eq, Decidable.not_not] at hb
            rw [if_pos hb, List.append_nil]
            exact .inl ⟨true, nl, rfl, rfl⟩
        · refine .inr ⟨_, ⟨rfl, rfl⟩, trivial, aI (fun hb => ?_) (fun hb => ?_)⟩
          · simp only [bne_iff_ne, ne_eq] at hb
            rw [if_neg hb]
            have ap : fY true (aA (aN rows d (aF rows r).1)) (aA (aN rows d (aF rows r).2)) 1 4 := ⟨rfl, .inr (by simpa [aA] using na), dE _, dE _, sz _ (by omega)⟩
            refine second _ hb (fun nl2 => .inl ⟨(nl2, _), ⟨rfl, rfl⟩, trivial, ap, .inl ⟨false, _, rfl, by rw [iZ]; rfl⟩⟩) (.inr ⟨_, ⟨rfl, rfl⟩, trivial, ap, .inl ⟨false, _, rfl, by rw [iZ]⟩⟩)
          · simp only [bne_iff_ne, ne_eq, Decidable.not_not] at hb
            rw [if_pos hb, List.append_nil]
            exact .inr ⟨rfl, rfl⟩
end
end Go.Eng


