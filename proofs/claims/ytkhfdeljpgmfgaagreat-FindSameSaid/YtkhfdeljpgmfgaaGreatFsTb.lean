/- Abstract states run over the code; what each function gives, printed by program and checked by the kernel; and what follows of it. -/
import Derived.Test.YtkhfdeljpgmfgaaGreatFsTa
set_option linter.unusedVariables false
set_option linter.unusedSimpArgs false
namespace Go.Eng.Trie
open Go Go.Eng
structure Pc (α : Type) where
  fr : Int
  to : Int
  v : α
variable {α : Type}
def findL : List (Pc α) → α → Int → Int → α × Int
  | [], z, _, last => (z, last)
  | p :: r, z, i, last => if p.fr ≤ i ∧ i ≤ p.to then (p.v, if last < p.to then last else p.to) else if i < p.fr ∧ p.fr ≤ last then findL r z i (p.fr - 1) else findL r z i last
theorem zkp (p : Pc α) (r : List (Pc α)) (z : α) (i last : Int) : findL (p :: r) z i last = if p.fr ≤ i ∧ i ≤ p.to then (p.v, if last < p.to then last else p.to) else if i < p.fr ∧ p.fr ≤ last then findL r z i (p.fr - 1) else findL r z i last := rfl
def valL : List (Pc α) → α → Int → α
  | [], z, _ => z
  | p :: r, z, i => if p.fr ≤ i ∧ i ≤ p.to then p.v else valL r z i
theorem zjp : ∀ (l : List (Pc α)) (z : α) (i last : Int), i ≤ last → (findL l z i last).1 = valL l z i ∧ i ≤ (findL l z i last).2 ∧ (findL l z i last).2 ≤ last ∧ ∀ j, i ≤ j → j ≤ (findL l z i last).2 → valL l z j = (findL l z i last).1
  | [], z, i, last, h => ⟨rfl, h, Int.le_refl _, fun _ _ _ => rfl⟩
  | p :: r, z, i, last, h => by
    unfold findL valL
    by_cases h1 : p.fr ≤ i ∧ i ≤ p.to
    · rw [if_pos h1, if_pos h1]
      dsimp only
      have : (if last < p.to then last else p.to) ≤ last ∧ (if last < p.to then last else p.to) ≤ p.to ∧ i ≤ (if last < p.to then last else p.to) := by split <;> omega
      refine ⟨rfl, this.2.2, this.1, fun j hj hj2 => ?_⟩
      rw [if_pos (by omega)]
    · rw [if_neg h1, if_neg h1]
      by_cases h2 : i < p.fr ∧ p.fr ≤ last
      · rw [if_pos h2]
        obtain ⟨a, b, c, d⟩ := zjp r z i (p.fr - 1) (by omega)
        refine ⟨a, b, by omega, fun j hj hj2 => ?_⟩
        rw [if_neg (by omega)]
        exact d j hj hj2
      · rw [if_neg h2]
        obtain ⟨a, b, c, d⟩ := zjp r z i last h
        refine ⟨a, b, c, fun j hj hj2 => ?_⟩
        rw [if_neg (by omega)]
        exact d j hj hj2
def Blk (α : Type) := { l : List α // l.length = 128 }
instance [DecidableEq α] : DecidableEq (Blk α) := fun a b => if h : a.1 = b.1 then isTrue (Subtype.ext h) else isFalse fun e => h (by rw [e])
def rep (v : α) : Blk α := ⟨List.replicate 128 v, by simp⟩
variable {sz : Int} {F : Int → α} {idx : List Int} {blk : List (Blk α)}
structure TOK (sz : Int) (F : Int → α) (idx : List Int) (blk : List (Blk α)) : Prop where
  len : sz ≤ 128 * idx.length
  ok : ∀ (q : Nat) k, idx[q]? = some k → 0 ≤ k ∧ ∃ b : Blk α, blk[k.toNat]? = some b ∧ ∀ (j : Nat) u, b.1[j]? = some u → (128 * q + j : Int) < sz → u = F (128 * q + j)
theorem TOK.get (h : TOK sz F idx blk) {i : Int} (h0 : 0 ≤ i) (h1 : i < sz) : ∃ (hq : (i / 128).toNat < idx.length), 0 ≤ idx[(i / 128).toNat] ∧ ∃ (hk : idx[(i / 128).toNat].toNat < blk.length), ∃ (hj : (i % 128).toNat < (blk[idx[(i / 128).toNat].toNat]).1.length), (blk[idx[(i / 128).toNat].toNat]).1[(i % 128).toNat] = F i := by
  have hl := h.len
  have hq : (i / 128).toNat < idx.length := by omega
  obtain ⟨g0, b, g1, g2⟩ := h.ok (i / 128).toNat _ (List.getElem?_eq_getElem hq)
  obtain ⟨hk, hb⟩ := List.getElem?_eq_some_iff.1 g1
  have hj : (i % 128).toNat < (blk[idx[(i / 128).toNat].toNat]).1.length := by rw [(blk[idx[(i / 128).toNat].toNat]).2]; omega
  refine ⟨hq, g0, hk, hj, ?_⟩
  have hj' : (i % 128).toNat < b.1.length := by rw [b.2]; omega
  have := g2 (i % 128).toNat _ (List.getElem?_eq_getElem hj') (by omega)
  have e : (128 * ((i / 128).toNat : Int) + ((i % 128).toNat : Int)) = i := by omega
  rw [e] at this
  simp only [hb]
  exact this
theorem more {b c : Blk α} {k : Nat} (h : blk[k]? = some b) : (blk ++ [c])[k]? = some b := by
  have := (List.getElem?_eq_some_iff.1 h).1
  rw [List.getElem?_append_left this]; exact h
variable [DecidableEq α]
structure TInv (sz : Int) (F : Int → α) (idx : List Int) (blk : List (Blk α)) (kn : List (Blk α × Int)) (ev : List (α × Int)) : Prop where
  kn_ok : ∀ b k, aget b kn = some k → 0 ≤ k ∧ blk[k.toNat]? = some b
  ev_ok : ∀ v k, aget v ev = some k → 0 ≤ k ∧ blk[k.toNat]? = some (rep v)
  idx_ok : ∀ (q : Nat) k, idx[q]? = some k → 0 ≤ k ∧ ∃ b : Blk α, blk[k.toNat]? = some b ∧ ∀ (j : Nat) u, b.1[j]? = some u → (128 * q + j : Int) < sz → u = F (128 * q + j)
variable {kn : List (Blk α × Int)} {ev : List (α × Int)}
theorem TInv.nil : TInv sz F [] [] [] [] := ⟨fun _ _ h => (by cases h), fun _ _ h => (by cases h), fun _ _ h => (by simp at h)⟩
theorem TInv.place (h : TInv sz F idx blk kn ev) (b : Blk α) : TInv sz F idx (blk ++ [b]) (aset b (blk.length : Int) kn) ev := by
  refine ⟨fun c k hc => ?_, fun v k hv => ?_, fun q k hq => ?_⟩
  · rw [zex] at hc
    split at hc
    · rename_i e
      cases hc
      exact ⟨by omega, by simp [e]⟩
    · exact ⟨(h.kn_ok c k hc).1, more (h.kn_ok c k hc).2⟩
  · exact ⟨(h.ev_ok v k hv).1, more (h.ev_ok v k hv).2⟩
  · obtain ⟨h1, c, h2, h3⟩ := h.idx_ok q k hq
    exact ⟨h1, c, more h2, h3⟩
theorem TInv.even (h : TInv sz F idx blk kn ev) {v : α} {k : Int} (h0 : 0 ≤ k) (hk : blk[k.toNat]? = some (rep v)) : TInv sz F idx blk kn (aset v k ev) := by
  refine ⟨h.kn_ok, fun c k' hc => ?_, h.idx_ok⟩
  rw [zex] at hc
  split at hc
  · rename_i e
    cases hc
    exact ⟨h0, by rw [e]; exact hk⟩
  · exact h.ev_ok c k' hc
theorem TInv.push (h : TInv sz F idx blk kn ev) {b : Blk α} {k : Int} (h0 : 0 ≤ k) (hk : blk[k.toNat]? = some b) (hb : ∀ (j : Nat) u, b.1[j]? = some u → (128 * idx.length + j : Int) < sz → u = F (128 * idx.length + j)) : TInv sz F (idx ++ [k]) blk kn ev := by
  refine ⟨h.kn_ok, h.ev_ok, fun q k' hq => ?_⟩
  rcases Nat.lt_trichotomy q idx.length with hl | hl | hl
  · rw [List.getElem?_append_left hl] at hq
    exact h.idx_ok q k' hq
  · subst hl
    simp at hq
    subst hq
    exact ⟨h0, b, hk, hb⟩
  · rw [List.getElem?_eq_none (by simp; omega)] at hq; cases hq
end Go.Eng.Trie



namespace Go.Eng.Rows
open Go Go.Eng Go.Eng.Trie
def za0 (rows : List Row) (k r : Int) : Option (Int × Int) := if 0 ≤ r ∧ r ≤ 1114111 then first rows k r else none
def numG (rows : List Row) (k r : Int) : Int := match za0 rows k r with | some p => p.1 | none => 0
def zhr (rows : List Row) (k r : Int) : Bool := match za0 rows k r with | some p => decide (p.1 = 1) | none => false
def zag (rows : List Row) (r : Int) : Int × Int := match za0 rows 2 r with | some p => p | none => (0, 0)
def ze3 (rows : List Row) (r : Int) : Bool × Bool × Bool × Bool := (zhr rows 5 r, zhr rows 7 r, zhr rows 8 r, zhr rows 3 r)
def outG (rows : List Row) (r : Int) : Bool :=
  !decide (zag rows r = (0, 0)) && (decide ((zag rows r).2 = 0) || (zhr rows 3 r || (!decide (numG rows 1 r = 0) || !decide (numG rows 1 (zag rows r).1 = 0))))
theorem zoh {rows : List Row} {k r a b : Int} : Has (ofL k rows) r a b ↔ za0 rows k r = some (a, b) := by
  rw [z1u]
  unfold za0
  by_cases h : 0 ≤ r ∧ r ≤ 1114111
  · rw [if_pos h]; exact ⟨fun h => h.2, fun h2 => ⟨h, h2⟩⟩
  · rw [if_neg h]; exact ⟨fun h2 => absurd h2.1 h, fun h2 => by cases h2⟩
theorem zsm {rows : List Row} {k r : Int} {p : Int × Int} (h : za0 rows k r = some p) : ∃ s ∈ ofL k rows, s.has r ∧ s.a = p.1 ∧ s.b = p.2 := by
  obtain ⟨s, h1, h2, h3, h4⟩ := zoh.2 (show za0 rows k r = some (p.1, p.2) from h)
  exact ⟨s, h1, h2, h3, h4⟩
theorem zis {rows : List Row} {k r : Int} {s : Sp} (hs : s ∈ ofL k rows) (h : s.has r) : za0 rows k r = some (s.a, s.b) := zoh.1 ⟨s, hs, h, rfl, rfl⟩
theorem z14 {rows : List Row} {k r : Int} (h : za0 rows k r = none) : ∀ s ∈ ofL k rows, ¬ s.has r := fun s hs h2 => by rw [zis hs h2] at h; cases h
theorem zpo {rows : List Row} {k r : Int} (h : ∀ s ∈ ofL k rows, ¬ s.has r) : za0 rows k r = none := by
  cases hf : za0 rows k r with
  | none => rfl
  | some p => obtain ⟨s, h1, h2, _⟩ := zsm hf; exact absurd h2 (h s h1)
theorem zpp {α : Type} {F : Int → α} {z : α} {i : Int} : ∀ {l : List (Pc α)}, (∀ p ∈ l, p.fr ≤ i → i ≤ p.to → p.v = F i) → ((∀ p ∈ l, ¬ (p.fr ≤ i ∧ i ≤ p.to)) → F i = z) → valL l z i = F i
  | [], _, h2 => (h2 (fun p hp => by cases hp)).symm
  | p :: r, h1, h2 => by
    unfold valL
    by_cases h : p.fr ≤ i ∧ i ≤ p.to
    · rw [if_pos h]; exact h1 p List.mem_cons_self h.1 h.2
    · rw [if_neg h]
      refine zpp (fun q hq => h1 q (List.mem_cons_of_mem _ hq)) fun h3 => h2 fun q hq => ?_
      rcases List.mem_cons.1 hq with rfl | hq
      · exact h
      · exact h3 q hq
theorem zzo (rows : List Row) (k i : Int) : valL ((ofL k rows).map fun s => (⟨s.fr, s.to, s.a⟩ : Pc Int)) 0 i = numG rows k i := by
  refine zpp (F := numG rows k) (fun p hp h1 h2 => ?_) (fun h => ?_)
  · obtain ⟨s, hs, rfl⟩ := List.mem_map.1 hp
    unfold numG; rw [zis hs ⟨h1, h2⟩]
  · unfold numG; rw [zpo fun s hs h2 => h _ (List.mem_map_of_mem hs) ⟨h2.1, h2.2⟩]
theorem zxe (rows : List Row) (i : Int) : valL ((ofL 2 rows).map fun s => (⟨s.fr, s.to, (s.a, s.b)⟩ : Pc (Int × Int))) (0, 0) i = zag rows i := by
  refine zpp (F := zag rows) (fun p hp h1 h2 => ?_) (fun h => ?_)
  · obtain ⟨s, hs, rfl⟩ := List.mem_map.1 hp
    unfold zag; rw [zis hs ⟨h1, h2⟩]
  · unfold zag; rw [zpo fun s hs h2 => h _ (List.mem_map_of_mem hs) ⟨h2.1, h2.2⟩]
def zfp (at' last : Int) : List Sp → Int
  | [] => last
  | s :: r => if s.fr > at' ∧ s.fr ≤ last then zfp at' (s.fr - 1) r else zfp at' last r
theorem zjq {a : Int} : ∀ {l : List Sp} {last : Int}, zfp a last l ≤ last
  | [], last => Int.le_refl _
  | s :: r, last => by
    unfold zfp
    split
    · have := zjq (a := a) (l := r) (last := s.fr - 1); omega
    · exact zjq
theorem zpq {a : Int} : ∀ {l : List Sp} {last : Int}, ∀ s ∈ l, s.fr > a → s.fr > zfp a last l
  | s :: r, last, x, hx, h => by
    unfold zfp
    have hle1 := zjq (a := a) (l := r) (last := s.fr - 1)
    have hle2 := zjq (a := a) (l := r) (last := last)
    rcases List.mem_cons.1 hx with rfl | hx
    · split <;> omega
    · split
      · exact zpq x hx h
      · exact zpq x hx h
theorem zpr {a i : Int} : ∀ {l : List Sp} {last : Int}, i ≤ last → (∀ s ∈ l, s.fr > a → s.fr > i) → i ≤ zfp a last l
  | [], last, h, _ => h
  | s :: r, last, h, h2 => by
    unfold zfp
    split
    · rename_i hc
      exact zpr (by have := h2 s List.mem_cons_self hc.1; omega) fun x hx => h2 x (List.mem_cons_of_mem _ hx)
    · exact zpr h fun x hx => h2 x (List.mem_cons_of_mem _ hx)
theorem zq6 (a : Int) : ∀ (l m : List Sp) (last : Int), zfp a last (l ++ m) = zfp a (zfp a last l) m
  | [], m, last => rfl
  | s :: r, m, last => by
    simp only [List.cons_append, zfp]
    split <;> exact zq6 a r m _
def CutP (ll : List (List Sp)) (x : Int) : Prop := x = 0 ∨ ∃ l ∈ ll, ∃ s ∈ l, x = s.fr ∨ x = s.to + 1
theorem zzp {ll : List (List Sp)} {a i : Int} (h1 : a ≤ i) (h2 : ∀ x, CutP ll x → x ≤ a ∨ i < x) {l : List Sp} (hl : l ∈ ll) {s : Sp} (hs : s ∈ l) : s.has i ↔ s.has a := by
  have c1 := h2 s.fr (.inr ⟨l, hl, s, hs, .inl rfl⟩)
  have c2 := h2 (s.to + 1) (.inr ⟨l, hl, s, hs, .inr rfl⟩)
  unfold Sp.has
  omega
theorem zzq {t : List Int} {i : Int} (h0 : ∃ x ∈ t, x ≤ i) : ∃ a ∈ t, a ≤ i ∧ ∀ x ∈ t, x ≤ a ∨ i < x := by
  induction t with
  | nil => obtain ⟨x, hx, _⟩ := h0; cases hx
  | cons y r ih =>
    by_cases hr : ∃ x ∈ r, x ≤ i
    · obtain ⟨a, h1, h2, h3⟩ := ih hr
      by_cases hy : y ≤ i ∧ a < y
      · refine ⟨y, List.mem_cons_self, hy.1, fun x hx => ?_⟩
        rcases List.mem_cons.1 hx with rfl | hx
        · exact .inl (Int.le_refl _)
        · have := h3 x hx; omega
      · refine ⟨a, List.mem_cons_of_mem _ h1, h2, fun x hx => ?_⟩
        rcases List.mem_cons.1 hx with rfl | hx
        · omega
        · exact h3 x hx
    · obtain ⟨x, hx, hxi⟩ := h0
      rcases List.mem_cons.1 hx with rfl | hx
      · refine ⟨x, List.mem_cons_self, hxi, fun z hz => ?_⟩
        rcases List.mem_cons.1 hz with rfl | hz
        · exact .inl (Int.le_refl _)
        · exact .inr (Int.not_le.1 fun hle => hr ⟨z, hz, hle⟩)
      · exact absurd ⟨x, hx, hxi⟩ hr
end Go.Eng.Rows



namespace Go.Eng.Rows
open Go Go.Eng Go.Eng.Trie
abbrev Fl := Bool × Bool × Bool × Bool
def l4 (rows : List Row) : List (List Sp) := [ofL 5 rows, ofL 7 rows, ofL 8 rows, ofL 3 rows]
theorem zf7 {rows : List Row} {k a i : Int} (h : ∀ s ∈ ofL k rows, s.has i ↔ s.has a) : za0 rows k i = za0 rows k a := by
  cases hf : za0 rows k a with
  | none => exact zpo fun s hs h2 => z14 hf s hs ((h s hs).1 h2)
  | some p =>
    obtain ⟨s, h1, h2, h3, h4⟩ := zsm hf
    rw [zis h1 ((h s h1).2 h2), h3, h4]
theorem zoi {rows : List Row} {a i : Int} (h : ∀ l ∈ l4 rows, ∀ s ∈ l, s.has i ↔ s.has a) : ze3 rows i = ze3 rows a := by
  unfold ze3 zhr
  rw [zf7 (h _ (by simp [l4]) : ∀ s ∈ ofL 5 rows, _), zf7 (h _ (by simp [l4]) : ∀ s ∈ ofL 7 rows, _), zf7 (h _ (by simp [l4]) : ∀ s ∈ ofL 8 rows, _), zf7 (h _ (by simp [l4]) : ∀ s ∈ ofL 3 rows, _)]
structure LastOK (ll : List (List Sp)) (a x : Int) : Prop where
  top : x ≤ 1114111
  le : ∀ l ∈ ll, ∀ s ∈ l, s.has a → x ≤ s.to
  ge : ∀ i, i ≤ 1114111 → (∀ l ∈ ll, ∀ s ∈ l, s.has a → i ≤ s.to) → i ≤ x
theorem LastOK.nil (a : Int) : LastOK [] a 1114111 := ⟨Int.le_refl _, fun l hl => (by cases hl), fun i hi _ => hi⟩
theorem LastOK.some {ll : List (List Sp)} {l : List Sp} {a x : Int} (h : LastOK ll a x) {s : Sp} (hs : s ∈ l) (ha : s.has a) (hg : Good l) : LastOK (ll ++ [l]) a (if s.to < x then s.to else x) := by
  have uniq : ∀ y ∈ l, y.has a → y.to = s.to := fun y hy hya => by
    obtain ⟨i, hi, rfl⟩ := List.getElem_of_mem hy
    obtain ⟨j, hj, rfl⟩ := List.getElem_of_mem hs
    have hr := List.pairwise_iff_getElem.1 hg.1
    unfold Sp.has at hya ha
    rcases Nat.lt_trichotomy i j with hij | hij | hij
    · have := hr i j hi hj hij; omega
    · subst hij; rfl
    · have := hr j i hj hi hij; omega
  have h1 := h.top
  refine ⟨by split <;> omega, fun m hm y hy hya => ?_, fun i hi h2 => ?_⟩
  · rcases List.mem_append.1 hm with hm | hm
    · have := h.le m hm y hy hya; split <;> omega
    · simp only [List.mem_singleton] at hm; subst hm
      have := uniq y hy hya; split <;> omega
  · have g1 := h.ge i hi fun m hm => h2 m (List.mem_append_left _ hm)
    have g2 := h2 l (by simp) s hs ha
    split <;> omega
theorem LastOK.none {ll : List (List Sp)} {l : List Sp} {a x : Int} (h : LastOK ll a x) (hn : ∀ s ∈ l, ¬ s.has a) : LastOK (ll ++ [l]) a x := by
  refine ⟨h.top, fun m hm y hy hya => ?_, fun i hi h2 => h.ge i hi fun m hm => h2 m (List.mem_append_left _ hm)⟩
  rcases List.mem_append.1 hm with hm | hm
  · exact h.le m hm y hy hya
  · simp only [List.mem_singleton] at hm; subst hm; exact absurd hya (hn y hy)
structure PiecesOK (rows : List Row) (done : List Int) (P : List (Pc Fl)) : Prop where
  sound : ∀ p ∈ P, (0 ≤ p.fr ∧ p.fr ≤ 1114112) ∧ ∀ i, p.fr ≤ i → i ≤ p.to → p.v = ze3 rows i
  all : ∀ a ∈ done, ze3 rows a ≠ (false, false, false, false) → ∃ p ∈ P, p.fr = a ∧ ∀ i, a ≤ i → i ≤ 1114111 → (∀ l ∈ l4 rows, ∀ s ∈ l, (s.has i ↔ s.has a) ∧ (s.fr > a → s.fr > i)) → i ≤ p.to
theorem PiecesOK.nil (rows : List Row) : PiecesOK rows [] [] := ⟨fun p hp => (by cases hp), fun a ha => (by cases ha)⟩
theorem PiecesOK.skip {rows : List Row} {done : List Int} {P : List (Pc Fl)} (h : PiecesOK rows done P) {a : Int} (ha : ze3 rows a = (false, false, false, false)) : PiecesOK rows (done ++ [a]) P := by
  refine ⟨h.sound, fun b hb hne => ?_⟩
  rcases List.mem_append.1 hb with hb | hb
  · exact h.all b hb hne
  · simp only [List.mem_singleton] at hb; subst hb; exact absurd ha hne
theorem PiecesOK.put {rows : List Row} {done : List Int} {P : List (Pc Fl)} (h : PiecesOK rows done P) {a x : Int} (h0 : 0 ≤ a) (h1 : a ≤ 1114112) (hx : LastOK (l4 rows) a x) : PiecesOK rows (done ++ [a]) (P ++ [⟨a, zfp a x (l4 rows).flatten, ze3 rows a⟩]) := by
  refine ⟨fun p hp => ?_, fun b hb hne => ?_⟩
  · rcases List.mem_append.1 hp with hp | hp
    · exact h.sound p hp
    · simp only [List.mem_singleton] at hp; subst hp
      refine ⟨⟨h0, h1⟩, fun i hi1 hi2 => (zoi fun l hl s hs => ?_).symm⟩
      have e1 := zjq (a := a) (l := (l4 rows).flatten) (last := x)
      have e2 := zpq (a := a) (l := (l4 rows).flatten) (last := x) s (List.mem_flatten.2 ⟨l, hl, hs⟩)
      have e3 := hx.le l hl s hs
      simp only at hi1 hi2
      unfold Sp.has at e3 ⊢
      constructor
      · rintro ⟨q1, q2⟩
        by_cases hc : s.fr > a
        · have := e2 hc; omega
        · omega
      · rintro ⟨q1, q2⟩
        have := e3 ⟨q1, q2⟩
        omega
  · rcases List.mem_append.1 hb with hb | hb
    · obtain ⟨p, hp, q⟩ := h.all b hb hne
      exact ⟨p, List.mem_append_left _ hp, q⟩
    · simp only [List.mem_singleton] at hb; subst hb
      refine ⟨_, List.mem_append_right _ (List.mem_singleton.2 rfl), rfl, fun i hi1 hi2 hc => ?_⟩
      refine zpr (hx.ge i hi2 fun l hl s hs hsb => ?_) fun s hs hgt => ?_
      · exact (((hc l hl s hs).1).2 hsb).2
      · obtain ⟨l, hl, hs⟩ := List.mem_flatten.1 hs
        exact (hc l hl s hs).2 hgt
theorem PiecesOK.val {rows : List Row} {t : List Int} {P : List (Pc Fl)} (h : PiecesOK rows t P) (ht : ∀ x, x ∈ t ↔ CutP (l4 rows) x) {i : Int} (h0 : 0 ≤ i) (h1 : i ≤ 1114111) : valL P (false, false, false, false) i = ze3 rows i := by
  refine zpp (F := ze3 rows) (fun p hp q1 q2 => (h.sound p hp).2 i q1 q2) fun hn => ?_
  obtain ⟨a, ha, hai, hcut⟩ := zzq (t := t) (i := i) ⟨0, (ht 0).2 (.inl rfl), h0⟩
  have hcut' : ∀ x, CutP (l4 rows) x → x ≤ a ∨ i < x := fun x hx => hcut x ((ht x).2 hx)
  have hsame : ∀ l ∈ l4 rows, ∀ s ∈ l, s.has i ↔ s.has a := fun l hl s hs => zzp hai hcut' hl hs
  by_cases hz : ze3 rows a = (false, false, false, false)
  · rw [zoi hsame, hz]
  · obtain ⟨p, hp, q1, q2⟩ := h.all a ha hz
    refine absurd ⟨by omega, q2 i hai h1 fun l hl s hs => ⟨hsame l hl s hs, fun hg => ?_⟩⟩ (hn p hp)
    have := hcut' s.fr (.inr ⟨l, hl, s, hs, .inl rfl⟩)
    omega
end Go.Eng.Rows


set_option maxRecDepth 100000
set_option linter.constructorNameAsVariable false
namespace Go.Eng
open Go Go.Proofs
def zq7 (n f : Bool) (es : LL) (z i last : Int) (x3 : Int) (x14 : Int) : Env × Hp := ([(1, LV.pv (PV.int IntKind.i64 z)), (2, LV.pv (PV.int IntKind.i64 i)), (3, .pv (.int IntKind.i64 x3)), (12, LV.pv (PV.sl n f es)), (13, LV.pv (PV.int IntKind.i64 ↑es.length)), (14, .pv (.int IntKind.i64 x14))], [])
def ze4 (n f : Bool) (es : LL) (z i last : Int) (J : Int → Int → Prop) (μ : Int → Int → Nat) (R : PV → Prop) : Prop :=
 (zab (zq7 n f es z i last last (0 : Int)) ∧ J last (0 : Int)) ∧ ∀ (x3 x14 : Int), J x3 x14 → if decide (x14 < (↑es.length : Int)) = true then zam es x14 3 ∧ ∃ (n1 : Int), (es.getD x14.toNat []).head? = some (Z6 n1) ∧ ∃ (n2 : Int),
 (es.getD x14.toNat []).tail.head? = some (Z6 n2) ∧ ∃ (n3 : Int), (es.getD x14.toNat []).tail.tail.head? = some (Z6 n3) ∧ if decide (n1 ≤ i) = true then if decide (i ≤ n2) = true then R (PV.tup [Z6 n3, Z6 (if x3 < n2 then x3 else n2)]) else
 if decide (i < n1) = true then if decide (n1 ≤ x3) = true then zab (zq7 n f es z i last (IntKind.i64.wrap (n1 - 1)) (IntKind.i64.wrap (x14 + 1))) ∧ J (IntKind.i64.wrap (n1 - 1)) (IntKind.i64.wrap (x14 + 1)) ∧ μ (IntKind.i64.wrap (n1 -
 1)) (IntKind.i64.wrap (x14 + 1)) < μ x3 x14 else zab (zq7 n f es z i last x3 (IntKind.i64.wrap (x14 + 1))) ∧ J x3 (IntKind.i64.wrap (x14 + 1)) ∧ μ x3 (IntKind.i64.wrap (x14 + 1)) < μ x3 x14 else zab (zq7 n f es z i last x3
 (IntKind.i64.wrap (x14 + 1))) ∧ J x3 (IntKind.i64.wrap (x14 + 1)) ∧ μ x3 (IntKind.i64.wrap (x14 + 1)) < μ x3 x14 else if decide (i < n1) = true then if decide (n1 ≤ x3) = true then zab (zq7 n f es z i last (IntKind.i64.wrap (n1 - 1))
 (IntKind.i64.wrap (x14 + 1))) ∧ J (IntKind.i64.wrap (n1 - 1)) (IntKind.i64.wrap (x14 + 1)) ∧ μ (IntKind.i64.wrap (n1 - 1)) (IntKind.i64.wrap (x14 + 1)) < μ x3 x14 else zab (zq7 n f es z i last x3 (IntKind.i64.wrap (x14 + 1))) ∧ J x3
 (IntKind.i64.wrap (x14 + 1)) ∧ μ x3 (IntKind.i64.wrap (x14 + 1)) < μ x3 x14 else zab (zq7 n f es z i last x3 (IntKind.i64.wrap (x14 + 1))) ∧ J x3 (IntKind.i64.wrap (x14 + 1)) ∧ μ x3 (IntKind.i64.wrap (x14 + 1)) < μ x3 x14 else R (PV.tup
 [Z6 z, Z6 x3])
theorem zmq (n f : Bool) (es : LL) (z i last : Int) (J : Int → Int → Prop) (μ : Int → Int → Nat) {R : PV → Prop} (h : ze4 n f es z i last J μ R) : PCall Tryz.prog 85 [.sl n f es, .int .i64 z, .int .i64 i, .int .i64 last] R :=
  PCall.of Tryz.func85 (by kernel_rfl) (by kernel_rfl) (Nat.le_of_ble_eq_true (by kernel_rfl)) (Eq.mpr (by kernel_rfl : aFn Tryz.prog (fun _ => none) Tryz.f85 [0, 1, 2, 3, 8, 9, 11, 12, 13, 14, 15, 18, 35] (fun zz_ => match zz_ with | 2 => some ⟨Int × Int, fun s => zq7 n f es z i last s.1 s.2, fun _ s => J s.1 s.2, fun s => μ s.1 s.2, fun e h => (gI e 3, gI e 14), [], [1, 2, 3, 12, 13, 14], [], fun p => ∀ (x3 : Int) (x14 : Int), p (x3, x14), fun p h s => h s.1 s.2⟩ | _ => none) (Tryz.f85.body.getD .skip) [.sl n f es, .int .i64 z, .int .i64 i, .int .i64 last] R = ze4 n f es z i last J μ R) h)

def zc0 (s : Int) (n f n2 f2 : Bool) (es bs : LL) (i : Int) (R : PV → Prop) : Prop :=
 if decide (i < 0) = true then R (Z6 0) else ∃ (n1 : Int), some (Z6 s) = some (Z6 n1) ∧ if decide (i ≥ n1) = true then R (Z6 0) else ∃ (n3 : Bool), ∃ (f1 : Bool), ∃ (es1 : LL), some (PV.sl n2 f2 bs) = some (PV.sl n3 f1 es1) ∧ ∃ (n4 : Bool),
 ∃ (f3 : Bool), ∃ (es2 : LL), some (PV.sl n f es) = some (PV.sl n4 f3 es2) ∧ zam es2 (IntKind.i64.wrap (i.tdiv (128 : Int))) 1 ∧ ∃ (n5 : Int), (es2.getD (IntKind.i64.wrap (i.tdiv (128 : Int))).toNat []).head? = some (Z6 n5) ∧ zam es1 n5
 128 ∧ ((0 : Int) ≤ i.tmod (128 : Int) ∧ i.tmod (128 : Int) < (↑128 : Int)) ∧ ∃ (n6 : Int), (List.drop ((i.tmod (128 : Int)).toNat * (1 : Nat)) (es1.getD n5.toNat [])).head? = some (Z6 n6) ∧ R (Z6 n6)
theorem zit (s : Int) (n f n2 f2 : Bool) (es bs : LL) (i : Int) {R : PV → Prop} (h : zc0 s n f n2 f2 es bs i R) : PCall Tryz.prog 79 [.ptr [.int .i64 s, .sl n f es, .sl n2 f2 bs], .int .i64 i] R :=
  PCall.of Tryz.func79 (by kernel_rfl) (by kernel_rfl) (Nat.le_of_ble_eq_true (by kernel_rfl)) (Eq.mpr (by kernel_rfl : aFn Tryz.prog (fun _ => none) Tryz.f79 [0, 1, 4, 5, 19] (fun _ => none) (Tryz.f79.body.getD .skip) [.ptr [.int .i64 s, .sl n f es, .sl n2 f2 bs], .int .i64 i] R = zc0 s n f n2 f2 es bs i R) h)

def zb3 (sz : Int) (kn ev : List (PV × PV)) (ixm ixn bkm bkn : Bool) (ix bk : LL) (b : List PV) (R : LV → Hp → Prop) : Prop :=
 128 ≤ (List.drop 0 b).length ∧ zbk Tryz.prog 146 kn ∧ za1 Tryz.prog 146 (PV.agg (List.take 128 (List.drop 0 b))) = true ∧ (∀ (v : PV), zbc (PV.agg (List.take 128 (List.drop 0 b))) kn = some v → ∃ (n : Int), v = Z6 n ∧ R (Y6 n)
 [Ob.box [LV.box 1 0, LV.mp 2, LV.mp 3], Ob.box [Y6 sz, LV.own 4, LV.own 5], Ob.mp kn, Ob.mp ev, Ob.sl (3, 1) ixm ixn ix, Ob.sl (146, 128) bkm bkn bk]) ∧ (zbc (PV.agg (List.take 128 (List.drop 0 b))) kn = none → 128 ≤ (List.drop 0
 b).length ∧ zbk Tryz.prog 146 kn ∧ za1 Tryz.prog 146 (PV.agg (List.take 128 (List.drop 0 b))) = true ∧ 128 ≤ (List.drop 0 b).length ∧ ((List.take 128 (List.drop 0 b)).length = 128 ∧ (szOK [List.take 128 (List.drop 0 b)] 128 ∧
 (bk.length + 1) * 1024 ≤ 140737488355328) ∧ R (Y6 (↑bk.length : Int)) [Ob.box [LV.box 1 0, LV.mp 2, LV.mp 3], Ob.box [Y6 sz, LV.own 4, LV.own 5], Ob.mp (zai (PV.agg (List.take 128 (List.drop 0 b))) (Z6 (↑bk.length : Int)) kn), Ob.mp ev,
 Ob.sl (3, 1) ixm ixn ix, Ob.sl (146, 128) true (bkn && false) (bk ++ [List.take 128 (List.drop 0 b)])]) ∧ (List.take 128 (List.drop 0 b)).length = 128 ∧ Dup ((szOK [List.take 128 (List.drop 0 b)] 128 ∧ (bk.length + 1) * 1024 ≤
 140737488355328) ∧ R (Y6 (↑bk.length : Int)) [Ob.box [LV.box 1 0, LV.mp 2, LV.mp 3], Ob.box [Y6 sz, LV.own 4, LV.own 5], Ob.mp (zai (PV.agg (List.take 128 (List.drop 0 b))) (Z6 (↑bk.length : Int)) kn), Ob.mp ev, Ob.sl ((3 : Nat), 1) ixm
 ixn ix, Ob.sl (146, 128) true (bkn && false) (bk ++ [List.take 128 (List.drop 0 b)])]))
theorem zgg (sz : Int) (kn ev : List (PV × PV)) (ixm ixn bkm bkn : Bool) (ix bk : LL) (b : List PV) {R : LV → Hp → Prop} (h : zb3 sz kn ev ixm ixn bkm bkn ix bk b R) : ACall Tryz.prog 87 [.box 0 0, .pv (.agg b)] [.box [.box 1 0, .mp 2, .mp 3], .box [.pv (.int .i64 sz), .own 4, .own 5], .mp kn, .mp ev, .sl (3, 1) ixm ixn ix, .sl (146, 128) bkm bkn bk] R :=
  ACall.of Tryz.func87 (by kernel_rfl) (by kernel_rfl) (Nat.le_of_ble_eq_true (by kernel_rfl)) (Eq.mpr (by kernel_rfl : aFnH Tryz.prog (fun _ => none) Tryz.f87 [0, 1, 3, 4, 5, 6, 17] (fun _ => none) [0,1,2,3,4,5] (Tryz.f87.body.getD .skip) [.box 0 0, .pv (.agg b)] [.box [.box 1 0, .mp 2, .mp 3], .box [.pv (.int .i64 sz), .own 4, .own 5], .mp kn, .mp ev, .sl (3, 1) ixm ixn ix, .sl (146, 128) bkm bkn bk] R = zb3 sz kn ev ixm ixn bkm bkn ix bk b R) h)

def z15 (sz : Int) (kn ev : List (PV × PV)) (ixm ixn bkm bkn : Bool) (ix bk : LL) (v : Int) (x20 : Int) (m_2 : List (PV × PV)) (m_3 : List (PV × PV)) (c_6 : List PV) : Env × Hp := ([(0, LV.box 0 0), (1, LV.pv (PV.int IntKind.i64 v)), (7, LV.box 6 0), (20, .pv (.int IntKind.i64 x20))], [.box [LV.box 1 0, LV.mp 2, LV.mp 3], .box [LV.pv (PV.int IntKind.i64 sz), LV.own 4, LV.own 5], .mp m_2, .mp m_3, .sl (3, 1) ixm ixn ix, .sl (146, 128) bkm bkn bk, .arr c_6])
def zb4 (sz : Int) (kn ev : List (PV × PV)) (ixm ixn bkm bkn : Bool) (ix bk : LL) (v : Int) (J : Int → (List (PV × PV)) → (List (PV × PV)) → (List PV) → Prop) (μ : Int → (List (PV × PV)) → (List (PV × PV)) → (List PV) → Nat) (R : LV → Hp → Prop) : Prop :=
 zdo .i64 ev ∧ (∀ (v1 : PV), zbc (Z6 v) ev = some v1 → ∃ (n : Int), v1 = Z6 n ∧ R (Y6 n) [Ob.box [LV.box 1 0, LV.mp 2, LV.mp 3], Ob.box [Y6 sz, LV.own 4, LV.own 5], Ob.mp kn, Ob.mp ev, Ob.sl (3, 1) ixm ixn ix, Ob.sl (146, 128) bkm bkn
 bk]) ∧ (zbc (Z6 v) ev = none → (SameSt ([(0, LV.box 0 0), (1, Y6 v), (7, LV.box 6 0), (20, Y6 0)], [Ob.box [LV.box 1 0, LV.mp 2, LV.mp 3], Ob.box [Y6 sz, LV.own 4, LV.own 5], Ob.mp kn, Ob.mp ev, Ob.sl (3, 1) (bif false then true else
 ixm) ixn ix, Ob.sl (146, (128 : Nat)) (bif false then true else bkm) bkn bk, Ob.arr (List.replicate 128 (Z6 0))]) (z15 sz kn ev ixm ixn bkm bkn ix bk v (0 : Int) kn ev (List.replicate 128 (Z6 0))) ∧ J (0 : Int) kn ev (List.replicate 128
 (Z6 0))) ∧ ∀ (x20 : Int) (m_2 m_3 : List (PV × PV)) (c_6 : List PV), J x20 m_2 m_3 c_6 → if decide (x20 < 128) = true then ((0 : Int) ≤ x20 ∧ x20 < (↑128 : Int)) ∧ (1 = 1 ∧ 0 + x20.toNat * 1 + 1 ≤ c_6.length) ∧ SameSt ([(0, LV.box 0 0), (1,
 Y6 v), (7, LV.box 6 0), (20, LV.pv (Z6 (IntKind.i64.wrap (x20 + 1))))], [Ob.box [LV.box 1 0, LV.mp 2, LV.mp 3], Ob.box [Y6 sz, LV.own 4, LV.own 5], Ob.mp m_2, Ob.mp m_3, Ob.sl (3, 1) (bif false then true else ixm) ixn ix, Ob.sl (146, 128)
 (bif false then true else bkm) bkn bk, Ob.arr (spl c_6 (0 + x20.toNat * 1) [Z6 v])]) (z15 sz kn ev ixm ixn bkm bkn ix bk v (IntKind.i64.wrap (x20 + 1)) m_2 m_3 (spl c_6 (0 + x20.toNat * 1) [Z6 v])) ∧ J (IntKind.i64.wrap (x20 + 1)) m_2 m_3
 (spl c_6 (0 + x20.toNat * 1) [Z6 v]) ∧ μ (IntKind.i64.wrap (x20 + 1)) m_2 m_3 (spl c_6 (0 + x20.toNat * 1) [Z6 v]) < μ x20 m_2 m_3 c_6 else 128 ≤ (List.drop 0 c_6).length ∧ ACall Tryz.prog 87 [LV.box 0 0, LV.pv (PV.agg (List.take 128
 (List.drop 0 c_6)))] [Ob.box [LV.box 1 0, LV.mp 2, LV.mp 3], Ob.box [Y6 sz, LV.own 4, LV.own 5], Ob.mp m_2, Ob.mp m_3, Ob.sl (3, 1) false ixn ix, Ob.sl (146, 128) false bkn bk] fun (r : LV) (h' : Hp) ↦ ∃ (t : Int × List (PV × PV) × Bool ×
 LL), (r = Y6 t.1 ∧ h' = [Ob.box [LV.box 1 0, LV.mp 2, LV.mp 3], Ob.box [Y6 sz, LV.own 4, LV.own 5], Ob.mp t.snd.fst, Ob.mp m_3, Ob.sl (3, 1) false ixn ix, Ob.sl (146, (128 : Nat)) true t.snd.snd.fst t.snd.snd.snd]) ∧ (True ∧ ((3, 1) = (3,
 1) ∧ ixn = ixn ∧ ix.length = ix.length) ∧ True ∧ True ∧ True ∧ True ∧ True) ∧ zdo .i64 m_3 ∧ R (Y6 t.1) [Ob.box [LV.box 1 0, LV.mp 2, LV.mp 3], Ob.box [Y6 sz, LV.own 4, LV.own 5], Ob.mp t.snd.fst, Ob.mp (zai (Z6 v) (Z6 t.1) m_3),
 Ob.sl (3, 1) (ixm || false) ixn ix, Ob.sl (146, 128) (bkm || true) t.snd.snd.fst t.snd.snd.snd])
theorem zgh (sz : Int) (kn ev : List (PV × PV)) (ixm ixn bkm bkn : Bool) (ix bk : LL) (v : Int) (J : Int → (List (PV × PV)) → (List (PV × PV)) → (List PV) → Prop) (μ : Int → (List (PV × PV)) → (List (PV × PV)) → (List PV) → Nat) {R : LV → Hp → Prop} (h : zb4 sz kn ev ixm ixn bkm bkn ix bk v J μ R) : ACall Tryz.prog 86 [.box 0 0, .pv (.int .i64 v)] [.box [.box 1 0, .mp 2, .mp 3], .box [.pv (.int .i64 sz), .own 4, .own 5], .mp kn, .mp ev, .sl (3, 1) ixm ixn ix, .sl (146, 128) bkm bkn bk] R :=
  ACall.of Tryz.func86 (by kernel_rfl) (by kernel_rfl) (Nat.le_of_ble_eq_true (by kernel_rfl)) (Eq.mpr (by kernel_rfl : aFnH Tryz.prog (fun zz_ => match zz_ with | 87 => some ⟨Int × List (PV × PV) × Bool × LL, fun _ hs t => (.pv (.int .i64 t.1), match hs with | [m, r, .mp _, ev, ix, .sl a _ _ _] => [m, r, .mp t.2.1, ev, ix, .sl a true t.2.2.1 t.2.2.2] | h => h), none⟩ | _ => none) Tryz.f86 [0, 1, 4, 5, 6, 7, 8, 19, 20, 21] (fun zz_ => match zz_ with | 5 => some ⟨Int × (List (PV × PV)) × (List (PV × PV)) × (List PV), fun s => z15 sz kn ev ixm ixn bkm bkn ix bk v s.1 s.2.1 s.2.2.1 s.2.2.2, fun _ s => J s.1 s.2.1 s.2.2.1 s.2.2.2, fun s => μ s.1 s.2.1 s.2.2.1 s.2.2.2, fun e h => (gI e 20, oM h 2, oM h 3, oA h 6), [], [0, 1, 7, 20], [], fun p => ∀ (x20 : Int) (m_2 : List (PV × PV)) (m_3 : List (PV × PV)) (c_6 : List PV), p (x20, m_2, m_3, c_6), fun p h s => h s.1 s.2.1 s.2.2.1 s.2.2.2⟩ | _ => none) [0,1,2,3,4,5] (Tryz.f86.body.getD .skip) [.box 0 0, .pv (.int .i64 v)] [.box [.box 1 0, .mp 2, .mp 3], .box [.pv (.int .i64 sz), .own 4, .own 5], .mp kn, .mp ev, .sl (3, 1) ixm ixn ix, .sl (146, 128) bkm bkn bk] R = zb4 sz kn ev ixm ixn bkm bkn ix bk v J μ R) h)

def zq8 (sz z : Int) (n f : Bool) (es : LL) (x9 : Int) (x10 : Int) (x11 : Int) (n_2 : Bool) (s_2 : LL) (n_3 : Bool) (s_3 : LL) (m_4 : List (PV × PV)) (m_5 : List (PV × PV)) : Env × Hp := ([(0, LV.pv (PV.int IntKind.i64 sz)), (1, LV.pv (PV.int IntKind.i64 z)), (2, LV.pv (PV.sl n f es)), (7, LV.box 0 0), (8, LV.box 1 0), (9, .pv (.int IntKind.i64 x9)), (10, .pv (.int IntKind.i64 x10)), (11, .pv (.int IntKind.i64 x11))], [.box [LV.pv (PV.int IntKind.i64 sz), LV.own 2, LV.own 3], .box [LV.box 0 0, LV.mp 4, LV.mp 5], .sl (3, 1) true n_2 s_2, .sl (146, 128) true n_3 s_3, .mp m_4, .mp m_5])
def zq9 (sz z : Int) (n f : Bool) (es : LL) (x9 : Int) (x10 : Int) (x11 : Int) (x13 : Int) (n_2 : Bool) (s_2 : LL) (n_3 : Bool) (s_3 : LL) (m_4 : List (PV × PV)) (m_5 : List (PV × PV)) : Env × Hp := ([(0, LV.pv (PV.int IntKind.i64 sz)), (1, LV.pv (PV.int IntKind.i64 z)), (2, LV.pv (PV.sl n f es)), (7, LV.box 0 0), (8, LV.box 1 0), (9, .pv (.int IntKind.i64 x9)), (10, .pv (.int IntKind.i64 x10)), (11, .pv (.int IntKind.i64 x11)), (13, .pv (.int IntKind.i64 x13))], [.box [LV.pv (PV.int IntKind.i64 sz), LV.own 2, LV.own 3], .box [LV.box 0 0, LV.mp 4, LV.mp 5], .sl (3, 1) true n_2 s_2, .sl (146, 128) true n_3 s_3, .mp m_4, .mp m_5])
def zmr (sz z : Int) (n f : Bool) (es : LL) (x9 : Int) (x10 : Int) (x11 : Int) (x88 : Int) (c_2 : List PV) (n_3 : Bool) (s_3 : LL) (n_4 : Bool) (s_4 : LL) (m_5 : List (PV × PV)) (m_6 : List (PV × PV)) : Env × Hp := ([(0, LV.pv (PV.int IntKind.i64 sz)), (1, LV.pv (PV.int IntKind.i64 z)), (2, LV.pv (PV.sl n f es)), (7, LV.box 0 0), (8, LV.box 1 0), (9, .pv (.int IntKind.i64 x9)), (10, .pv (.int IntKind.i64 x10)), (11, .pv (.int IntKind.i64 x11)), (14, LV.box 2 0), (88, .pv (.int IntKind.i64 x88))], [.box [LV.pv (PV.int IntKind.i64 sz), LV.own 3, LV.own 4], .box [LV.box 0 0, LV.mp 5, LV.mp 6], .arr c_2, .sl (3, 1) true n_3 s_3, .sl (146, 128) true n_4 s_4, .mp m_5, .mp m_6])
def zed (sz z : Int) (n f : Bool) (es : LL) (J : Int → Int → Int → Bool → (LL) → Bool → (LL) → (List (PV × PV)) → (List (PV × PV)) → Prop) (μ : Int → Int → Int → Bool → (LL) → Bool → (LL) → (List (PV × PV)) → (List (PV × PV)) → Nat) (J2 : Int → Int → Int → Int → Bool → (LL) → Bool → (LL) → (List (PV × PV)) → (List (PV × PV)) → Int → Int → Int → Int → Bool → (LL) → Bool → (LL) → (List (PV × PV)) → (List (PV × PV)) → Prop) (μ2 : Int → Int → Int → Int → Bool → (LL) → Bool → (LL) → (List (PV × PV)) → (List (PV × PV)) → Nat) (J3 : Int → Int → Int → Int → (List PV) → Bool → (LL) → Bool → (LL) → (List (PV × PV)) → (List (PV × PV)) → Int → Int → Int → Int → (List PV) → Bool → (LL) → Bool → (LL) → (List (PV × PV)) → (List (PV × PV)) → Prop) (μ3 : Int → Int → Int → Int → (List PV) → Bool → (LL) → Bool → (LL) → (List (PV × PV)) → (List (PV × PV)) → Nat) (R : PV → Prop) : Prop :=
 if decide (sz < 1) = true then R PV.nilp else PCall Tryz.prog 85 [PV.sl n f es, Z6 z, Z6 0, Z6 (IntKind.i64.wrap (sz - 1))] fun (v : PV) ↦ ∃ (vs : List PV), v = PV.tup vs ∧ vs.length = (2 : Nat) ∧ ∃ (x : PV), vs.head? = some x ∧ ∃ (n1 :
 Int), x = Z6 n1 ∧ ∃ (x1 : PV), vs.tail.head? = some x1 ∧ ∃ (n2 : Int), x1 = Z6 n2 ∧ (zab (zq8 sz z n f es n1 n2 (0 : Int) true [] true [] [] []) ∧ J n1 n2 (0 : Int) true [] true [] [] []) ∧ ∀ (x9 x10 x11 : Int) (n_2 : Bool) (s_2 : LL)
 (n_3 : Bool) (s_3 : LL) (m_4 m_5 : List (PV × PV)), J x9 x10 x11 n_2 s_2 n_3 s_3 m_4 m_5 → if decide (x11 < sz) = true then if decide (x11 > x10) = true then PCall Tryz.prog 85 [PV.sl n f es, Z6 z, Z6 x11, Z6 (IntKind.i64.wrap (sz - 1))]
 fun (v1 : PV) ↦ ∃ (vs1 : List PV), v1 = PV.tup vs1 ∧ vs1.length = 2 ∧ ∃ (x2 : PV), vs1.head? = some x2 ∧ ∃ (n3 : Int), x2 = Z6 n3 ∧ ∃ (x3 : PV), vs1.tail.head? = some x3 ∧ ∃ (n4 : Int), x3 = Z6 n4 ∧ if decide (n4 ≥ IntKind.i64.wrap ((if sz
 < IntKind.i64.wrap (x11 + 128) then sz else IntKind.i64.wrap (x11 + 128)) - 1)) = true then ACall Tryz.prog 86 [LV.box 0 0, Y6 n3] [Ob.box [LV.box 1 0, LV.mp 2, LV.mp 3], Ob.box [Y6 sz, LV.own 4, LV.own 5], Ob.mp m_4, Ob.mp m_5, Ob.sl (3,
 1) false n_2 s_2, Ob.sl (146, 128) false n_3 s_3] fun (r : LV) (h' : Hp) ↦ ∃ (t : Int × List (PV × PV) × List (PV × PV) × Bool × LL), (r = Y6 t.1 ∧ h' = [Ob.box [LV.box 1 0, LV.mp 2, LV.mp 3], Ob.box [Y6 sz, LV.own 4, LV.own 5], Ob.mp
 t.snd.fst, Ob.mp t.snd.snd.fst, Ob.sl (3, 1) false n_2 s_2, Ob.sl (146, 128) true t.snd.snd.snd.fst t.snd.snd.snd.snd]) ∧ (True ∧ ((3, 1) = (3, 1) ∧ n_2 = n_2 ∧ s_2.length = s_2.length) ∧ True ∧ True ∧ True ∧ True ∧ True) ∧ (zab (zq9
 sz z n f es n3 n4 x11 t.1 n_2 s_2 t.snd.snd.snd.fst t.snd.snd.snd.snd t.snd.fst t.snd.snd.fst) ∧ J2 n3 n4 x11 t.1 n_2 s_2 t.snd.snd.snd.fst t.snd.snd.snd.snd t.snd.fst t.snd.snd.fst n3 n4 x11 t.1 n_2 s_2 t.snd.snd.snd.fst t.snd.snd.snd.snd
 t.snd.fst t.snd.snd.fst) ∧ ∀ (x91 x101 x111 x13 : Int) (n_21 : Bool) (s_21 : LL) (n_31 : Bool) (s_31 : LL) (m_41 m_51 : List (PV × PV)), J2 n3 n4 x11 t.1 n_2 s_2 t.snd.snd.snd.fst t.snd.snd.snd.snd t.snd.fst t.snd.snd.fst x91 x101 x111 x13
 n_21 s_21 n_31 s_31 m_41 m_51 → if (decide (x111 < sz) && decide (x101 ≥ IntKind.i64.wrap ((if sz < IntKind.i64.wrap (x111 + 128) then sz else IntKind.i64.wrap (x111 + 128)) - 1))) = true then (szOK [[Z6 x13]] 1 ∧ (s_21.length + 1) * 8 ≤
 140737488355328) ∧ zab (zq9 sz z n f es x91 x101 (IntKind.i64.wrap (x111 + 128)) x13 (n_21 && false) (s_21 ++ [[Z6 x13]]) n_31 s_31 m_41 m_51) ∧ J2 n3 n4 x11 t.1 n_2 s_2 t.snd.snd.snd.fst t.snd.snd.snd.snd t.snd.fst t.snd.snd.fst x91
 x101 (IntKind.i64.wrap (x111 + 128)) x13 (n_21 && false) (s_21 ++ [[Z6 x13]]) n_31 s_31 m_41 m_51 ∧ μ2 x91 x101 (IntKind.i64.wrap (x111 + 128)) x13 (n_21 && false) (s_21 ++ [[Z6 x13]]) n_31 s_31 m_41 m_51 < μ2 x91 x101 x111 x13 n_21 s_21
 n_31 s_31 m_41 m_51 else zab (zq8 sz z n f es x91 x101 (IntKind.i64.wrap (IntKind.i64.wrap (x111 - 128) + 128)) n_21 s_21 n_31 s_31 m_41 m_51) ∧ J x91 x101 (IntKind.i64.wrap (IntKind.i64.wrap (x111 - 128) + 128)) n_21 s_21 n_31 s_31
 m_41 m_51 ∧ μ x91 x101 (IntKind.i64.wrap (IntKind.i64.wrap (x111 - 128) + 128)) n_21 s_21 n_31 s_31 m_41 m_51 < μ x9 x10 x11 n_2 s_2 n_3 s_3 m_4 m_5 else (zab (zmr sz z n f es n3 n4 x11 (0 : Int) (List.replicate 128 (Z6 0)) n_2 s_2 n_3
 s_3 m_4 m_5) ∧ J3 n3 n4 x11 (0 : Int) (List.replicate 128 (Z6 0)) n_2 s_2 n_3 s_3 m_4 m_5 n3 n4 x11 (0 : Int) (List.replicate 128 (Z6 0)) n_2 s_2 n_3 s_3 m_4 m_5) ∧ ∀ (x91 x101 x111 x88 : Int) (c_2 : List PV) (n_31 : Bool) (s_31 : LL) (n_4
 : Bool) (s_4 : LL) (m_51 m_6 : List (PV × PV)), J3 n3 n4 x11 (0 : Int) (List.replicate 128 (Z6 0)) n_2 s_2 n_3 s_3 m_4 m_5 x91 x101 x111 x88 c_2 n_31 s_31 n_4 s_4 m_51 m_6 → if decide (x88 < 128) = true then if (decide (IntKind.i64.wrap
 (x111 + x88) > x101) && decide (IntKind.i64.wrap (x111 + x88) < sz)) = true then PCall Tryz.prog 85 [PV.sl n f es, Z6 z, Z6 (IntKind.i64.wrap (x111 + x88)), Z6 (IntKind.i64.wrap (sz - 1))] fun (v2 : PV) ↦ ∃ (vs2 : List PV), v2 = PV.tup vs2
 ∧ vs2.length = 2 ∧ ∃ (x4 : PV), vs2.head? = some x4 ∧ ∃ (n5 : Int), x4 = Z6 n5 ∧ ∃ (x5 : PV), vs2.tail.head? = some x5 ∧ ∃ (n6 : Int), x5 = Z6 n6 ∧ ((0 : Int) ≤ x88 ∧ x88 < (↑128 : Int)) ∧ (1 = 1 ∧ 0 + x88.toNat * 1 + 1 ≤ c_2.length) ∧
 zab (zmr sz z n f es n5 n6 x111 (IntKind.i64.wrap (x88 + 1)) (spl c_2 (0 + x88.toNat * 1) [Z6 n5]) n_31 s_31 n_4 s_4 m_51 m_6) ∧ J3 n3 n4 x11 (0 : Int) (List.replicate 128 (Z6 0)) n_2 s_2 n_3 s_3 m_4 m_5 n5 n6 x111 (IntKind.i64.wrap
 (x88 + 1)) (spl c_2 (0 + x88.toNat * 1) [Z6 n5]) n_31 s_31 n_4 s_4 m_51 m_6 ∧ μ3 n5 n6 x111 (IntKind.i64.wrap (x88 + 1)) (spl c_2 (0 + x88.toNat * 1) [Z6 n5]) n_31 s_31 n_4 s_4 m_51 m_6 < μ3 x91 x101 x111 x88 c_2 n_31 s_31 n_4 s_4 m_51 m_6
 else ((0 : Int) ≤ x88 ∧ x88 < (↑128 : Int)) ∧ (1 = 1 ∧ 0 + x88.toNat * 1 + 1 ≤ c_2.length) ∧ zab (zmr sz z n f es x91 x101 x111 (IntKind.i64.wrap (x88 + 1)) (spl c_2 (0 + x88.toNat * 1) [Z6 x91]) n_31 s_31 n_4 s_4 m_51 m_6) ∧ J3 n3 n4
 x11 (0 : Int) (List.replicate 128 (Z6 0)) n_2 s_2 n_3 s_3 m_4 m_5 x91 x101 x111 (IntKind.i64.wrap (x88 + 1)) (spl c_2 (0 + x88.toNat * 1) [Z6 x91]) n_31 s_31 n_4 s_4 m_51 m_6 ∧ μ3 x91 x101 x111 (IntKind.i64.wrap (x88 + 1)) (spl c_2 (0 +
 x88.toNat * 1) [Z6 x91]) n_31 s_31 n_4 s_4 m_51 m_6 < μ3 x91 x101 x111 x88 c_2 n_31 s_31 n_4 s_4 m_51 m_6 else 128 ≤ (List.drop 0 c_2).length ∧ (ACall Tryz.prog 87 [LV.box 0 0, LV.pv (PV.agg (List.take 128 (List.drop 0 c_2)))] [Ob.box
 [LV.box 1 0, LV.mp 2, LV.mp 3], Ob.box [Y6 sz, LV.own 4, LV.own 5], Ob.mp m_51, Ob.mp m_6, Ob.sl (3, 1) false n_31 s_31, Ob.sl (146, 128) false n_4 s_4] fun (r : LV) (h' : Hp) ↦ ∃ (t : Int × List (PV × PV) × Bool × LL), (r = Y6 t.1 ∧ h' =
 [Ob.box [LV.box 1 0, LV.mp 2, LV.mp 3], Ob.box [Y6 sz, LV.own 4, LV.own 5], Ob.mp t.snd.fst, Ob.mp m_6, Ob.sl (3, 1) false n_31 s_31, Ob.sl (146, 128) true t.snd.snd.fst t.snd.snd.snd]) ∧ (True ∧ ((3, 1) = (3, 1) ∧ n_31 = n_31 ∧ s_31.length
 = s_31.length) ∧ True ∧ True ∧ True ∧ True ∧ True) ∧ (szOK [[Z6 t.1]] 1 ∧ (s_31.length + 1) * 8 ≤ 140737488355328) ∧ zab (zq8 sz z n f es x91 x101 (IntKind.i64.wrap (x111 + 128)) (n_31 && false) (s_31 ++ [[Z6 t.1]]) t.snd.snd.fst
 t.snd.snd.snd t.snd.fst m_6) ∧ J x91 x101 (IntKind.i64.wrap (x111 + 128)) (n_31 && false) (s_31 ++ [[Z6 t.1]]) t.snd.snd.fst t.snd.snd.snd t.snd.fst m_6 ∧ μ x91 x101 (IntKind.i64.wrap (x111 + 128)) (n_31 && false) (s_31 ++ [[Z6 t.1]])
 t.snd.snd.fst t.snd.snd.snd t.snd.fst m_6 < μ x9 x10 x11 n_2 s_2 n_3 s_3 m_4 m_5) ∧ ACall Tryz.prog 87 [LV.box 0 0, LV.pv (PV.agg (List.take 128 (List.drop 0 c_2)))] [Ob.box [LV.box 1 0, LV.mp 2, LV.mp 3], Ob.box [Y6 sz, LV.own 4, LV.own
 5], Ob.mp m_51, Ob.mp m_6, Ob.sl ((3 : Nat), 1) false n_31 s_31, Ob.sl (146, 128) false n_4 s_4] fun (r : LV) (h' : Hp) ↦ ∃ (t : Int × List (PV × PV) × Bool × LL), (r = Y6 t.1 ∧ h' = [Ob.box [LV.box 1 0, LV.mp 2, LV.mp 3], Ob.box [Y6 sz,
 LV.own 4, LV.own 5], Ob.mp t.snd.fst, Ob.mp m_6, Ob.sl (3, 1) false n_31 s_31, Ob.sl (146, 128) true t.snd.snd.fst t.snd.snd.snd]) ∧ (True ∧ ((3, 1) = ((3 : Nat), 1) ∧ n_31 = n_31 ∧ s_31.length = s_31.length) ∧ True ∧ True ∧ True ∧ True ∧
 True) ∧ (szOK [[Z6 t.1]] 1 ∧ (s_31.length + 1) * 8 ≤ 140737488355328) ∧ zab (zq8 sz z n f es x91 x101 (IntKind.i64.wrap (x111 + 128)) (n_31 && false) (s_31 ++ [[Z6 t.1]]) t.snd.snd.fst t.snd.snd.snd t.snd.fst m_6) ∧ J x91 x101
 (IntKind.i64.wrap (x111 + 128)) (n_31 && false) (s_31 ++ [[Z6 t.1]]) t.snd.snd.fst t.snd.snd.snd t.snd.fst m_6 ∧ μ x91 x101 (IntKind.i64.wrap (x111 + 128)) (n_31 && false) (s_31 ++ [[Z6 t.1]]) t.snd.snd.fst t.snd.snd.snd t.snd.fst m_6 < μ
 x9 x10 x11 n_2 s_2 n_3 s_3 m_4 m_5 else if decide (x10 ≥ IntKind.i64.wrap ((if sz < IntKind.i64.wrap (x11 + 128) then sz else IntKind.i64.wrap (x11 + 128)) - 1)) = true then ACall Tryz.prog 86 [LV.box 0 0, Y6 x9] [Ob.box [LV.box 1 0, LV.mp
 2, LV.mp 3], Ob.box [Y6 sz, LV.own 4, LV.own 5], Ob.mp m_4, Ob.mp m_5, Ob.sl (3, 1) false n_2 s_2, Ob.sl (146, 128) false n_3 s_3] fun (r : LV) (h' : Hp) ↦ ∃ (t : Int × List (PV × PV) × List (PV × PV) × Bool × LL), (r = Y6 t.1 ∧ h' =
 [Ob.box [LV.box 1 0, LV.mp 2, LV.mp 3], Ob.box [Y6 sz, LV.own 4, LV.own 5], Ob.mp t.snd.fst, Ob.mp t.snd.snd.fst, Ob.sl (3, 1) false n_2 s_2, Ob.sl (146, 128) true t.snd.snd.snd.fst t.snd.snd.snd.snd]) ∧ (True ∧ ((3, 1) = (3, 1) ∧ n_2 = n_2
 ∧ s_2.length = s_2.length) ∧ True ∧ True ∧ True ∧ True ∧ True) ∧ (zab (zq9 sz z n f es x9 x10 x11 t.1 n_2 s_2 t.snd.snd.snd.fst t.snd.snd.snd.snd t.snd.fst t.snd.snd.fst) ∧ J2 x9 x10 x11 t.1 n_2 s_2 t.snd.snd.snd.fst t.snd.snd.snd.snd
 t.snd.fst t.snd.snd.fst x9 x10 x11 t.1 n_2 s_2 t.snd.snd.snd.fst t.snd.snd.snd.snd t.snd.fst t.snd.snd.fst) ∧ ∀ (x91 x101 x111 x13 : Int) (n_21 : Bool) (s_21 : LL) (n_31 : Bool) (s_31 : LL) (m_41 m_51 : List (PV × PV)), J2 x9 x10 x11 t.1
 n_2 s_2 t.snd.snd.snd.fst t.snd.snd.snd.snd t.snd.fst t.snd.snd.fst x91 x101 x111 x13 n_21 s_21 n_31 s_31 m_41 m_51 → if (decide (x111 < sz) && decide (x101 ≥ IntKind.i64.wrap ((if sz < IntKind.i64.wrap (x111 + 128) then sz else
 IntKind.i64.wrap (x111 + 128)) - 1))) = true then (szOK [[Z6 x13]] 1 ∧ (s_21.length + 1) * 8 ≤ 140737488355328) ∧ zab (zq9 sz z n f es x91 x101 (IntKind.i64.wrap (x111 + 128)) x13 (n_21 && false) (s_21 ++ [[Z6 x13]]) n_31 s_31 m_41
 m_51) ∧ J2 x9 x10 x11 t.1 n_2 s_2 t.snd.snd.snd.fst t.snd.snd.snd.snd t.snd.fst t.snd.snd.fst x91 x101 (IntKind.i64.wrap (x111 + 128)) x13 (n_21 && false) (s_21 ++ [[Z6 x13]]) n_31 s_31 m_41 m_51 ∧ μ2 x91 x101 (IntKind.i64.wrap (x111 +
 128)) x13 (n_21 && false) (s_21 ++ [[Z6 x13]]) n_31 s_31 m_41 m_51 < μ2 x91 x101 x111 x13 n_21 s_21 n_31 s_31 m_41 m_51 else zab (zq8 sz z n f es x91 x101 (IntKind.i64.wrap (IntKind.i64.wrap (x111 - 128) + 128)) n_21 s_21 n_31 s_31 m_41
 m_51) ∧ J x91 x101 (IntKind.i64.wrap (IntKind.i64.wrap (x111 - 128) + 128)) n_21 s_21 n_31 s_31 m_41 m_51 ∧ μ x91 x101 (IntKind.i64.wrap (IntKind.i64.wrap (x111 - 128) + 128)) n_21 s_21 n_31 s_31 m_41 m_51 < μ x9 x10 x11 n_2 s_2 n_3 s_3 m_4
 m_5 else (zab (zmr sz z n f es x9 x10 x11 (0 : Int) (List.replicate 128 (Z6 0)) n_2 s_2 n_3 s_3 m_4 m_5) ∧ J3 x9 x10 x11 (0 : Int) (List.replicate 128 (Z6 0)) n_2 s_2 n_3 s_3 m_4 m_5 x9 x10 x11 (0 : Int) (List.replicate 128 (Z6 0)) n_2
 s_2 n_3 s_3 m_4 m_5) ∧ ∀ (x91 x101 x111 x88 : Int) (c_2 : List PV) (n_31 : Bool) (s_31 : LL) (n_4 : Bool) (s_4 : LL) (m_51 m_6 : List (PV × PV)), J3 x9 x10 x11 (0 : Int) (List.replicate 128 (Z6 0)) n_2 s_2 n_3 s_3 m_4 m_5 x91 x101 x111 x88
 c_2 n_31 s_31 n_4 s_4 m_51 m_6 → if decide (x88 < 128) = true then if (decide (IntKind.i64.wrap (x111 + x88) > x101) && decide (IntKind.i64.wrap (x111 + x88) < sz)) = true then PCall Tryz.prog 85 [PV.sl n f es, Z6 z, Z6 (IntKind.i64.wrap
 (x111 + x88)), Z6 (IntKind.i64.wrap (sz - 1))] fun (v1 : PV) ↦ ∃ (vs1 : List PV), v1 = PV.tup vs1 ∧ vs1.length = 2 ∧ ∃ (x2 : PV), vs1.head? = some x2 ∧ ∃ (n3 : Int), x2 = Z6 n3 ∧ ∃ (x3 : PV), vs1.tail.head? = some x3 ∧ ∃ (n4 : Int), x3 = Z6
 n4 ∧ ((0 : Int) ≤ x88 ∧ x88 < (↑128 : Int)) ∧ (1 = 1 ∧ 0 + x88.toNat * (1 : Nat) + 1 ≤ c_2.length) ∧ zab (zmr sz z n f es n3 n4 x111 (IntKind.i64.wrap (x88 + 1)) (spl c_2 (0 + x88.toNat * 1) [Z6 n3]) n_31 s_31 n_4 s_4 m_51 m_6) ∧ J3 x9
 x10 x11 (0 : Int) (List.replicate 128 (Z6 0)) n_2 s_2 n_3 s_3 m_4 m_5 n3 n4 x111 (IntKind.i64.wrap (x88 + 1)) (spl c_2 (0 + x88.toNat * 1) [Z6 n3]) n_31 s_31 n_4 s_4 m_51 m_6 ∧ μ3 n3 n4 x111 (IntKind.i64.wrap (x88 + 1)) (spl c_2 (0 +
 x88.toNat * 1) [Z6 n3]) n_31 s_31 n_4 s_4 m_51 m_6 < μ3 x91 x101 x111 x88 c_2 n_31 s_31 n_4 s_4 m_51 m_6 else ((0 : Int) ≤ x88 ∧ x88 < (↑128 : Int)) ∧ (1 = 1 ∧ (0 : Nat) + x88.toNat * 1 + 1 ≤ c_2.length) ∧ zab (zmr sz z n f es x91 x101
 x111 (IntKind.i64.wrap (x88 + 1)) (spl c_2 (0 + x88.toNat * 1) [Z6 x91]) n_31 s_31 n_4 s_4 m_51 m_6) ∧ J3 x9 x10 x11 (0 : Int) (List.replicate 128 (Z6 0)) n_2 s_2 n_3 s_3 m_4 m_5 x91 x101 x111 (IntKind.i64.wrap (x88 + 1)) (spl c_2 (0 +
 x88.toNat * 1) [Z6 x91]) n_31 s_31 n_4 s_4 m_51 m_6 ∧ μ3 x91 x101 x111 (IntKind.i64.wrap (x88 + 1)) (spl c_2 (0 + x88.toNat * 1) [Z6 x91]) n_31 s_31 n_4 s_4 m_51 m_6 < μ3 x91 x101 x111 x88 c_2 n_31 s_31 n_4 s_4 m_51 m_6 else 128 ≤
 (List.drop 0 c_2).length ∧ (ACall Tryz.prog 87 [LV.box 0 0, LV.pv (PV.agg (List.take 128 (List.drop 0 c_2)))] [Ob.box [LV.box 1 0, LV.mp 2, LV.mp 3], Ob.box [Y6 sz, LV.own 4, LV.own 5], Ob.mp m_51, Ob.mp m_6, Ob.sl (3, (1 : Nat)) false n_31
 s_31, Ob.sl (146, 128) false n_4 s_4] fun (r : LV) (h' : Hp) ↦ ∃ (t : Int × List (PV × PV) × Bool × LL), (r = Y6 t.1 ∧ h' = [Ob.box [LV.box 1 0, LV.mp 2, LV.mp 3], Ob.box [Y6 sz, LV.own 4, LV.own 5], Ob.mp t.snd.fst, Ob.mp m_6, Ob.sl (3, 1)
 false n_31 s_31, Ob.sl (146, 128) true t.snd.snd.fst t.snd.snd.snd]) ∧ (True ∧ ((3, 1) = (3, 1) ∧ n_31 = n_31 ∧ s_31.length = s_31.length) ∧ True ∧ True ∧ True ∧ True ∧ True) ∧ (szOK [[Z6 t.1]] 1 ∧ (s_31.length + 1) * 8 ≤ 140737488355328) ∧
 zab (zq8 sz z n f es x91 x101 (IntKind.i64.wrap (x111 + 128)) (n_31 && false) (s_31 ++ [[Z6 t.1]]) t.snd.snd.fst t.snd.snd.snd t.snd.fst m_6) ∧ J x91 x101 (IntKind.i64.wrap (x111 + 128)) (n_31 && false) (s_31 ++ [[Z6 t.1]])
 t.snd.snd.fst t.snd.snd.snd t.snd.fst m_6 ∧ μ x91 x101 (IntKind.i64.wrap (x111 + 128)) (n_31 && false) (s_31 ++ [[Z6 t.1]]) t.snd.snd.fst t.snd.snd.snd t.snd.fst m_6 < μ x9 x10 x11 n_2 s_2 n_3 s_3 m_4 m_5) ∧ ACall Tryz.prog 87 [LV.box 0 0,
 LV.pv (PV.agg (List.take 128 (List.drop 0 c_2)))] [Ob.box [LV.box 1 0, LV.mp 2, LV.mp 3], Ob.box [Y6 sz, LV.own 4, LV.own 5], Ob.mp m_51, Ob.mp m_6, Ob.sl (3, 1) false n_31 s_31, Ob.sl (146, 128) false n_4 s_4] fun (r : LV) (h' : Hp) ↦ ∃ (t
 : Int × List (PV × PV) × Bool × LL), (r = Y6 t.1 ∧ h' = [Ob.box [LV.box 1 0, LV.mp 2, LV.mp 3], Ob.box [Y6 sz, LV.own 4, LV.own 5], Ob.mp t.snd.fst, Ob.mp m_6, Ob.sl (3, 1) false n_31 s_31, Ob.sl (146, 128) true t.snd.snd.fst
 t.snd.snd.snd]) ∧ (True ∧ ((3, 1) = (3, 1) ∧ n_31 = n_31 ∧ s_31.length = s_31.length) ∧ True ∧ True ∧ True ∧ True ∧ True) ∧ (szOK [[Z6 t.1]] 1 ∧ (s_31.length + 1) * 8 ≤ 140737488355328) ∧ zab (zq8 sz z n f es x91 x101 (IntKind.i64.wrap
 (x111 + 128)) (n_31 && false) (s_31 ++ [[Z6 t.1]]) t.snd.snd.fst t.snd.snd.snd t.snd.fst m_6) ∧ J x91 x101 (IntKind.i64.wrap (x111 + 128)) (n_31 && false) (s_31 ++ [[Z6 t.1]]) t.snd.snd.fst t.snd.snd.snd t.snd.fst m_6 ∧ μ x91 x101
 (IntKind.i64.wrap (x111 + 128)) (n_31 && false) (s_31 ++ [[Z6 t.1]]) t.snd.snd.fst t.snd.snd.snd t.snd.fst m_6 < μ x9 x10 x11 n_2 s_2 n_3 s_3 m_4 m_5 else R (PV.ptr [Z6 sz, PV.sl n_2 false s_2, PV.sl n_3 false s_3])
theorem zlh (sz z : Int) (n f : Bool) (es : LL) (J : Int → Int → Int → Bool → (LL) → Bool → (LL) → (List (PV × PV)) → (List (PV × PV)) → Prop) (μ : Int → Int → Int → Bool → (LL) → Bool → (LL) → (List (PV × PV)) → (List (PV × PV)) → Nat) (J2 : Int → Int → Int → Int → Bool → (LL) → Bool → (LL) → (List (PV × PV)) → (List (PV × PV)) → Int → Int → Int → Int → Bool → (LL) → Bool → (LL) → (List (PV × PV)) → (List (PV × PV)) → Prop) (μ2 : Int → Int → Int → Int → Bool → (LL) → Bool → (LL) → (List (PV × PV)) → (List (PV × PV)) → Nat) (J3 : Int → Int → Int → Int → (List PV) → Bool → (LL) → Bool → (LL) → (List (PV × PV)) → (List (PV × PV)) → Int → Int → Int → Int → (List PV) → Bool → (LL) → Bool → (LL) → (List (PV × PV)) → (List (PV × PV)) → Prop) (μ3 : Int → Int → Int → Int → (List PV) → Bool → (LL) → Bool → (LL) → (List (PV × PV)) → (List (PV × PV)) → Nat) {R : PV → Prop} (h : zed sz z n f es J μ J2 μ2 J3 μ3 R) : PCall Tryz.prog 55 [.int .i64 sz, .int .i64 z, .sl n f es] R :=
  PCall.of Tryz.func55 (by kernel_rfl) (by kernel_rfl) (Nat.le_of_ble_eq_true (by kernel_rfl)) (Eq.mpr (by kernel_rfl : aFn Tryz.prog (fun zz_ => match zz_ with | 87 => some ⟨Int × List (PV × PV) × Bool × LL, fun _ hs t => (.pv (.int .i64 t.1), match hs with | [m, r, .mp _, ev, ix, .sl a _ _ _] => [m, r, .mp t.2.1, ev, ix, .sl a true t.2.2.1 t.2.2.2] | h => h), none⟩ | 86 => some ⟨Int × List (PV × PV) × List (PV × PV) × Bool × LL, fun _ hs t => (.pv (.int .i64 t.1), match hs with | [m, r, .mp _, .mp _, ix, .sl a _ _ _] => [m, r, .mp t.2.1, .mp t.2.2.1, ix, .sl a true t.2.2.2.1 t.2.2.2.2] | h => h), none⟩ | _ => none) Tryz.f55 [0, 1, 2, 6, 7, 8, 9, 10, 11, 12, 13, 14, 15, 17, 36, 41, 58, 73, 88, 89, 102] (fun zz_ => match zz_ with | 7 => some ⟨Int × Int × Int × Bool × (LL) × Bool × (LL) × (List (PV × PV)) × (List (PV × PV)), fun s => zq8 sz z n f es s.1 s.2.1 s.2.2.1 s.2.2.2.1 s.2.2.2.2.1 s.2.2.2.2.2.1 s.2.2.2.2.2.2.1 s.2.2.2.2.2.2.2.1 s.2.2.2.2.2.2.2.2, fun _ s => J s.1 s.2.1 s.2.2.1 s.2.2.2.1 s.2.2.2.2.1 s.2.2.2.2.2.1 s.2.2.2.2.2.2.1 s.2.2.2.2.2.2.2.1 s.2.2.2.2.2.2.2.2, fun s => μ s.1 s.2.1 s.2.2.1 s.2.2.2.1 s.2.2.2.2.1 s.2.2.2.2.2.1 s.2.2.2.2.2.2.1 s.2.2.2.2.2.2.2.1 s.2.2.2.2.2.2.2.2, fun e h => (gI e 9, gI e 10, gI e 11, oN h 2, oS h 2, oN h 3, oS h 3, oM h 4, oM h 5), [(1000001, 3, 1), (1000002, 146, 128)], [0, 1, 2, 7, 8, 9, 10, 11], [], fun p => ∀ (x9 : Int) (x10 : Int) (x11 : Int) (n_2 : Bool) (s_2 : LL) (n_3 : Bool) (s_3 : LL) (m_4 : List (PV × PV)) (m_5 : List (PV × PV)), p (x9, x10, x11, n_2, s_2, n_3, s_3, m_4, m_5), fun p h s => h s.1 s.2.1 s.2.2.1 s.2.2.2.1 s.2.2.2.2.1 s.2.2.2.2.2.1 s.2.2.2.2.2.2.1 s.2.2.2.2.2.2.2.1 s.2.2.2.2.2.2.2.2⟩ | 14 => some ⟨Int × Int × Int × Int × Bool × (LL) × Bool × (LL) × (List (PV × PV)) × (List (PV × PV)), fun s => zq9 sz z n f es s.1 s.2.1 s.2.2.1 s.2.2.2.1 s.2.2.2.2.1 s.2.2.2.2.2.1 s.2.2.2.2.2.2.1 s.2.2.2.2.2.2.2.1 s.2.2.2.2.2.2.2.2.1 s.2.2.2.2.2.2.2.2.2, fun t s => J2 t.1 t.2.1 t.2.2.1 t.2.2.2.1 t.2.2.2.2.1 t.2.2.2.2.2.1 t.2.2.2.2.2.2.1 t.2.2.2.2.2.2.2.1 t.2.2.2.2.2.2.2.2.1 t.2.2.2.2.2.2.2.2.2 s.1 s.2.1 s.2.2.1 s.2.2.2.1 s.2.2.2.2.1 s.2.2.2.2.2.1 s.2.2.2.2.2.2.1 s.2.2.2.2.2.2.2.1 s.2.2.2.2.2.2.2.2.1 s.2.2.2.2.2.2.2.2.2, fun s => μ2 s.1 s.2.1 s.2.2.1 s.2.2.2.1 s.2.2.2.2.1 s.2.2.2.2.2.1 s.2.2.2.2.2.2.1 s.2.2.2.2.2.2.2.1 s.2.2.2.2.2.2.2.2.1 s.2.2.2.2.2.2.2.2.2, fun e h => (gI e 9, gI e 10, gI e 11, gI e 13, oN h 2, oS h 2, oN h 3, oS h 3, oM h 4, oM h 5), [], [0, 1, 2, 7, 8, 9, 10, 11, 13], [], fun p => ∀ (x9 : Int) (x10 : Int) (x11 : Int) (x13 : Int) (n_2 : Bool) (s_2 : LL) (n_3 : Bool) (s_3 : LL) (m_4 : List (PV × PV)) (m_5 : List (PV × PV)), p (x9, x10, x11, x13, n_2, s_2, n_3, s_3, m_4, m_5), fun p h s => h s.1 s.2.1 s.2.2.1 s.2.2.2.1 s.2.2.2.2.1 s.2.2.2.2.2.1 s.2.2.2.2.2.2.1 s.2.2.2.2.2.2.2.1 s.2.2.2.2.2.2.2.2.1 s.2.2.2.2.2.2.2.2.2⟩ | 20 => some ⟨Int × Int × Int × Int × (List PV) × Bool × (LL) × Bool × (LL) × (List (PV × PV)) × (List (PV × PV)), fun s => zmr sz z n f es s.1 s.2.1 s.2.2.1 s.2.2.2.1 s.2.2.2.2.1 s.2.2.2.2.2.1 s.2.2.2.2.2.2.1 s.2.2.2.2.2.2.2.1 s.2.2.2.2.2.2.2.2.1 s.2.2.2.2.2.2.2.2.2.1 s.2.2.2.2.2.2.2.2.2.2, fun t s => J3 t.1 t.2.1 t.2.2.1 t.2.2.2.1 t.2.2.2.2.1 t.2.2.2.2.2.1 t.2.2.2.2.2.2.1 t.2.2.2.2.2.2.2.1 t.2.2.2.2.2.2.2.2.1 t.2.2.2.2.2.2.2.2.2.1 t.2.2.2.2.2.2.2.2.2.2 s.1 s.2.1 s.2.2.1 s.2.2.2.1 s.2.2.2.2.1 s.2.2.2.2.2.1 s.2.2.2.2.2.2.1 s.2.2.2.2.2.2.2.1 s.2.2.2.2.2.2.2.2.1 s.2.2.2.2.2.2.2.2.2.1 s.2.2.2.2.2.2.2.2.2.2, fun s => μ3 s.1 s.2.1 s.2.2.1 s.2.2.2.1 s.2.2.2.2.1 s.2.2.2.2.2.1 s.2.2.2.2.2.2.1 s.2.2.2.2.2.2.2.1 s.2.2.2.2.2.2.2.2.1 s.2.2.2.2.2.2.2.2.2.1 s.2.2.2.2.2.2.2.2.2.2, fun e h => (gI e 9, gI e 10, gI e 11, gI e 88, oA h 2, oN h 3, oS h 3, oN h 4, oS h 4, oM h 5, oM h 6), [], [0, 1, 2, 7, 8, 9, 10, 11, 14, 88], [], fun p => ∀ (x9 : Int) (x10 : Int) (x11 : Int) (x88 : Int) (c_2 : List PV) (n_3 : Bool) (s_3 : LL) (n_4 : Bool) (s_4 : LL) (m_5 : List (PV × PV)) (m_6 : List (PV × PV)), p (x9, x10, x11, x88, c_2, n_3, s_3, n_4, s_4, m_5, m_6), fun p h s => h s.1 s.2.1 s.2.2.1 s.2.2.2.1 s.2.2.2.2.1 s.2.2.2.2.2.1 s.2.2.2.2.2.2.1 s.2.2.2.2.2.2.2.1 s.2.2.2.2.2.2.2.2.1 s.2.2.2.2.2.2.2.2.2.1 s.2.2.2.2.2.2.2.2.2.2⟩ | _ => none) (Tryz.f55.body.getD .skip) [.int .i64 sz, .int .i64 z, .sl n f es] R = zed sz z n f es J μ J2 μ2 J3 μ3 R) h)

end Go.Eng



namespace Go.Eng
open Go
theorem HRel.markH {w : World} {I : Nat → Prop} {G : Nat → Pl} {h : Hp} (n0 : Nat) (mv : List Nat) (hs : HRel w I G h) : HRel w I G (markH n0 mv 0 h) ∧ (∀ b, Owns (Go.Eng.markH n0 mv 0 h) G b → Owns h G b) ∧ Like G G h (Go.Eng.markH n0 mv 0 h) := by
  have hget : ∀ i, (Go.Eng.markH n0 mv 0 h)[i]? = (h[i]?).map (zlc n0 mv i) := fun i => by rw [zg1, Nat.zero_add]
  have hl : Like G G h (Go.Eng.markH n0 mv 0 h) := fun o ob ho => ⟨⟨_, by rw [hget, ho]; rfl, zn9 ob⟩, fun _ => rfl⟩
  have split : ∀ {i : Nat} {x : Ob}, (Go.Eng.markH n0 mv 0 h)[i]? = some x → ∃ ob, h[i]? = some ob ∧ x = zlc n0 mv i ob := fun {i x} hx => by
    rw [hget] at hx
    cases hob : h[i]? with
    | none => rw [hob] at hx; cases hx
    | some ob => rw [hob] at hx; cases hx; exact ⟨ob, rfl, rfl⟩
  refine ⟨⟨fun i x hx => ?_, fun i j x y hx ax hy ay hb => ?_, fun i x hx ax => ?_, hs.cl⟩, fun b ⟨i, x, hx, ax, hb⟩ => ?_, hl⟩
  · obtain ⟨ob, hob, rfl⟩ := split hx
    have := hs.obs i ob hob
    cases ob with
    | dead => trivial
    | box cs => obtain ⟨vs, ty, e1, e2, e3⟩ := this; exact ⟨vs, ty, e1, e2, fun k v hv => ⟨(e3 k v hv).1.mono (Keeps.refl w I) hl, (e3 k v hv).2⟩⟩
    | arr cs => exact this
    | sl ty m n es => cases n <;> exact this
    | mp kvs => exact this
    | iter ty rem cur => exact this
  · obtain ⟨ob, hob, rfl⟩ := split hx
    obtain ⟨ob2, hob2, rfl⟩ := split hy
    exact hs.sep i j ob ob2 hob (zcb.1 ax) hob2 (zcb.1 ay) hb
  · obtain ⟨ob, hob, rfl⟩ := split hx
    exact hs.nI i ob hob (zcb.1 ax)
  · obtain ⟨ob, hob, rfl⟩ := split hx
    exact ⟨i, ob, hob, zcb.1 ax, hb⟩
theorem ACall.mark (n0 : Nat) (mv : List Nat) {P : Program} {f : Nat} {args : List LV} {h : Hp} {R R' : LV → Hp → Prop} (hc : ACall P f args h R) (hq : ∀ r h', R r h' → R' r (markH n0 mv 0 h')) : ACall P f args h R' := by
  refine ⟨hc.1, fun w I G cargs h1 h2 h3 => (hc.2 w I G cargs h1 h2 h3).mono fun e w' ⟨cv, r, h', I', G', e1, e2, e3, e4, e5⟩ => ?_⟩
  obtain ⟨m1, m2, m3⟩ := e3.markH n0 mv
  refine ⟨cv, r, markH n0 mv 0 h', I', G', e1, hq _ _ e2, m1, e4.mono (Keeps.refl _ _) m3, ⟨e5.1.trans (Tr.less m2), by rw [zg2]; exact e5.2, fun o ob' ho hx hf => ?_⟩⟩
  rw [zg1, Nat.zero_add] at hx
  cases hob : h'[o]? with
  | none => rw [hob] at hx; cases hx
  | some ob =>
    rw [hob] at hx; cases hx
    refine e5.stay o ob ho hob ?_
    revert hf
    cases ob with
    | sl ty m n es =>
      simp only [zlc, Ob.fixed]
      cases Nat.ble n0 o || memB o mv <;> simp
    | _ => simp [zlc, Ob.fixed]
end Go.Eng


namespace Go.Eng.Trie
open Go Go.Eng
theorem zms {P : Program} : ∀ {ts us : List TypeId} {a b : List PV}, za5 P ts a = true → za5 P us b = true → za5 P (ts ++ us) (a ++ b) = true
  | [], _, [], _, _, h => h
  | [], _, _ :: _, _, h, _ => by simp [za5] at h
  | t :: ts, _, [], _, h, _ => by simp [za5] at h
  | t :: ts, us, x :: r, b, h, h2 => by
    cases x with
    | int k a => simp only [za5, Bool.and_eq_true, List.cons_append] at h ⊢; exact ⟨h.1, zms h.2 h2⟩
    | bool a => simp only [za5, Bool.and_eq_true, List.cons_append] at h ⊢; exact ⟨h.1, zms h.2 h2⟩
    | _ => simp [za5] at h
theorem zra : ∀ {a b c d : List PV}, a.length = b.length → zbv (a ++ c) (b ++ d) = (zbv a b && zbv c d)
  | [], [], _, _, _ => by simp [zbv]
  | [], _ :: _, _, _, h => by simp at h
  | _ :: _, [], _, _, h => by simp at h
  | x :: a, y :: b, c, d, h => by simp only [List.cons_append, zbv]; rw [zra (by simpa using h), Bool.and_assoc]
structure Enc {α : Type} [DecidableEq α] (P : Program) (ts : List TypeId) (enc : α → List PV) : Prop where
  ks : ∀ a, za5 P ts (enc a) = true
  inj : ∀ a b, zbv (enc a) (enc b) = decide (a = b)
section
variable {α : Type} {P : Program} {ts : List TypeId} {enc : α → List PV}
def cells (enc : α → List PV) (b : Blk α) : List PV := b.1.flatMap enc
variable [DecidableEq α]
theorem Enc.len (E : Enc P ts enc) (a : α) : (enc a).length = ts.length := zl4 (E.ks a)
theorem Enc.keys (E : Enc P ts enc) : ∀ l : List α, za5 P (List.replicate l.length ts).flatten (l.flatMap enc) = true
  | [] => rfl
  | a :: l => by
    simp only [List.length_cons, List.replicate_succ, List.flatten_cons, List.flatMap_cons]
    exact zms (E.ks a) (E.keys l)
theorem Enc.flen (E : Enc P ts enc) : ∀ l : List α, (l.flatMap enc).length = l.length * ts.length
  | [] => by simp
  | a :: l => by simp only [List.flatMap_cons, List.length_append, List.length_cons, E.flen l, E.len a, Nat.add_mul, Nat.one_mul]; omega
theorem Enc.eqs (E : Enc P ts enc) : ∀ l m : List α, l.length = m.length → zbv (l.flatMap enc) (m.flatMap enc) = decide (l = m)
  | [], [], _ => rfl
  | [], _ :: _, h => by simp at h
  | _ :: _, [], h => by simp at h
  | a :: l, b :: m, h => by
    simp only [List.flatMap_cons]
    rw [zra (by rw [E.len, E.len]), E.inj, E.eqs l m (by simpa using h)]
    by_cases h1 : a = b <;> by_cases h2 : l = m <;> simp [h1, h2]
theorem Enc.cells_len (E : Enc P ts enc) (b : Blk α) : (cells enc b).length = 128 * ts.length := by unfold cells; rw [E.flen, b.2]
theorem Enc.blkEq (E : Enc P ts enc) (a b : Blk α) : zib (.agg (cells enc a)) (.agg (cells enc b)) = decide (a = b) := by
  show zbv _ _ = _
  unfold cells
  rw [E.eqs _ _ (by rw [a.2, b.2])]
  by_cases h : a = b
  · simp [h]
  · have : a.1 ≠ b.1 := fun e => h (Subtype.ext e)
    simp [h, this]
theorem Enc.blkOk (E : Enc P ts enc) {kt : TypeId} (h1 : zck P kt = true) (h2 : zfe P kt = (List.replicate 128 ts).flatten) (b : Blk α) : za1 P kt (.agg (cells enc b)) = true := by
  simp only [za1, h1, h2, Bool.true_and]
  have := E.keys b.1
  rw [b.2] at this
  exact this
theorem Enc.blksOk (E : Enc P ts enc) {kt : TypeId} (h1 : zck P kt = true) (h2 : zfe P kt = (List.replicate 128 ts).flatten) {β : Type} {ev : β → PV} (M : List (Blk α × β)) : zbk P kt (encM (fun b => .agg (cells enc b)) ev M) := by
  intro kv h
  simp only [encM, List.mem_map] at h
  obtain ⟨p, _, rfl⟩ := h
  exact E.blkOk h1 h2 _
theorem Enc.valEq (E : Enc P ts enc) (a b : α) : zib (.agg (enc a)) (.agg (enc b)) = decide (a = b) := E.inj a b
theorem Enc.valOk (E : Enc P ts enc) {kt : TypeId} (h1 : zck P kt = true) (h2 : zfe P kt = ts) (a : α) : za1 P kt (.agg (enc a)) = true := by
  simp only [za1, h1, h2, Bool.true_and]; exact E.ks a
theorem Enc.valsOk (E : Enc P ts enc) {kt : TypeId} (h1 : zck P kt = true) (h2 : zfe P kt = ts) {β : Type} {ev : β → PV} (M : List (α × β)) : zbk P kt (encM (fun a => .agg (enc a)) ev M) := by
  intro kv h
  simp only [encM, List.mem_map] at h
  obtain ⟨p, _, rfl⟩ := h
  exact E.valOk h1 h2 _
theorem Enc.at (E : Enc P ts enc) : ∀ (l : List α) (j : Nat) (hj : j < l.length), (l.flatMap enc).drop (j * ts.length) = enc l[j] ++ (l.drop (j + 1)).flatMap enc
  | a :: l, 0, _ => by simp
  | a :: l, j + 1, hj => by
    simp only [List.flatMap_cons, List.getElem_cons_succ, List.drop_succ_cons]
    rw [← E.at l j (by simpa using hj), List.drop_append]
    have h1 : (enc a).length ≤ (j + 1) * ts.length := by rw [E.len, Nat.add_mul, Nat.one_mul]; omega
    rw [List.drop_of_length_le h1, List.nil_append, E.len]
    congr 1
    rw [Nat.add_mul, Nat.one_mul]; omega
theorem Enc.put (E : Enc P ts enc) (l : List α) (j : Nat) (hj : j < l.length) (v : α) : spl (l.flatMap enc) (j * ts.length) (enc v) = (l.set j v).flatMap enc := by
  have hl : l = l.take j ++ l[j] :: l.drop (j + 1) := by rw [← List.drop_eq_getElem_cons hj, List.take_append_drop]
  have htl : (l.take j).length = j := by rw [List.length_take]; omega
  have hset : l.set j v = l.take j ++ v :: l.drop (j + 1) := List.set_eq_take_append_cons_drop.trans (by rw [if_pos hj])
  rw [hset]
  unfold spl
  have e1 : l.flatMap enc = (l.take j).flatMap enc ++ (enc l[j] ++ (l.drop (j + 1)).flatMap enc) := by
    have h := congrArg (fun x : List α => x.flatMap enc) hl
    simp only [List.flatMap_append, List.flatMap_cons] at h
    exact h
  have l1 : ((l.take j).flatMap enc).length = j * ts.length := by rw [E.flen, htl]
  rw [e1, List.take_append_of_le_length (by omega), List.take_of_length_le (by omega), List.flatMap_append, List.flatMap_cons, List.append_assoc]
  congr 2
  rw [List.drop_append, List.drop_of_length_le (by omega), List.nil_append, l1, E.len, List.drop_append, List.drop_of_length_le (by rw [E.len]; omega), List.nil_append, E.len]
  have : j * ts.length + ts.length - j * ts.length - ts.length = 0 := by omega
  rw [this, List.drop_zero]
end
def ixs (l : List Int) : List (List PV) := l.map fun n => [.int .i64 n]
theorem zfj (l : List Int) : (ixs l).length = l.length := by simp [ixs]
theorem zf8 (x : Int) : ([PV.int .i64 x] : List PV).length = 1 := rfl
def bks {α : Type} (enc : α → List PV) (l : List (Blk α)) : List (List PV) := l.map (cells enc)
theorem zf9 {α : Type} {enc : α → List PV} (l : List (Blk α)) : (bks enc l).length = l.length := by simp [bks]
end Go.Eng.Trie



namespace Go.Eng
open Go Go.Proofs Go.Eng.Trie
def encI (n : Int) : List PV := [.int .i64 n]
theorem EI : Enc Tryz.prog [3] encI := ⟨fun a => by
  simp only [encI, za5, Bool.and_true]
  rw [show Tryz.prog.underlying 3 = some (.int .i64) by kernel_rfl]
  rfl, fun a b => by simp [encI, zbv, eqPV]; rfl⟩
def pcI (p : Pc Int) : List PV := [.int .i64 p.fr, .int .i64 p.to] ++ encI p.v
def pcsI (l : List (Pc Int)) : List (List PV) := l.map pcI
theorem z16 (p : Pc Int) : (pcI p).length = 3 := rfl
theorem zt1 (l : List (Pc Int)) : (pcsI l).length = l.length := by simp [pcsI]
def Pc.ok {α : Type} (p : Pc α) : Prop := (-9223372036854775808 ≤ p.fr - 1 ∧ p.fr - 1 ≤ 9223372036854775807)
theorem p139 (n f : Bool) (l : List (Pc Int)) (z i last : Int) (hl : l.length < 4611686018427387904) (hok : ∀ p ∈ l, Pc.ok p) :
    PCall Tryz.prog 85 [.sl n f (pcsI l), .int .i64 z, .int .i64 i, .int .i64 last] fun v => v = .tup [.int .i64 (findL l z i last).1, .int .i64 (findL l z i last).2] := by
  refine zmq _ _ _ _ _ _ (fun a k => 0 ≤ k ∧ k ≤ l.length ∧ findL l z i last = findL (l.drop k.toNat) z i a) (fun _ k => l.length - k.toNat) ?_
  unfold ze4
  refine ⟨⟨rfl, Int.le_refl _, by omega, rfl⟩, ?_⟩
  rintro a k ⟨k0, k1, he⟩
  refine iteD (fun hc => ?_) (fun hc => ?_)
  · simp only [decide_eq_true_eq, zt1] at hc
    have hk : k.toNat < l.length := by omega
    have hw : IntKind.i64.wrap (k + 1) = k + 1 := zaa (by omega) (by omega)
    have hn : (k + 1).toNat = k.toNat + 1 := by omega
    have hg : (pcsI l).getD k.toNat [] = pcI l[k.toNat] := zap hk
    have hix : zam (pcsI l) k 3 := zaj z16 k0 (by omega)
    have hm := hok _ (List.getElem_mem hk)
    rw [zjk hk] at he
    rw [hw]
    dsimp only
    rw [hn]
    have hmu : l.length - (k.toNat + 1) < l.length - k.toNat := by omega
    refine ⟨hix, l[k.toNat].fr, by rw [hg]; rfl, l[k.toNat].to, by rw [hg]; rfl, l[k.toNat].v, by rw [hg]; rfl, ?_⟩
    generalize l[k.toNat] = p at *
    have hw2 : IntKind.i64.wrap (p.fr - 1) = p.fr - 1 := zaa hm.1 hm.2
    rw [hw2]
    rw [zkp] at he
    by_cases h1 : p.fr ≤ i
    · refine iteT (by simpa using h1) ?_
      by_cases h2 : i ≤ p.to
      · refine iteT (by simpa using h2) ?_
        rw [if_pos ⟨h1, h2⟩] at he
        rw [he]
      · refine iteF (by simpa using h2) ?_
        rw [if_neg (by omega), if_neg (by omega)] at he
        refine iteF (by simp; omega) ?_
        exact ⟨rfl, ⟨by omega, by omega, he⟩, hmu⟩
    · refine iteF (by simpa using h1) ?_
      rw [if_neg (by omega)] at he
      refine iteT (by simp; omega) ?_
      by_cases h3 : p.fr ≤ a
      · refine iteT (by simpa using h3) ?_
        rw [if_pos (by omega)] at he
        exact ⟨rfl, ⟨by omega, by omega, he⟩, hmu⟩
      · refine iteF (by simpa using h3) ?_
        rw [if_neg (by omega)] at he
        exact ⟨rfl, ⟨by omega, by omega, he⟩, hmu⟩
  · simp only [decide_eq_true_eq, zt1] at hc
    rw [List.drop_of_length_le (by omega)] at he
    rw [he]; rfl
def TrieI (sz : Int) (F : Int → Int) (v : PV) : Prop := ∃ n f n2 f2 idx blk, v = .ptr [.int .i64 sz, .sl n f (ixs idx), .sl n2 f2 (bks encI blk)] ∧ TOK sz F idx blk
theorem p115 {sz : Int} {F : Int → Int} {t : PV} (ht : TrieI sz F t) (i : Int) (h1 : sz ≤ 1114112) : PCall Tryz.prog 79 [t, .int .i64 i] fun v => v = .int .i64 (if 0 ≤ i ∧ i < sz then F i else 0) := by
  obtain ⟨n, f, n2, f2, idx, blk, rfl, ht⟩ := ht
  refine zit _ _ _ _ _ _ _ _ ?_
  unfold zc0
  refine iteD (fun hc => ?_) (fun hc => ?_)
  · simp only [decide_eq_true_eq] at hc
    rw [if_neg (by omega)]
  · simp only [decide_eq_true_eq] at hc
    refine ⟨_, rfl, ?_⟩
    refine iteD (fun hc2 => ?_) (fun hc2 => ?_)
    · simp only [decide_eq_true_eq, ge_iff_le] at hc2
      rw [if_neg (by omega)]
    · simp only [decide_eq_true_eq, ge_iff_le] at hc2
      rw [if_pos (by omega)]
      obtain ⟨hq, g0, hk, hj, he⟩ := ht.get (i := i) (by omega) (by omega)
      have hw : IntKind.i64.wrap (i.tdiv 128) = i / 128 := by rw [Int.tdiv_eq_ediv_of_nonneg (by omega)]; exact zaa (by omega) (by omega)
      have hm : i.tmod 128 = i % 128 := Int.tmod_eq_emod_of_nonneg (by omega)
      have hg : (ixs idx).getD (i / 128).toNat [] = [.int .i64 idx[(i / 128).toNat]] := zap hq
      have hg2 : (bks encI blk).getD idx[(i / 128).toNat].toNat [] = cells encI blk[idx[(i / 128).toNat].toNat] := zap hk
      refine ⟨_, _, _, rfl, _, _, _, rfl, ?_⟩
      rw [hw]
      refine ⟨zaj zf8 (by omega) (by omega), idx[(i / 128).toNat], by rw [hg]; rfl, zaj (EI.cells_len) g0 (by omega), by rw [hm]; omega, F i, ?_, rfl⟩
      rw [hg2, hm]
      have := EI.at _ _ hj
      simp only [List.length_cons, List.length_nil] at this
      unfold cells
      rw [this, he]
      rfl
end Go.Eng



namespace Go.Eng
open Go Go.Proofs Go.Eng.Trie
def cI (b : Blk Int) : List PV := cells encI b
def kvI (k : Int) : PV := .int .i64 k
def mkI (kn : List (Blk Int × Int)) : List (PV × PV) := encM (fun b => .agg (cI b)) kvI kn
def meI (ev : List (Int × Int)) : List (PV × PV) := encM (fun v => .int .i64 v) kvI ev
def hpI (sz : Int) (kn : List (Blk Int × Int)) (ev : List (Int × Int)) (ixm ixn bkm bkn : Bool) (idx : List Int) (blk : List (Blk Int)) : Hp :=
  [.box [.box 1 0, .mp 2, .mp 3], .box [.pv (.int .i64 sz), .own 4, .own 5], .mp (mkI kn), .mp (meI ev), .sl (3, 1) ixm ixn (ixs idx), .sl (146, 128) bkm bkn (bks encI blk)]
theorem zmt (b : Blk Int) : (cI b).length = 128 := EI.cells_len b
theorem zxf (b : Blk Int) : List.take 128 (List.drop 0 (cI b)) = cI b := by rw [List.drop_zero, List.take_of_length_le (by rw [zmt]; omega)]
theorem z3m : zck Tryz.prog 146 = true := by kernel_rfl
theorem z3n : zfe Tryz.prog 146 = (List.replicate 128 [3]).flatten := by kernel_rfl
theorem getI (b : Blk Int) (kn : List (Blk Int × Int)) : zbc (.agg (cI b)) (mkI kn) = (aget b kn).map kvI := zdp (ek := fun b => PV.agg (cI b)) (ev := kvI) EI.blkEq b kn
theorem setI (b : Blk Int) (k : Int) (kn : List (Blk Int × Int)) : zai (.agg (cI b)) (kvI k) (mkI kn) = mkI (aset b k kn) := zb2 (ek := fun b => PV.agg (cI b)) (ev := kvI) EI.blkEq b k kn
theorem okI (b : Blk Int) : za1 Tryz.prog 146 (.agg (cI b)) = true := EI.blkOk z3m z3n b
theorem oksI (kn : List (Blk Int × Int)) : zbk Tryz.prog 146 (mkI kn) := EI.blksOk z3m z3n kn
theorem p141 {sz : Int} {F : Int → Int} {idx : List Int} {blk : List (Blk Int)} {kn : List (Blk Int × Int)} {ev : List (Int × Int)} (hk : TInv sz F idx blk kn ev) (hb : blk.length ≤ 10000000) (ixn bkn : Bool) (b : Blk Int) :
    ACall Tryz.prog 87 [.box 0 0, .pv (.agg (cI b))] (hpI sz kn ev false ixn false bkn idx blk) fun r h' => ∃ k kn' bn' blk', r = .pv (kvI k) ∧ h' = hpI sz kn' ev false ixn true bn' idx blk' ∧ TInv sz F idx blk' kn' ev ∧ 0 ≤ k ∧ blk'[k.toNat]? = some b ∧ blk'.length ≤ blk.length + 1 := by
  refine ACall.mark 1000 [5] (R := fun r h' => ∃ k kn' bm' bn' blk', r = .pv (kvI k) ∧ h' = hpI sz kn' ev false ixn bm' bn' idx blk' ∧ TInv sz F idx blk' kn' ev ∧ 0 ≤ k ∧ blk'[k.toNat]? = some b ∧ blk'.length ≤ blk.length + 1) ?_ ?_
  · refine zgg _ _ _ _ _ _ _ _ _ _ ?_
    unfold zb3
    rw [zxf, getI]
    have h128 : 128 ≤ (List.drop 0 (cI b)).length := by rw [List.drop_zero, zmt]; omega
    refine ⟨h128, oksI kn, okI b, fun v hv => ?_, fun hv => ?_⟩
    · cases hg : aget b kn with
      | none => rw [hg] at hv; cases hv
      | some k =>
        rw [hg] at hv; cases hv
        obtain ⟨k0, k1⟩ := hk.kn_ok b k hg
        exact ⟨k, rfl, k, kn, false, bkn, blk, rfl, rfl, hk, k0, k1, by omega⟩
    · have hsz : szOK [cI b] 128 ∧ ((bks encI blk).length + 1) * 1024 ≤ 140737488355328 := ⟨fun e he => by simp at he; subst he; exact zmt b, by rw [zf9]; omega⟩
      have fin : ∃ k kn' bm' bn' blk', LV.pv (.int .i64 ((bks encI blk).length : Int)) = .pv (kvI k) ∧
          [Ob.box [.box 1 0, .mp 2, .mp 3], .box [.pv (.int .i64 sz), .own 4, .own 5], .mp (zai (.agg (cI b)) (.int .i64 ((bks encI blk).length : Int)) (mkI kn)), .mp (meI ev), .sl (3, 1) false ixn (ixs idx), .sl (146, 128) true (bkn && false) (bks encI blk ++ [cI b])] = hpI sz kn' ev false ixn bm' bn' idx blk' ∧ TInv sz F idx blk' kn' ev ∧ 0 ≤ k ∧ blk'[k.toNat]? = some b ∧ blk'.length ≤ blk.length + 1 := by
        refine ⟨blk.length, aset b (blk.length : Int) kn, true, bkn && false, blk ++ [b], by rw [zf9]; rfl, ?_, hk.place b, by omega, by simp, by simp⟩
        have := setI b (blk.length : Int) kn
        unfold kvI at this
        rw [zf9, this]
        simp [hpI, bks, cI]
      exact ⟨h128, oksI kn, okI b, h128, ⟨zmt b, hsz, fin⟩, zmt b, ⟨hsz, fin⟩, hsz, fin⟩
  · rintro r h' ⟨k, kn', bm', bn', blk', rfl, rfl, h1, h2, h3, h4⟩
    exact ⟨k, kn', bn', blk', rfl, rfl, h1, h2, h3, h4⟩
theorem getE (v : Int) (ev : List (Int × Int)) : zbc (.int .i64 v) (meI ev) = (aget v ev).map kvI := zdp (ek := fun v => PV.int .i64 v) (ev := kvI) (zg5 .i64) v ev
theorem setE (v k : Int) (ev : List (Int × Int)) : zai (.int .i64 v) (kvI k) (meI ev) = meI (aset v k ev) := zb2 (ek := fun v => PV.int .i64 v) (ev := kvI) (zg5 .i64) v k ev
theorem putI (l : List Int) (j : Nat) (hj : j < l.length) (v : Int) : spl (l.flatMap encI) (0 + j * 1) [.int .i64 v] = (l.set j v).flatMap encI := by
  have := EI.put l j hj v
  simp only [List.length_cons, List.length_nil, Nat.zero_add] at this ⊢
  exact this
theorem z17 (l : List Int) : (l.flatMap encI).length = l.length := by
  have := EI.flen l
  simpa using this
theorem z0r : List.replicate 128 (PV.int .i64 0) = (List.replicate 128 (0 : Int)).flatMap encI := by
  generalize 128 = n
  induction n with
  | zero => rfl
  | succ n ih => simp only [List.replicate_succ, List.flatMap_cons, ih]; rfl
theorem z3o {l : List Int} {v : Int} (hl : l.length = 128) (h : ∀ q, q < 128 → l[q]? = some v) : l = List.replicate 128 v := by
  refine List.ext_getElem? fun q => ?_
  rcases Nat.lt_or_ge q 128 with hq | hq
  · rw [h q hq, List.getElem?_replicate, if_pos hq]
  · rw [List.getElem?_eq_none (by omega), List.getElem?_eq_none (by simp; omega)]
theorem p140 {sz : Int} {F : Int → Int} {idx : List Int} {blk : List (Blk Int)} {kn : List (Blk Int × Int)} {ev : List (Int × Int)} (hk : TInv sz F idx blk kn ev) (hb : blk.length ≤ 10000000) (ixn bkn : Bool) (v : Int) :
    ACall Tryz.prog 86 [.box 0 0, .pv (.int .i64 v)] (hpI sz kn ev false ixn false bkn idx blk) fun r h' => ∃ k kn' ev' bn' blk', r = .pv (kvI k) ∧ h' = hpI sz kn' ev' false ixn true bn' idx blk' ∧ TInv sz F idx blk' kn' ev' ∧ 0 ≤ k ∧ blk'[k.toNat]? = some (rep v) ∧ blk'.length ≤ blk.length + 1 := by
  refine ACall.mark 1000 [5] (R := fun r h' => ∃ k kn' ev' bm' bn' blk', r = .pv (kvI k) ∧ h' = hpI sz kn' ev' false ixn bm' bn' idx blk' ∧ TInv sz F idx blk' kn' ev' ∧ 0 ≤ k ∧ blk'[k.toNat]? = some (rep v) ∧ blk'.length ≤ blk.length + 1) ?_ ?_
  · refine zgh _ _ _ _ _ _ _ _ _ _ (fun x m2 m3 c => 0 ≤ x ∧ x ≤ 128 ∧ m2 = mkI kn ∧ m3 = meI ev ∧ ∃ l : List Int, l.length = 128 ∧ c = l.flatMap encI ∧ ∀ q, q < x.toNat → l[q]? = some v) (fun x _ _ _ => 128 - x.toNat) ?_
    unfold zb4
    rw [getE]
    refine ⟨zcx ev, fun u hu => ?_, fun hu => ⟨⟨rfl, Int.le_refl _, by omega, rfl, rfl, List.replicate 128 0, by simp, z0r, fun q hq => by simp at hq⟩, ?_⟩⟩
    · cases hg : aget v ev with
      | none => rw [hg] at hu; cases hu
      | some k =>
        rw [hg] at hu; cases hu
        obtain ⟨k0, k1⟩ := hk.ev_ok v k hg
        exact ⟨k, rfl, k, kn, ev, false, bkn, blk, rfl, rfl, hk, k0, k1, by omega⟩
    · rintro x _ _ _ ⟨x0, x1, rfl, rfl, l, hl, rfl, hq⟩
      refine iteD (fun hc => ?_) (fun hc => ?_)
      · simp only [decide_eq_true_eq] at hc
        have hw : IntKind.i64.wrap (x + 1) = x + 1 := zaa (by omega) (by omega)
        have hn : (x + 1).toNat = x.toNat + 1 := by omega
        rw [putI l x.toNat (by omega) v, hw, z17]
        refine ⟨⟨x0, hc⟩, ⟨rfl, by omega⟩, rfl, ⟨by omega, by omega, rfl, rfl, l.set x.toNat v, by simpa using hl, rfl, fun q hq' => ?_⟩, by dsimp only; omega⟩
        rw [hn] at hq'
        rw [List.getElem?_set]
        by_cases e : x.toNat = q
        · rw [if_pos e, if_pos (by omega)]
        · rw [if_neg e]; exact hq q (by omega)
      · simp only [decide_eq_true_eq] at hc
        have hx : x = 128 := by omega
        subst hx
        have hrep := z3o hl hq
        subst hrep
        have hcI : (List.replicate 128 v).flatMap encI = cI (rep v) := rfl
        rw [hcI, zxf]
        refine ⟨by rw [List.drop_zero, zmt]; omega, ?_⟩
        refine (p141 hk hb ixn bkn (rep v)).mono ?_
        rintro _ _ ⟨k, kn', bn', blk', rfl, rfl, h1, h2, h3, h4⟩
        refine ⟨(k, mkI kn', bn', bks encI blk'), ⟨rfl, rfl⟩, ⟨trivial, ⟨rfl, rfl, rfl⟩, trivial, trivial, trivial, trivial, trivial⟩, zcx ev, ?_⟩
        have := setE v k ev
        unfold kvI at this
        simp only [this]
        exact ⟨k, kn', aset v k ev, _, bn', blk', rfl, rfl, h1.even h2 h3, h2, h3, h4⟩
  · rintro r h' ⟨k, kn', ev', bm', bn', blk', rfl, rfl, h1, h2, h3, h4⟩
    exact ⟨k, kn', ev', bn', blk', rfl, rfl, h1, h2, h3, h4⟩
end Go.Eng



namespace Go.Eng
open Go Go.Proofs Go.Eng.Trie
theorem z18 {α : Type} {v : α} {j : Nat} {u : α} (h : (Trie.rep v).1[j]? = some u) : u = v ∧ j < 128 := by
  simp only [Trie.rep, List.getElem?_replicate] at h
  split at h
  · rename_i hj; cases h; exact ⟨rfl, hj⟩
  · cases h
theorem p103 (sz z : Int) (n f : Bool) (l : List (Pc Int)) (hl : l.length < 4611686018427387904) (hok : ∀ p ∈ l, Pc.ok p) (hs1 : 1 ≤ sz) (hs2 : sz ≤ 1114112) :
    PCall Tryz.prog 55 [.int .i64 sz, .int .i64 z, .sl n f (pcsI l)] fun v => TrieI sz (valL l z) v := by
  have hF := fun i => zjp l z i (sz - 1)
  generalize hFF : valL l z = F at *
  refine zlh _ _ _ _ _
    (fun x9 x10 x11 _ s2 _ s3 m4 m5 => ∃ idx blk kn ev, s2 = ixs idx ∧ s3 = bks encI blk ∧ m4 = mkI kn ∧ m5 = meI ev ∧ TInv sz F idx blk kn ev ∧ x11 = 128 * idx.length ∧ blk.length ≤ idx.length ∧ x11 < sz + 128 ∧ (∀ j, x11 ≤ j → j ≤ x10 → F j = x9) ∧ x10 ≤ sz - 1)
    (fun _ _ x11 _ _ _ _ _ _ => (sz + 128 - x11).toNat)
    (fun _ _ y11 _ _ _ _ _ _ _ x9 x10 x11 x13 _ s2 _ s3 m4 m5 => ∃ idx blk kn ev, s2 = ixs idx ∧ s3 = bks encI blk ∧ m4 = mkI kn ∧ m5 = meI ev ∧ TInv sz F idx blk kn ev ∧ x11 = 128 * idx.length ∧ x11 < sz + 128 ∧ (∀ j, x11 ≤ j → j ≤ x10 → F j = x9) ∧ x10 ≤ sz - 1 ∧ 0 ≤ x13 ∧ blk[x13.toNat]? = some (rep x9) ∧
      ((x11 = y11 ∧ x11 < sz ∧ (x11 + 127 ≤ x10 ∨ sz - 1 ≤ x10) ∧ blk.length ≤ idx.length + 1) ∨ (y11 + 128 ≤ x11 ∧ blk.length ≤ idx.length)))
    (fun _ _ x11 _ _ _ _ _ _ _ => (sz + 128 - x11).toNat)
    (fun _ _ y11 _ _ _ _ _ _ _ _ x9 x10 x11 x c _ s3 _ s4 m5 m6 => ∃ idx blk kn ev, s3 = ixs idx ∧ s4 = bks encI blk ∧ m5 = mkI kn ∧ m6 = meI ev ∧ TInv sz F idx blk kn ev ∧ x11 = 128 * idx.length ∧ blk.length ≤ idx.length ∧ x11 = y11 ∧ x11 < sz ∧ 0 ≤ x ∧ x ≤ 128 ∧ x10 ≤ sz - 1 ∧ (∀ j, x11 + x ≤ j → j ≤ x10 → F j = x9) ∧
      ∃ b : List Int, b.length = 128 ∧ c = b.flatMap encI ∧ ∀ (q : Nat) u, b[q]? = some u → q < x.toNat → x11 + q < sz → u = F (x11 + q))
    (fun _ _ _ x _ _ _ _ _ _ _ => (128 - x).toNat) ?_
  unfold zed
  have hw1 : IntKind.i64.wrap (sz - 1) = sz - 1 := zaa (by omega) (by omega)
  rw [hw1]
  refine iteF (by simp; omega) ?_
  refine (p139 n f l z 0 (sz - 1) hl hok).mono ?_
  rintro _ rfl
  obtain ⟨_, f2, f3, f4⟩ := hF 0 (by omega)
  refine ⟨_, rfl, rfl, _, rfl, _, rfl, _, rfl, _, rfl, ⟨rfl, [], [], [], [], rfl, rfl, rfl, rfl, TInv.nil, rfl, Nat.le_refl _, by omega, f4, f3⟩, ?_⟩
  clear f2 f3 f4
  rintro v0 u0 x _ _ _ _ _ _ ⟨idx, blk, kn, ev, rfl, rfl, rfl, rfl, hk, hx, hb, hx2, hv0, hu0⟩
  refine iteD (fun hc => ?_) (fun hc => ?_)
  · simp only [decide_eq_true_eq] at hc
    have hw2 : IntKind.i64.wrap (x + 128) = x + 128 := zaa (by omega) (by omega)
    rw [hw2]
    have hmin : ∀ a : Int, IntKind.i64.wrap ((if sz < a + 128 then sz else a + 128) - 1) = (if sz < a + 128 then sz else a + 128) - 1 ∨ ¬ (0 ≤ a ∧ a ≤ 1114112) := fun a => by
      by_cases ha : 0 ≤ a ∧ a ≤ 1114112
      · left; split <;> exact zaa (by omega) (by omega)
      · exact .inr ha
    have hmx := (hmin x).resolve_right (by omega)
    rw [hmx]
    refine iteD (fun hgt => ?ga) (fun hgt => ?gb)
    case' ga =>
      refine (p139 n f l z x (sz - 1) hl hok).mono ?_
      rintro _ rfl
      obtain ⟨_, hux, hu, hv⟩ := hF x (by omega)
      refine ⟨_, rfl, rfl, _, rfl, _, rfl, _, rfl, _, rfl, ?_⟩
      revert hv hu
      generalize (findL l z x (sz - 1)).1 = v
      generalize (findL l z x (sz - 1)).2 = u
      clear hv0 hu0 hux
      intro hu hv
    case' gb =>
      revert hv0 hu0 hgt
      generalize v0 = v
      generalize u0 = u
      intro hv hu hgt
    all_goals
      clear hgt
      refine iteD (fun hc2 => ?_) (fun hc2 => ?_)
      · simp only [decide_eq_true_eq, ge_iff_le] at hc2
        have hc3 : x + 127 ≤ u ∨ sz - 1 ≤ u := by split at hc2 <;> omega
        refine (p140 hk (by omega) _ _ v).mono ?_
        rintro _ _ ⟨k, kn', ev', bn', blk', rfl, rfl, g1, g2, g3, g4⟩
        refine ⟨(k, mkI kn', meI ev', bn', bks encI blk'), ⟨rfl, rfl⟩, ⟨trivial, ⟨rfl, rfl, rfl⟩, trivial, trivial, trivial, trivial, trivial⟩, ⟨rfl, idx, blk', kn', ev', rfl, rfl, rfl, rfl, g1, hx, hx2, hv, hu, g2, g3, .inl ⟨rfl, hc, hc3, by omega⟩⟩, ?_⟩
        rintro w t y k' _ _ _ _ _ _ ⟨idx2, blk2, kn2, ev2, rfl, rfl, rfl, rfl, hk2, hy, hy2, hw, ht, hk0, hkb, hor⟩
        have hwy : IntKind.i64.wrap (y + 128) = y + 128 := zaa (by omega) (by omega)
        rw [hwy, (hmin y).resolve_right (by omega)]
        refine iteD (fun hc4 => ?_) (fun hc4 => ?_)
        · simp only [Bool.and_eq_true, decide_eq_true_eq, ge_iff_le] at hc4
          have hc5 : y + 127 ≤ t ∨ sz - 1 ≤ t := by have := hc4.2; split at this <;> omega
          refine ⟨⟨fun e he => by simp at he; subst he; rfl, by rw [zfj]; omega⟩, rfl, ⟨idx2 ++ [k'], blk2, kn2, ev2, by simp [ixs], rfl, rfl, rfl, hk2.push hk0 hkb fun j u' hj hlt => ?_, by simp; omega, by omega, fun j h1 h2 => hw j (by omega) h2, ht, hk0, hkb, .inr ⟨by omega, by simp; omega⟩⟩, by dsimp only; omega⟩
          obtain ⟨rfl, hj2⟩ := z18 hj
          exact (hw _ (by omega) (by omega)).symm
        · have hnot : y + 128 ≤ y + 128 := Int.le_refl _
          have hw128 : IntKind.i64.wrap (y - 128) = y - 128 := zaa (by omega) (by omega)
          have hback : IntKind.i64.wrap (y - 128 + 128) = y := by rw [zaa (by omega) (by omega)]; omega
          rw [hw128, hback]
          simp only [Bool.and_eq_true, decide_eq_true_eq, ge_iff_le, not_and] at hc4
          have hor2 : x + 128 ≤ y ∧ blk2.length ≤ idx2.length := by
            rcases hor with ⟨h1, h2, h3, h4⟩ | h
            · exfalso
              have := hc4 h2
              split at this <;> omega
            · exact h
          exact ⟨rfl, ⟨idx2, blk2, kn2, ev2, rfl, rfl, rfl, rfl, hk2, hy, hor2.2, hy2, hw, ht⟩, by dsimp only; omega⟩
      · clear hc2
        refine ⟨⟨rfl, idx, blk, kn, ev, rfl, rfl, rfl, rfl, hk, hx, hb, rfl, hc, Int.le_refl _, by omega, hu, fun j h1 h2 => hv j (by omega) h2, List.replicate 128 0, by simp, z0r, fun q u' _ hq _ => by simp at hq⟩, ?_⟩
        rintro w t y i _ _ _ _ _ _ _ ⟨idx2, blk2, kn2, ev2, rfl, rfl, rfl, rfl, hk2, hy, hb2, hyx, hy2, i0, i1, ht, hw, b, hbl, rfl, hbq⟩
        have hwyi : IntKind.i64.wrap (y + i) = y + i := zaa (by omega) (by omega)
        have hwi : IntKind.i64.wrap (i + 1) = i + 1 := zaa (by omega) (by omega)
        have hwy : IntKind.i64.wrap (y + 128) = y + 128 := zaa (by omega) (by omega)
        rw [hwyi, hwi, hwy]
        have step : ∀ (v' u' : Int), (∀ j, y + i ≤ j → j ≤ u' → F j = v') → u' ≤ sz - 1 → (y + i < sz → F (y + i) = v') → i < 128 →
            ∃ idx blk kn ev, ixs idx2 = ixs idx ∧ bks encI blk2 = bks encI blk ∧ mkI kn2 = mkI kn ∧ meI ev2 = meI ev ∧ TInv sz F idx blk kn ev ∧ y = 128 * idx.length ∧ blk.length ≤ idx.length ∧ y = x ∧ y < sz ∧ 0 ≤ i + 1 ∧ i + 1 ≤ 128 ∧ u' ≤ sz - 1 ∧ (∀ j, y + (i + 1) ≤ j → j ≤ u' → F j = v') ∧
              ∃ c : List Int, c.length = 128 ∧ (b.set i.toNat v').flatMap encI = c.flatMap encI ∧ ∀ (q : Nat) u, c[q]? = some u → q < (i + 1).toNat → y + q < sz → u = F (y + q) := fun v' u' h1 h2 h3 h4 => by
          refine ⟨idx2, blk2, kn2, ev2, rfl, rfl, rfl, rfl, hk2, hy, hb2, hyx, hy2, by omega, by omega, h2, fun j a1 a2 => h1 j (by omega) a2, b.set i.toNat v', by simpa using hbl, rfl, fun q u hq hq2 hq3 => ?_⟩
          rw [List.getElem?_set] at hq
          by_cases e : i.toNat = q
          · rw [if_pos e, if_pos (by omega)] at hq
            cases hq
            have e2 : y + (q : Int) = y + i := by omega
            rw [e2]
            exact (h3 (by omega)).symm
          · rw [if_neg e] at hq
            exact hbq q u hq (by omega) hq3
        refine iteD (fun hc5 => ?_) (fun hc5 => ?_)
        · simp only [decide_eq_true_eq] at hc5
          refine iteD (fun hc6 => ?_) (fun hc6 => ?_)
          · simp only [Bool.and_eq_true, decide_eq_true_eq, gt_iff_lt] at hc6
            refine (p139 n f l z (y + i) (sz - 1) hl hok).mono ?_
            rintro _ rfl
            obtain ⟨q1, q2, q3, q4⟩ := hF (y + i) (by omega)
            refine ⟨_, rfl, rfl, _, rfl, _, rfl, _, rfl, _, rfl, ⟨i0, hc5⟩, ⟨rfl, by rw [z17]; omega⟩, rfl, ?_, by dsimp only; omega⟩
            rw [putI b i.toNat (by omega)]
            exact step _ _ q4 q3 (fun _ => q1.symm) hc5
          · simp only [Bool.and_eq_true, decide_eq_true_eq, gt_iff_lt, not_and] at hc6
            refine ⟨⟨i0, hc5⟩, ⟨rfl, by rw [z17]; omega⟩, rfl, ?_, by dsimp only; omega⟩
            rw [putI b i.toNat (by omega)]
            exact step _ _ hw ht (fun h => hw (y + i) (Int.le_refl _) ((Int.lt_or_le t (y + i)).elim (fun h2 => absurd h (hc6 h2)) id)) hc5
        · simp only [decide_eq_true_eq] at hc5
          have hi : i = 128 := by omega
          subst hi
          obtain ⟨B, hB⟩ : ∃ B : Blk Int, B.1 = b := ⟨⟨b, hbl⟩, rfl⟩
          subst hB
          have hcI : B.1.flatMap encI = cI B := rfl
          rw [hcI, zxf]
          refine ⟨by rw [List.drop_zero, zmt]; omega, (fun h => ⟨h, h⟩) ?_⟩
          refine (p141 hk2 (by omega) _ _ B).mono ?_
          rintro _ _ ⟨k, kn', bn', blk', rfl, rfl, h1, h2, h3, h4⟩
          refine ⟨(k, mkI kn', bn', bks encI blk'), ⟨rfl, rfl⟩, ⟨trivial, ⟨rfl, rfl, rfl⟩, trivial, trivial, trivial, trivial, trivial⟩, ⟨fun e he => by simp at he; subst he; rfl, by rw [zfj]; omega⟩, rfl, ⟨idx2 ++ [k], blk', kn', ev2, by simp [ixs, kvI], rfl, rfl, rfl, h1.push h2 h3 fun j u' hj hlt => ?_, by simp; omega, by simp; omega, by omega, fun j a1 a2 => hw j (by omega) a2, ht⟩, by dsimp only; omega⟩
          have hj2 : j < 128 := by have := (List.getElem?_eq_some_iff.1 hj).1; simp only [hbl] at this; exact this
          rw [← hy]
          exact hbq j u' hj (by omega) (by omega)
  · simp only [decide_eq_true_eq] at hc
    exact ⟨_, _, _, _, idx, blk, rfl, by omega, hk.idx_ok⟩
end Go.Eng



namespace Go.Eng
open Go Go.Proofs
def zrb (n f : Bool) (es : LL) (za zb zc zd : Bool) (i last : Int) (x3 : Int) (x14 : Int) (h1_0 : Bool) (h1_1 : Bool) (h1_2 : Bool) (h1_3 : Bool) : Env × Hp := ([(2, LV.pv (PV.int IntKind.i64 i)), (3, .pv (.int IntKind.i64 x3)), (5, LV.box 0 0), (8, LV.box 1 0), (12, LV.pv (PV.sl n f es)), (13, LV.pv (PV.int IntKind.i64 ↑es.length)), (14, .pv (.int IntKind.i64 x14))], [.box [LV.pv (PV.bool za), LV.pv (PV.bool zb), LV.pv (PV.bool zc), LV.pv (PV.bool zd)], .box [.pv (.bool h1_0), .pv (.bool h1_1), .pv (.bool h1_2), .pv (.bool h1_3)]])
def zcc (n f : Bool) (es : LL) (za zb zc zd : Bool) (i last : Int) (J : Int → Int → Bool → Bool → Bool → Bool → Prop) (μ : Int → Int → Bool → Bool → Bool → Bool → Nat) (R : PV → Prop) : Prop :=
 (zab (zrb n f es za zb zc zd i last last (0 : Int) false false false false) ∧ J last (0 : Int) false false false false) ∧ ∀ (x3 x14 : Int) (h1_0 h1_1 h1_2 h1_3 : Bool), J x3 x14 h1_0 h1_1 h1_2 h1_3 → if decide (x14 < (↑es.length : Int))
 = true then zam es x14 6 ∧ ∃ (n1 : Int), (es.getD x14.toNat []).head? = some (Z6 n1) ∧ ∃ (n2 : Int), (es.getD x14.toNat []).tail.head? = some (Z6 n2) ∧ ∃ (b : Bool), (es.getD x14.toNat []).tail.tail.head? = some (Zb b) ∧ ∃ (b1 : Bool),
 (es.getD x14.toNat []).tail.tail.tail.head? = some (Zb b1) ∧ ∃ (b2 : Bool), (es.getD x14.toNat []).tail.tail.tail.tail.head? = some (Zb b2) ∧ ∃ (b3 : Bool), (es.getD x14.toNat []).tail.tail.tail.tail.tail.head? = some (Zb b3) ∧ if decide
 (n1 ≤ i) = true then if decide (i ≤ n2) = true then (R (PV.tup [PV.agg [Zb b, Zb b1, Zb b2, Zb b3], Z6 (if x3 < n2 then x3 else n2)]) ∧ R (PV.tup [PV.agg [Zb b, Zb b1, Zb b2, Zb b3], Z6 (if x3 < n2 then x3 else n2)])) ∧ R (PV.tup [PV.agg
 [Zb b, Zb b1, Zb b2, Zb b3], Z6 (if x3 < n2 then x3 else n2)]) else if decide (i < n1) = true then if decide (n1 ≤ x3) = true then zab (zrb n f es za zb zc zd i last (IntKind.i64.wrap (n1 - 1)) (IntKind.i64.wrap (x14 + 1)) h1_0 h1_1
 h1_2 h1_3) ∧ J (IntKind.i64.wrap (n1 - 1)) (IntKind.i64.wrap (x14 + 1)) h1_0 h1_1 h1_2 h1_3 ∧ μ (IntKind.i64.wrap (n1 - 1)) (IntKind.i64.wrap (x14 + 1)) h1_0 h1_1 h1_2 h1_3 < μ x3 x14 h1_0 h1_1 h1_2 h1_3 else zab (zrb n f es za zb zc zd
 i last x3 (IntKind.i64.wrap (x14 + 1)) h1_0 h1_1 h1_2 h1_3) ∧ J x3 (IntKind.i64.wrap (x14 + 1)) h1_0 h1_1 h1_2 h1_3 ∧ μ x3 (IntKind.i64.wrap (x14 + 1)) h1_0 h1_1 h1_2 h1_3 < μ x3 x14 h1_0 h1_1 h1_2 h1_3 else zab (zrb n f es za zb zc zd
 i last x3 (IntKind.i64.wrap (x14 + 1)) h1_0 h1_1 h1_2 h1_3) ∧ J x3 (IntKind.i64.wrap (x14 + 1)) h1_0 h1_1 h1_2 h1_3 ∧ μ x3 (IntKind.i64.wrap (x14 + 1)) h1_0 h1_1 h1_2 h1_3 < μ x3 x14 h1_0 h1_1 h1_2 h1_3 else if decide (i < n1) = true then
 if decide (n1 ≤ x3) = true then zab (zrb n f es za zb zc zd i last (IntKind.i64.wrap (n1 - 1)) (IntKind.i64.wrap (x14 + 1)) h1_0 h1_1 h1_2 h1_3) ∧ J (IntKind.i64.wrap (n1 - 1)) (IntKind.i64.wrap (x14 + 1)) h1_0 h1_1 h1_2 h1_3 ∧ μ
 (IntKind.i64.wrap (n1 - 1)) (IntKind.i64.wrap (x14 + 1)) h1_0 h1_1 h1_2 h1_3 < μ x3 x14 h1_0 h1_1 h1_2 h1_3 else zab (zrb n f es za zb zc zd i last x3 (IntKind.i64.wrap (x14 + 1)) h1_0 h1_1 h1_2 h1_3) ∧ J x3 (IntKind.i64.wrap (x14 + 1))
 h1_0 h1_1 h1_2 h1_3 ∧ μ x3 (IntKind.i64.wrap (x14 + 1)) h1_0 h1_1 h1_2 h1_3 < μ x3 x14 h1_0 h1_1 h1_2 h1_3 else zab (zrb n f es za zb zc zd i last x3 (IntKind.i64.wrap (x14 + 1)) h1_0 h1_1 h1_2 h1_3) ∧ J x3 (IntKind.i64.wrap (x14 + 1))
 h1_0 h1_1 h1_2 h1_3 ∧ μ x3 (IntKind.i64.wrap (x14 + 1)) h1_0 h1_1 h1_2 h1_3 < μ x3 x14 h1_0 h1_1 h1_2 h1_3 else R (PV.tup [PV.agg [Zb za, Zb zb, Zb zc, Zb zd], Z6 x3])
theorem zg9 (n f : Bool) (es : LL) (za zb zc zd : Bool) (i last : Int) (J : Int → Int → Bool → Bool → Bool → Bool → Prop) (μ : Int → Int → Bool → Bool → Bool → Bool → Nat) {R : PV → Prop} (h : zcc n f es za zb zc zd i last J μ R) : PCall Tryz.prog 90 [.sl n f es, .agg [.bool za, .bool zb, .bool zc, .bool zd], .int .i64 i, .int .i64 last] R :=
  PCall.of Tryz.func90 (by kernel_rfl) (by kernel_rfl) (Nat.le_of_ble_eq_true (by kernel_rfl)) (Eq.mpr (by kernel_rfl : aFn Tryz.prog (fun _ => none) Tryz.f90 [0, 1, 2, 3, 5, 8, 9, 11, 12, 13, 14, 15, 18, 35] (fun zz_ => match zz_ with | 2 => some ⟨Int × Int × Bool × Bool × Bool × Bool, fun s => zrb n f es za zb zc zd i last s.1 s.2.1 s.2.2.1 s.2.2.2.1 s.2.2.2.2.1 s.2.2.2.2.2, fun _ s => J s.1 s.2.1 s.2.2.1 s.2.2.2.1 s.2.2.2.2.1 s.2.2.2.2.2, fun s => μ s.1 s.2.1 s.2.2.1 s.2.2.2.1 s.2.2.2.2.1 s.2.2.2.2.2, fun e h => (gI e 3, gI e 14, hB h 1 0, hB h 1 1, hB h 1 2, hB h 1 3), [], [2, 3, 5, 8, 12, 13, 14], [], fun p => ∀ (x3 : Int) (x14 : Int) (h1_0 : Bool) (h1_1 : Bool) (h1_2 : Bool) (h1_3 : Bool), p (x3, x14, h1_0, h1_1, h1_2, h1_3), fun p h s => h s.1 s.2.1 s.2.2.1 s.2.2.2.1 s.2.2.2.2.1 s.2.2.2.2.2⟩ | _ => none) (Tryz.f90.body.getD .skip) [.sl n f es, .agg [.bool za, .bool zb, .bool zc, .bool zd], .int .i64 i, .int .i64 last] R = zcc n f es za zb zc zd i last J μ R) h)

def zbl (sz : Int) (n f n2 f2 : Bool) (es bs : LL) (i : Int) (R : PV → Prop) : Prop :=
 if decide (i < 0) = true then R (PV.agg [Zb false, Zb false, Zb false, Zb false]) else ∃ (n1 : Int), some (Z6 sz) = some (Z6 n1) ∧ if decide (i ≥ n1) = true then R (PV.agg [Zb false, Zb false, Zb false, Zb false]) else ∃ (n3 : Bool), ∃ (f1
 : Bool), ∃ (es1 : LL), some (PV.sl n2 f2 bs) = some (PV.sl n3 f1 es1) ∧ ∃ (n4 : Bool), ∃ (f3 : Bool), ∃ (es2 : LL), some (PV.sl n f es) = some (PV.sl n4 f3 es2) ∧ zam es2 (IntKind.i64.wrap (i.tdiv (128 : Int))) 1 ∧ ∃ (n5 : Int), (es2.getD
 (IntKind.i64.wrap (i.tdiv (128 : Int))).toNat []).head? = some (Z6 n5) ∧ zam es1 n5 512 ∧ ((0 : Int) ≤ i.tmod (128 : Int) ∧ i.tmod (128 : Int) < (↑128 : Int)) ∧ ∃ (b : Bool), (List.drop ((i.tmod (128 : Int)).toNat * 4) (es1.getD n5.toNat
 [])).head? = some (Zb b) ∧ ∃ (b1 : Bool), (List.drop ((i.tmod (128 : Int)).toNat * 4) (es1.getD n5.toNat [])).tail.head? = some (Zb b1) ∧ ∃ (b2 : Bool), (List.drop ((i.tmod (128 : Int)).toNat * 4) (es1.getD n5.toNat [])).tail.tail.head? =
 some (Zb b2) ∧ ∃ (b3 : Bool), (List.drop ((i.tmod (128 : Int)).toNat * 4) (es1.getD n5.toNat [])).tail.tail.tail.head? = some (Zb b3) ∧ R (PV.agg [Zb b, Zb b1, Zb b2, Zb b3])
theorem zfk (sz : Int) (n f n2 f2 : Bool) (es bs : LL) (i : Int) {R : PV → Prop} (h : zbl sz n f n2 f2 es bs i R) : PCall Tryz.prog 69 [.ptr [.int .i64 sz, .sl n f es, .sl n2 f2 bs], .int .i64 i] R :=
  PCall.of Tryz.func69 (by kernel_rfl) (by kernel_rfl) (Nat.le_of_ble_eq_true (by kernel_rfl)) (Eq.mpr (by kernel_rfl : aFn Tryz.prog (fun _ => none) Tryz.f69 [0, 1, 4, 5, 19] (fun _ => none) (Tryz.f69.body.getD .skip) [.ptr [.int .i64 sz, .sl n f es, .sl n2 f2 bs], .int .i64 i] R = zbl sz n f n2 f2 es bs i R) h)

def zba (sz : Int) (kn ev : List (PV × PV)) (ixm ixn bkm bkn : Bool) (ix bk : LL) (b : List PV) (R : LV → Hp → Prop) : Prop :=
 512 ≤ (List.drop 0 b).length ∧ zbk Tryz.prog 163 kn ∧ za1 Tryz.prog 163 (PV.agg (List.take 512 (List.drop 0 b))) = true ∧ (∀ (v : PV), zbc (PV.agg (List.take 512 (List.drop 0 b))) kn = some v → ∃ (n : Int), v = Z6 n ∧ R (Y6 n)
 [Ob.box [LV.box 1 0, LV.mp 2, LV.mp 3], Ob.box [Y6 sz, LV.own 4, LV.own 5], Ob.mp kn, Ob.mp ev, Ob.sl (3, 1) ixm ixn ix, Ob.sl (163, 512) bkm bkn bk]) ∧ (zbc (PV.agg (List.take 512 (List.drop 0 b))) kn = none → 512 ≤ (List.drop 0
 b).length ∧ zbk Tryz.prog 163 kn ∧ za1 Tryz.prog 163 (PV.agg (List.take 512 (List.drop 0 b))) = true ∧ 512 ≤ (List.drop 0 b).length ∧ ((List.take 512 (List.drop 0 b)).length = 512 ∧ (szOK [List.take 512 (List.drop 0 b)] 512 ∧
 (bk.length + 1) * 512 ≤ 140737488355328) ∧ R (Y6 (↑bk.length : Int)) [Ob.box [LV.box 1 0, LV.mp 2, LV.mp 3], Ob.box [Y6 sz, LV.own 4, LV.own 5], Ob.mp (zai (PV.agg (List.take 512 (List.drop 0 b))) (Z6 (↑bk.length : Int)) kn), Ob.mp ev,
 Ob.sl (3, 1) ixm ixn ix, Ob.sl (163, 512) true (bkn && false) (bk ++ [List.take 512 (List.drop 0 b)])]) ∧ (List.take 512 (List.drop 0 b)).length = 512 ∧ Dup ((szOK [List.take 512 (List.drop 0 b)] 512 ∧ (bk.length + 1) * 512 ≤
 140737488355328) ∧ R (Y6 (↑bk.length : Int)) [Ob.box [LV.box 1 0, LV.mp 2, LV.mp 3], Ob.box [Y6 sz, LV.own 4, LV.own 5], Ob.mp (zai (PV.agg (List.take 512 (List.drop 0 b))) (Z6 (↑bk.length : Int)) kn), Ob.mp ev, Ob.sl ((3 : Nat), 1) ixm
 ixn ix, Ob.sl (163, 512) true (bkn && false) (bk ++ [List.take 512 (List.drop 0 b)])]))
theorem zen (sz : Int) (kn ev : List (PV × PV)) (ixm ixn bkm bkn : Bool) (ix bk : LL) (b : List PV) {R : LV → Hp → Prop} (h : zba sz kn ev ixm ixn bkm bkn ix bk b R) : ACall Tryz.prog 92 [.box 0 0, .pv (.agg b)] [.box [.box 1 0, .mp 2, .mp 3], .box [.pv (.int .i64 sz), .own 4, .own 5], .mp kn, .mp ev, .sl (3, 1) ixm ixn ix, .sl (163, 512) bkm bkn bk] R :=
  ACall.of Tryz.func92 (by kernel_rfl) (by kernel_rfl) (Nat.le_of_ble_eq_true (by kernel_rfl)) (Eq.mpr (by kernel_rfl : aFnH Tryz.prog (fun _ => none) Tryz.f92 [0, 1, 3, 4, 5, 6, 17] (fun _ => none) [0,1,2,3,4,5] (Tryz.f92.body.getD .skip) [.box 0 0, .pv (.agg b)] [.box [.box 1 0, .mp 2, .mp 3], .box [.pv (.int .i64 sz), .own 4, .own 5], .mp kn, .mp ev, .sl (3, 1) ixm ixn ix, .sl (163, 512) bkm bkn bk] R = zba sz kn ev ixm ixn bkm bkn ix bk b R) h)

def z19 (sz : Int) (kn ev : List (PV × PV)) (ixm ixn bkm bkn : Bool) (ix bk : LL) (va vb vc vd : Bool) (x20 : Int) (m_2 : List (PV × PV)) (m_3 : List (PV × PV)) (c_7 : List PV) : Env × Hp := ([(0, LV.box 0 0), (3, LV.box 6 0), (7, LV.box 7 0), (20, .pv (.int IntKind.i64 x20))], [.box [LV.box 1 0, LV.mp 2, LV.mp 3], .box [LV.pv (PV.int IntKind.i64 sz), LV.own 4, LV.own 5], .mp m_2, .mp m_3, .sl (3, 1) ixm ixn ix, .sl (163, 512) bkm bkn bk, .box [LV.pv (PV.bool va), LV.pv (PV.bool vb), LV.pv (PV.bool vc), LV.pv (PV.bool vd)], .arr c_7])
def zbb (sz : Int) (kn ev : List (PV × PV)) (ixm ixn bkm bkn : Bool) (ix bk : LL) (va vb vc vd : Bool) (J : Int → (List (PV × PV)) → (List (PV × PV)) → (List PV) → Prop) (μ : Int → (List (PV × PV)) → (List (PV × PV)) → (List PV) → Nat) (R : LV → Hp → Prop) : Prop :=
 zbk Tryz.prog 99 ev ∧ za1 Tryz.prog 99 (PV.agg [Zb va, Zb vb, Zb vc, Zb vd]) = true ∧ (∀ (v : PV), zbc (PV.agg [Zb va, Zb vb, Zb vc, Zb vd]) ev = some v → ∃ (n : Int), v = Z6 n ∧ R (Y6 n) [Ob.box [LV.box 1 0, LV.mp 2, LV.mp 3],
 Ob.box [Y6 sz, LV.own 4, LV.own 5], Ob.mp kn, Ob.mp ev, Ob.sl (3, 1) ixm ixn ix, Ob.sl (163, 512) bkm bkn bk]) ∧ (zbc (PV.agg [Zb va, Zb vb, Zb vc, Zb vd]) ev = none → (SameSt ([(0, LV.box 0 0), (3, LV.box 6 0), (7, LV.box 7 0), (20, Y6
 0)], [Ob.box [LV.box 1 0, LV.mp 2, LV.mp 3], Ob.box [Y6 sz, LV.own 4, LV.own 5], Ob.mp kn, Ob.mp ev, Ob.sl (3, 1) (bif false then true else ixm) ixn ix, Ob.sl (163, 512) (bif false then true else bkm) bkn bk, Ob.box [LV.pv (Zb va), LV.pv
 (Zb vb), LV.pv (Zb vc), LV.pv (Zb vd)], Ob.arr (List.replicate 512 (Zb false))]) (z19 sz kn ev ixm ixn bkm bkn ix bk va vb vc vd (0 : Int) kn ev (List.replicate 512 (Zb false))) ∧ J (0 : Int) kn ev (List.replicate 512 (Zb false))) ∧ ∀
 (x20 : Int) (m_2 m_3 : List (PV × PV)) (c_7 : List PV), J x20 m_2 m_3 c_7 → if decide (x20 < 128) = true then ((0 : Int) ≤ x20 ∧ x20 < (↑128 : Int)) ∧ (4 = 4 ∧ 0 + x20.toNat * 4 + 4 ≤ c_7.length) ∧ SameSt ([(0, LV.box 0 0), (3, LV.box 6 0),
 (7, LV.box 7 0), (20, LV.pv (Z6 (IntKind.i64.wrap (x20 + 1))))], [Ob.box [LV.box 1 0, LV.mp 2, LV.mp 3], Ob.box [Y6 sz, LV.own 4, LV.own 5], Ob.mp m_2, Ob.mp m_3, Ob.sl (3, 1) (bif false then true else ixm) ixn ix, Ob.sl (163, 512) (bif
 false then true else bkm) bkn bk, Ob.box [LV.pv (Zb va), LV.pv (Zb vb), LV.pv (Zb vc), LV.pv (Zb vd)], Ob.arr (spl c_7 (0 + x20.toNat * 4) [Zb va, Zb vb, Zb vc, Zb vd])]) (z19 sz kn ev ixm ixn bkm bkn ix bk va vb vc vd (IntKind.i64.wrap
 (x20 + 1)) m_2 m_3 (spl c_7 (0 + x20.toNat * 4) [Zb va, Zb vb, Zb vc, Zb vd])) ∧ J (IntKind.i64.wrap (x20 + 1)) m_2 m_3 (spl c_7 (0 + x20.toNat * 4) [Zb va, Zb vb, Zb vc, Zb vd]) ∧ μ (IntKind.i64.wrap (x20 + 1)) m_2 m_3 (spl c_7 (0 +
 x20.toNat * 4) [Zb va, Zb vb, Zb vc, Zb vd]) < μ x20 m_2 m_3 c_7 else 512 ≤ (List.drop 0 c_7).length ∧ ACall Tryz.prog 92 [LV.box 0 0, LV.pv (PV.agg (List.take 512 (List.drop 0 c_7)))] [Ob.box [LV.box 1 0, LV.mp 2, LV.mp 3], Ob.box [Y6 sz,
 LV.own 4, LV.own 5], Ob.mp m_2, Ob.mp m_3, Ob.sl (3, 1) false ixn ix, Ob.sl ((163 : Nat), 512) false bkn bk] fun (r : LV) (h' : Hp) ↦ ∃ (t : Int × List (PV × PV) × Bool × LL), (r = Y6 t.1 ∧ h' = [Ob.box [LV.box 1 0, LV.mp 2, LV.mp 3],
 Ob.box [Y6 sz, LV.own 4, LV.own 5], Ob.mp t.snd.fst, Ob.mp m_3, Ob.sl (3, 1) false ixn ix, Ob.sl (163, 512) true t.snd.snd.fst t.snd.snd.snd]) ∧ (True ∧ ((3, 1) = (3, 1) ∧ ixn = ixn ∧ ix.length = ix.length) ∧ True ∧ True ∧ True ∧ True ∧
 True) ∧ zbk Tryz.prog 99 m_3 ∧ za1 Tryz.prog 99 (PV.agg [Zb va, Zb vb, Zb vc, Zb vd]) = true ∧ R (Y6 t.1) [Ob.box [LV.box 1 0, LV.mp 2, LV.mp 3], Ob.box [Y6 sz, LV.own 4, LV.own 5], Ob.mp t.snd.fst, Ob.mp (zai (PV.agg [Zb va, Zb vb,
 Zb vc, Zb vd]) (Z6 t.1) m_3), Ob.sl (3, 1) (ixm || false) ixn ix, Ob.sl (163, 512) (bkm || true) t.snd.snd.fst t.snd.snd.snd])
theorem zeo (sz : Int) (kn ev : List (PV × PV)) (ixm ixn bkm bkn : Bool) (ix bk : LL) (va vb vc vd : Bool) (J : Int → (List (PV × PV)) → (List (PV × PV)) → (List PV) → Prop) (μ : Int → (List (PV × PV)) → (List (PV × PV)) → (List PV) → Nat) {R : LV → Hp → Prop} (h : zbb sz kn ev ixm ixn bkm bkn ix bk va vb vc vd J μ R) : ACall Tryz.prog 91 [.box 0 0, .pv (.agg [.bool va, .bool vb, .bool vc, .bool vd])] [.box [.box 1 0, .mp 2, .mp 3], .box [.pv (.int .i64 sz), .own 4, .own 5], .mp kn, .mp ev, .sl (3, 1) ixm ixn ix, .sl (163, 512) bkm bkn bk] R :=
  ACall.of Tryz.func91 (by kernel_rfl) (by kernel_rfl) (Nat.le_of_ble_eq_true (by kernel_rfl)) (Eq.mpr (by kernel_rfl : aFnH Tryz.prog (fun zz_ => match zz_ with | 92 => some ⟨Int × List (PV × PV) × Bool × LL, fun _ hs t => (.pv (.int .i64 t.1), match hs with | [m, r, .mp _, ev, ix, .sl a _ _ _] => [m, r, .mp t.2.1, ev, ix, .sl a true t.2.2.1 t.2.2.2] | h => h), none⟩ | _ => none) Tryz.f91 [0, 1, 3, 4, 5, 6, 7, 8, 19, 20, 21] (fun zz_ => match zz_ with | 5 => some ⟨Int × (List (PV × PV)) × (List (PV × PV)) × (List PV), fun s => z19 sz kn ev ixm ixn bkm bkn ix bk va vb vc vd s.1 s.2.1 s.2.2.1 s.2.2.2, fun _ s => J s.1 s.2.1 s.2.2.1 s.2.2.2, fun s => μ s.1 s.2.1 s.2.2.1 s.2.2.2, fun e h => (gI e 20, oM h 2, oM h 3, oA h 7), [], [0, 3, 7, 20], [], fun p => ∀ (x20 : Int) (m_2 : List (PV × PV)) (m_3 : List (PV × PV)) (c_7 : List PV), p (x20, m_2, m_3, c_7), fun p h s => h s.1 s.2.1 s.2.2.1 s.2.2.2⟩ | _ => none) [0,1,2,3,4,5] (Tryz.f91.body.getD .skip) [.box 0 0, .pv (.agg [.bool va, .bool vb, .bool vc, .bool vd])] [.box [.box 1 0, .mp 2, .mp 3], .box [.pv (.int .i64 sz), .own 4, .own 5], .mp kn, .mp ev, .sl (3, 1) ixm ixn ix, .sl (163, 512) bkm bkn bk] R = zbb sz kn ev ixm ixn bkm bkn ix bk va vb vc vd J μ R) h)

def zrc (sz : Int) (za zb zc zd : Bool) (n f : Bool) (es : LL) (x10 : Int) (x11 : Int) (h3_0 : Bool) (h3_1 : Bool) (h3_2 : Bool) (h3_3 : Bool) (n_4 : Bool) (s_4 : LL) (n_5 : Bool) (s_5 : LL) (m_6 : List (PV × PV)) (m_7 : List (PV × PV)) : Env × Hp := ([(0, LV.pv (PV.int IntKind.i64 sz)), (2, LV.pv (PV.sl n f es)), (4, LV.box 0 0), (7, LV.box 1 0), (8, LV.box 2 0), (9, LV.box 3 0), (10, .pv (.int IntKind.i64 x10)), (11, .pv (.int IntKind.i64 x11))], [.box [LV.pv (PV.bool za), LV.pv (PV.bool zb), LV.pv (PV.bool zc), LV.pv (PV.bool zd)], .box [LV.pv (PV.int IntKind.i64 sz), LV.own 4, LV.own 5], .box [LV.box 1 0, LV.mp 6, LV.mp 7], .box [.pv (.bool h3_0), .pv (.bool h3_1), .pv (.bool h3_2), .pv (.bool h3_3)], .sl (3, 1) true n_4 s_4, .sl (163, 512) true n_5 s_5, .mp m_6, .mp m_7])
def zrd (sz : Int) (za zb zc zd : Bool) (n f : Bool) (es : LL) (x10 : Int) (x11 : Int) (x13 : Int) (h3_0 : Bool) (h3_1 : Bool) (h3_2 : Bool) (h3_3 : Bool) (n_4 : Bool) (s_4 : LL) (n_5 : Bool) (s_5 : LL) (m_6 : List (PV × PV)) (m_7 : List (PV × PV)) : Env × Hp := ([(0, LV.pv (PV.int IntKind.i64 sz)), (2, LV.pv (PV.sl n f es)), (4, LV.box 0 0), (7, LV.box 1 0), (8, LV.box 2 0), (9, LV.box 3 0), (10, .pv (.int IntKind.i64 x10)), (11, .pv (.int IntKind.i64 x11)), (13, .pv (.int IntKind.i64 x13))], [.box [LV.pv (PV.bool za), LV.pv (PV.bool zb), LV.pv (PV.bool zc), LV.pv (PV.bool zd)], .box [LV.pv (PV.int IntKind.i64 sz), LV.own 4, LV.own 5], .box [LV.box 1 0, LV.mp 6, LV.mp 7], .box [.pv (.bool h3_0), .pv (.bool h3_1), .pv (.bool h3_2), .pv (.bool h3_3)], .sl (3, 1) true n_4 s_4, .sl (163, 512) true n_5 s_5, .mp m_6, .mp m_7])
def zmu (sz : Int) (za zb zc zd : Bool) (n f : Bool) (es : LL) (x10 : Int) (x11 : Int) (x88 : Int) (h3_0 : Bool) (h3_1 : Bool) (h3_2 : Bool) (h3_3 : Bool) (c_4 : List PV) (n_5 : Bool) (s_5 : LL) (n_6 : Bool) (s_6 : LL) (m_7 : List (PV × PV)) (m_8 : List (PV × PV)) : Env × Hp := ([(0, LV.pv (PV.int IntKind.i64 sz)), (2, LV.pv (PV.sl n f es)), (4, LV.box 0 0), (7, LV.box 1 0), (8, LV.box 2 0), (9, LV.box 3 0), (10, .pv (.int IntKind.i64 x10)), (11, .pv (.int IntKind.i64 x11)), (14, LV.box 4 0), (88, .pv (.int IntKind.i64 x88))], [.box [LV.pv (PV.bool za), LV.pv (PV.bool zb), LV.pv (PV.bool zc), LV.pv (PV.bool zd)], .box [LV.pv (PV.int IntKind.i64 sz), LV.own 5, LV.own 6], .box [LV.box 1 0, LV.mp 7, LV.mp 8], .box [.pv (.bool h3_0), .pv (.bool h3_1), .pv (.bool h3_2), .pv (.bool h3_3)], .arr c_4, .sl (3, 1) true n_5 s_5, .sl (163, 512) true n_6 s_6, .mp m_7, .mp m_8])
def zb5 (sz : Int) (za zb zc zd : Bool) (n f : Bool) (es : LL) (J : Int → Int → Bool → Bool → Bool → Bool → Bool → (LL) → Bool → (LL) → (List (PV × PV)) → (List (PV × PV)) → Prop) (μ : Int → Int → Bool → Bool → Bool → Bool → Bool → (LL) → Bool → (LL) → (List (PV × PV)) → (List (PV × PV)) → Nat) (J2 : Int → Int → Int → Bool → Bool → Bool → Bool → Bool → (LL) → Bool → (LL) → (List (PV × PV)) → (List (PV × PV)) → Int → Int → Int → Bool → Bool → Bool → Bool → Bool → (LL) → Bool → (LL) → (List (PV × PV)) → (List (PV × PV)) → Prop) (μ2 : Int → Int → Int → Bool → Bool → Bool → Bool → Bool → (LL) → Bool → (LL) → (List (PV × PV)) → (List (PV × PV)) → Nat) (J3 : Int → Int → Int → Bool → Bool → Bool → Bool → (List PV) → Bool → (LL) → Bool → (LL) → (List (PV × PV)) → (List (PV × PV)) → Int → Int → Int → Bool → Bool → Bool → Bool → (List PV) → Bool → (LL) → Bool → (LL) → (List (PV × PV)) → (List (PV × PV)) → Prop) (μ3 : Int → Int → Int → Bool → Bool → Bool → Bool → (List PV) → Bool → (LL) → Bool → (LL) → (List (PV × PV)) → (List (PV × PV)) → Nat) (R : PV → Prop) : Prop :=
 if decide (sz < 1) = true then R PV.nilp else PCall Tryz.prog 90 [PV.sl n f es, PV.agg [Zb za, Zb zb, Zb zc, Zb zd], Z6 0, Z6 (IntKind.i64.wrap (sz - 1))] fun (v : PV) ↦ ∃ (vs : List PV), v = PV.tup vs ∧ vs.length = 2 ∧ ∃ (x : PV), vs.head?
 = some x ∧ ∃ (cs : List PV), x = PV.agg cs ∧ cs.length = 4 ∧ ∃ (b : Bool), cs.head? = some (Zb b) ∧ ∃ (b1 : Bool), cs.tail.head? = some (Zb b1) ∧ ∃ (b2 : Bool), cs.tail.tail.head? = some (Zb b2) ∧ ∃ (b3 : Bool), cs.tail.tail.tail.head? =
 some (Zb b3) ∧ ∃ (x1 : PV), vs.tail.head? = some x1 ∧ ∃ (n1 : Int), x1 = Z6 n1 ∧ (zab (zrc sz za zb zc zd n f es n1 (0 : Int) b b1 b2 b3 true [] true [] [] []) ∧ J n1 (0 : Int) b b1 b2 b3 true [] true [] [] []) ∧ ∀ (x10 x11 : Int) (h3_0
 h3_1 h3_2 h3_3 n_4 : Bool) (s_4 : LL) (n_5 : Bool) (s_5 : LL) (m_6 m_7 : List (PV × PV)), J x10 x11 h3_0 h3_1 h3_2 h3_3 n_4 s_4 n_5 s_5 m_6 m_7 → if decide (x11 < sz) = true then if decide (x11 > x10) = true then PCall Tryz.prog 90 [PV.sl n
 f es, PV.agg [Zb za, Zb zb, Zb zc, Zb zd], Z6 x11, Z6 (IntKind.i64.wrap (sz - 1))] fun (v1 : PV) ↦ ∃ (vs1 : List PV), v1 = PV.tup vs1 ∧ vs1.length = 2 ∧ ∃ (x2 : PV), vs1.head? = some x2 ∧ ∃ (cs1 : List PV), x2 = PV.agg cs1 ∧ cs1.length = 4
 ∧ ∃ (b4 : Bool), cs1.head? = some (Zb b4) ∧ ∃ (b5 : Bool), cs1.tail.head? = some (Zb b5) ∧ ∃ (b6 : Bool), cs1.tail.tail.head? = some (Zb b6) ∧ ∃ (b7 : Bool), cs1.tail.tail.tail.head? = some (Zb b7) ∧ ∃ (x3 : PV), vs1.tail.head? = some x3 ∧
 ∃ (n2 : Int), x3 = Z6 n2 ∧ if decide (n2 ≥ IntKind.i64.wrap ((if sz < IntKind.i64.wrap (x11 + 128) then sz else IntKind.i64.wrap (x11 + 128)) - 1)) = true then ACall Tryz.prog 91 [LV.box 0 0, LV.pv (PV.agg [Zb b4, Zb b5, Zb b6, Zb b7])]
 [Ob.box [LV.box 1 0, LV.mp 2, LV.mp 3], Ob.box [Y6 sz, LV.own 4, LV.own 5], Ob.mp m_6, Ob.mp m_7, Ob.sl (3, 1) false n_4 s_4, Ob.sl (163, 512) false n_5 s_5] fun (r : LV) (h' : Hp) ↦ ∃ (t : Int × List (PV × PV) × List (PV × PV) × Bool ×
 LL), (r = Y6 t.1 ∧ h' = [Ob.box [LV.box 1 0, LV.mp 2, LV.mp 3], Ob.box [Y6 sz, LV.own 4, LV.own 5], Ob.mp t.snd.fst, Ob.mp t.snd.snd.fst, Ob.sl (3, 1) false n_4 s_4, Ob.sl (163, 512) true t.snd.snd.snd.fst t.snd.snd.snd.snd]) ∧ (True ∧ ((3,
 1) = (3, 1) ∧ n_4 = n_4 ∧ s_4.length = s_4.length) ∧ True ∧ True ∧ True ∧ True ∧ True) ∧ (zab (zrd sz za zb zc zd n f es n2 x11 t.1 b4 b5 b6 b7 n_4 s_4 t.snd.snd.snd.fst t.snd.snd.snd.snd t.snd.fst t.snd.snd.fst) ∧ J2 n2 x11 t.1 b4 b5
 b6 b7 n_4 s_4 t.snd.snd.snd.fst t.snd.snd.snd.snd t.snd.fst t.snd.snd.fst n2 x11 t.1 b4 b5 b6 b7 n_4 s_4 t.snd.snd.snd.fst t.snd.snd.snd.snd t.snd.fst t.snd.snd.fst) ∧ ∀ (x101 x111 x13 : Int) (h3_01 h3_11 h3_21 h3_31 n_41 : Bool) (s_41 :
 LL) (n_51 : Bool) (s_51 : LL) (m_61 m_71 : List (PV × PV)), J2 n2 x11 t.1 b4 b5 b6 b7 n_4 s_4 t.snd.snd.snd.fst t.snd.snd.snd.snd t.snd.fst t.snd.snd.fst x101 x111 x13 h3_01 h3_11 h3_21 h3_31 n_41 s_41 n_51 s_51 m_61 m_71 → if (decide (x111
 < sz) && decide (x101 ≥ IntKind.i64.wrap ((if sz < IntKind.i64.wrap (x111 + 128) then sz else IntKind.i64.wrap (x111 + 128)) - 1))) = true then (szOK [[Z6 x13]] 1 ∧ (s_41.length + 1) * 8 ≤ 140737488355328) ∧ zab (zrd sz za zb zc zd n f
 es x101 (IntKind.i64.wrap (x111 + 128)) x13 h3_01 h3_11 h3_21 h3_31 (n_41 && false) (s_41 ++ [[Z6 x13]]) n_51 s_51 m_61 m_71) ∧ J2 n2 x11 t.1 b4 b5 b6 b7 n_4 s_4 t.snd.snd.snd.fst t.snd.snd.snd.snd t.snd.fst t.snd.snd.fst x101
 (IntKind.i64.wrap (x111 + 128)) x13 h3_01 h3_11 h3_21 h3_31 (n_41 && false) (s_41 ++ [[Z6 x13]]) n_51 s_51 m_61 m_71 ∧ μ2 x101 (IntKind.i64.wrap (x111 + 128)) x13 h3_01 h3_11 h3_21 h3_31 (n_41 && false) (s_41 ++ [[Z6 x13]]) n_51 s_51 m_61
 m_71 < μ2 x101 x111 x13 h3_01 h3_11 h3_21 h3_31 n_41 s_41 n_51 s_51 m_61 m_71 else zab (zrc sz za zb zc zd n f es x101 (IntKind.i64.wrap (IntKind.i64.wrap (x111 - 128) + 128)) h3_01 h3_11 h3_21 h3_31 n_41 s_41 n_51 s_51 m_61 m_71) ∧ J
 x101 (IntKind.i64.wrap (IntKind.i64.wrap (x111 - 128) + 128)) h3_01 h3_11 h3_21 h3_31 n_41 s_41 n_51 s_51 m_61 m_71 ∧ μ x101 (IntKind.i64.wrap (IntKind.i64.wrap (x111 - 128) + 128)) h3_01 h3_11 h3_21 h3_31 n_41 s_41 n_51 s_51 m_61 m_71 < μ
 x10 x11 h3_0 h3_1 h3_2 h3_3 n_4 s_4 n_5 s_5 m_6 m_7 else (zab (zmu sz za zb zc zd n f es n2 x11 (0 : Int) b4 b5 b6 b7 (List.replicate 512 (Zb false)) n_4 s_4 n_5 s_5 m_6 m_7) ∧ J3 n2 x11 (0 : Int) b4 b5 b6 b7 (List.replicate 512 (Zb
 false)) n_4 s_4 n_5 s_5 m_6 m_7 n2 x11 (0 : Int) b4 b5 b6 b7 (List.replicate 512 (Zb false)) n_4 s_4 n_5 s_5 m_6 m_7) ∧ ∀ (x101 x111 x88 : Int) (h3_01 h3_11 h3_21 h3_31 : Bool) (c_4 : List PV) (n_51 : Bool) (s_51 : LL) (n_6 : Bool) (s_6 :
 LL) (m_71 m_8 : List (PV × PV)), J3 n2 x11 (0 : Int) b4 b5 b6 b7 (List.replicate 512 (Zb false)) n_4 s_4 n_5 s_5 m_6 m_7 x101 x111 x88 h3_01 h3_11 h3_21 h3_31 c_4 n_51 s_51 n_6 s_6 m_71 m_8 → if decide (x88 < 128) = true then if (decide
 (IntKind.i64.wrap (x111 + x88) > x101) && decide (IntKind.i64.wrap (x111 + x88) < sz)) = true then PCall Tryz.prog 90 [PV.sl n f es, PV.agg [Zb za, Zb zb, Zb zc, Zb zd], Z6 (IntKind.i64.wrap (x111 + x88)), Z6 (IntKind.i64.wrap (sz - 1))]
 fun (v2 : PV) ↦ ∃ (vs2 : List PV), v2 = PV.tup vs2 ∧ vs2.length = 2 ∧ ∃ (x4 : PV), vs2.head? = some x4 ∧ ∃ (cs2 : List PV), x4 = PV.agg cs2 ∧ cs2.length = 4 ∧ ∃ (b8 : Bool), cs2.head? = some (Zb b8) ∧ ∃ (b9 : Bool), cs2.tail.head? = some
 (Zb b9) ∧ ∃ (b10 : Bool), cs2.tail.tail.head? = some (Zb b10) ∧ ∃ (b11 : Bool), cs2.tail.tail.tail.head? = some (Zb b11) ∧ ∃ (x5 : PV), vs2.tail.head? = some x5 ∧ ∃ (n3 : Int), x5 = Z6 n3 ∧ ((0 : Int) ≤ x88 ∧ x88 < (↑128 : Int)) ∧ (4 = 4 ∧
 0 + x88.toNat * 4 + 4 ≤ c_4.length) ∧ zab (zmu sz za zb zc zd n f es n3 x111 (IntKind.i64.wrap (x88 + 1)) b8 b9 b10 b11 (spl c_4 (0 + x88.toNat * 4) [Zb b8, Zb b9, Zb b10, Zb b11]) n_51 s_51 n_6 s_6 m_71 m_8) ∧ J3 n2 x11 (0 : Int) b4
 b5 b6 b7 (List.replicate 512 (Zb false)) n_4 s_4 n_5 s_5 m_6 m_7 n3 x111 (IntKind.i64.wrap (x88 + 1)) b8 b9 b10 b11 (spl c_4 (0 + x88.toNat * 4) [Zb b8, Zb b9, Zb b10, Zb b11]) n_51 s_51 n_6 s_6 m_71 m_8 ∧ μ3 n3 x111 (IntKind.i64.wrap (x88
 + 1)) b8 b9 b10 b11 (spl c_4 (0 + x88.toNat * 4) [Zb b8, Zb b9, Zb b10, Zb b11]) n_51 s_51 n_6 s_6 m_71 m_8 < μ3 x101 x111 x88 h3_01 h3_11 h3_21 h3_31 c_4 n_51 s_51 n_6 s_6 m_71 m_8 else ((0 : Int) ≤ x88 ∧ x88 < (↑128 : Int)) ∧ (4 = 4 ∧ 0 +
 x88.toNat * 4 + 4 ≤ c_4.length) ∧ zab (zmu sz za zb zc zd n f es x101 x111 (IntKind.i64.wrap (x88 + 1)) h3_01 h3_11 h3_21 h3_31 (spl c_4 (0 + x88.toNat * (4 : Nat)) [Zb h3_01, Zb h3_11, Zb h3_21, Zb h3_31]) n_51 s_51 n_6 s_6 m_71 m_8)
 ∧ J3 n2 x11 (0 : Int) b4 b5 b6 b7 (List.replicate 512 (Zb false)) n_4 s_4 n_5 s_5 m_6 m_7 x101 x111 (IntKind.i64.wrap (x88 + 1)) h3_01 h3_11 h3_21 h3_31 (spl c_4 (0 + x88.toNat * (4 : Nat)) [Zb h3_01, Zb h3_11, Zb h3_21, Zb h3_31]) n_51
 s_51 n_6 s_6 m_71 m_8 ∧ μ3 x101 x111 (IntKind.i64.wrap (x88 + 1)) h3_01 h3_11 h3_21 h3_31 (spl c_4 (0 + x88.toNat * 4) [Zb h3_01, Zb h3_11, Zb h3_21, Zb h3_31]) n_51 s_51 n_6 s_6 m_71 m_8 < μ3 x101 x111 x88 h3_01 h3_11 h3_21 h3_31 c_4 n_51
 s_51 n_6 s_6 m_71 m_8 else 512 ≤ (List.drop 0 c_4).length ∧ (ACall Tryz.prog 92 [LV.box 0 0, LV.pv (PV.agg (List.take 512 (List.drop 0 c_4)))] [Ob.box [LV.box 1 0, LV.mp 2, LV.mp 3], Ob.box [Y6 sz, LV.own 4, LV.own 5], Ob.mp m_71, Ob.mp
 m_8, Ob.sl (3, 1) false n_51 s_51, Ob.sl (163, 512) false n_6 s_6] fun (r : LV) (h' : Hp) ↦ ∃ (t : Int × List (PV × PV) × Bool × LL), (r = Y6 t.1 ∧ h' = [Ob.box [LV.box 1 0, LV.mp 2, LV.mp 3], Ob.box [Y6 sz, LV.own 4, LV.own 5], Ob.mp
 t.snd.fst, Ob.mp m_8, Ob.sl (3, 1) false n_51 s_51, Ob.sl (163, 512) true t.snd.snd.fst t.snd.snd.snd]) ∧ (True ∧ ((3, 1) = (3, 1) ∧ n_51 = n_51 ∧ s_51.length = s_51.length) ∧ True ∧ True ∧ True ∧ True ∧ True) ∧ (szOK [[Z6 t.1]] 1 ∧
 (s_51.length + 1) * 8 ≤ 140737488355328) ∧ zab (zrc sz za zb zc zd n f es x101 (IntKind.i64.wrap (x111 + 128)) h3_01 h3_11 h3_21 h3_31 (n_51 && false) (s_51 ++ [[Z6 t.1]]) t.snd.snd.fst t.snd.snd.snd t.snd.fst m_8) ∧ J x101
 (IntKind.i64.wrap (x111 + 128)) h3_01 h3_11 h3_21 h3_31 (n_51 && false) (s_51 ++ [[Z6 t.1]]) t.snd.snd.fst t.snd.snd.snd t.snd.fst m_8 ∧ μ x101 (IntKind.i64.wrap (x111 + 128)) h3_01 h3_11 h3_21 h3_31 (n_51 && false) (s_51 ++ [[Z6 t.1]])
 t.snd.snd.fst t.snd.snd.snd t.snd.fst m_8 < μ x10 x11 h3_0 h3_1 h3_2 h3_3 n_4 s_4 n_5 s_5 m_6 m_7) ∧ ACall Tryz.prog 92 [LV.box 0 0, LV.pv (PV.agg (List.take 512 (List.drop 0 c_4)))] [Ob.box [LV.box 1 0, LV.mp 2, LV.mp 3], Ob.box [Y6 sz,
 LV.own 4, LV.own 5], Ob.mp m_71, Ob.mp m_8, Ob.sl (3, 1) false n_51 s_51, Ob.sl (163, 512) false n_6 s_6] fun (r : LV) (h' : Hp) ↦ ∃ (t : Int × List (PV × PV) × Bool × LL), (r = Y6 t.1 ∧ h' = [Ob.box [LV.box 1 0, LV.mp 2, LV.mp 3], Ob.box
 [Y6 sz, LV.own 4, LV.own 5], Ob.mp t.snd.fst, Ob.mp m_8, Ob.sl (3, 1) false n_51 s_51, Ob.sl (163, 512) true t.snd.snd.fst t.snd.snd.snd]) ∧ (True ∧ ((3, 1) = (3, 1) ∧ n_51 = n_51 ∧ s_51.length = s_51.length) ∧ True ∧ True ∧ True ∧ True ∧
 True) ∧ (szOK [[Z6 t.1]] 1 ∧ (s_51.length + 1) * 8 ≤ 140737488355328) ∧ zab (zrc sz za zb zc zd n f es x101 (IntKind.i64.wrap (x111 + 128)) h3_01 h3_11 h3_21 h3_31 (n_51 && false) (s_51 ++ [[Z6 t.1]]) t.snd.snd.fst t.snd.snd.snd
 t.snd.fst m_8) ∧ J x101 (IntKind.i64.wrap (x111 + 128)) h3_01 h3_11 h3_21 h3_31 (n_51 && false) (s_51 ++ [[Z6 t.1]]) t.snd.snd.fst t.snd.snd.snd t.snd.fst m_8 ∧ μ x101 (IntKind.i64.wrap (x111 + 128)) h3_01 h3_11 h3_21 h3_31 (n_51 && false)
 (s_51 ++ [[Z6 t.1]]) t.snd.snd.fst t.snd.snd.snd t.snd.fst m_8 < μ x10 x11 h3_0 h3_1 h3_2 h3_3 n_4 s_4 n_5 s_5 m_6 m_7 else if decide (x10 ≥ IntKind.i64.wrap ((if sz < IntKind.i64.wrap (x11 + 128) then sz else IntKind.i64.wrap (x11 + 128))
 - 1)) = true then ACall Tryz.prog 91 [LV.box 0 0, LV.pv (PV.agg [Zb h3_0, Zb h3_1, Zb h3_2, Zb h3_3])] [Ob.box [LV.box 1 0, LV.mp 2, LV.mp 3], Ob.box [Y6 sz, LV.own 4, LV.own 5], Ob.mp m_6, Ob.mp m_7, Ob.sl (3, 1) false n_4 s_4, Ob.sl (163,
 512) false n_5 s_5] fun (r : LV) (h' : Hp) ↦ ∃ (t : Int × List (PV × PV) × List (PV × PV) × Bool × LL), (r = Y6 t.1 ∧ h' = [Ob.box [LV.box 1 0, LV.mp 2, LV.mp 3], Ob.box [Y6 sz, LV.own 4, LV.own 5], Ob.mp t.snd.fst, Ob.mp t.snd.snd.fst,
 Ob.sl (3, 1) false n_4 s_4, Ob.sl ((163 : Nat), 512) true t.snd.snd.snd.fst t.snd.snd.snd.snd]) ∧ (True ∧ ((3, 1) = (3, 1) ∧ n_4 = n_4 ∧ s_4.length = s_4.length) ∧ True ∧ True ∧ True ∧ True ∧ True) ∧ (zab (zrd sz za zb zc zd n f es x10
 x11 t.1 h3_0 h3_1 h3_2 h3_3 n_4 s_4 t.snd.snd.snd.fst t.snd.snd.snd.snd t.snd.fst t.snd.snd.fst) ∧ J2 x10 x11 t.1 h3_0 h3_1 h3_2 h3_3 n_4 s_4 t.snd.snd.snd.fst t.snd.snd.snd.snd t.snd.fst t.snd.snd.fst x10 x11 t.1 h3_0 h3_1 h3_2 h3_3 n_4
 s_4 t.snd.snd.snd.fst t.snd.snd.snd.snd t.snd.fst t.snd.snd.fst) ∧ ∀ (x101 x111 x13 : Int) (h3_01 h3_11 h3_21 h3_31 n_41 : Bool) (s_41 : LL) (n_51 : Bool) (s_51 : LL) (m_61 m_71 : List (PV × PV)), J2 x10 x11 t.1 h3_0 h3_1 h3_2 h3_3 n_4 s_4
 t.snd.snd.snd.fst t.snd.snd.snd.snd t.snd.fst t.snd.snd.fst x101 x111 x13 h3_01 h3_11 h3_21 h3_31 n_41 s_41 n_51 s_51 m_61 m_71 → if (decide (x111 < sz) && decide (x101 ≥ IntKind.i64.wrap ((if sz < IntKind.i64.wrap (x111 + 128) then sz else
 IntKind.i64.wrap (x111 + 128)) - 1))) = true then (szOK [[Z6 x13]] 1 ∧ (s_41.length + 1) * 8 ≤ 140737488355328) ∧ zab (zrd sz za zb zc zd n f es x101 (IntKind.i64.wrap (x111 + 128)) x13 h3_01 h3_11 h3_21 h3_31 (n_41 && false) (s_41 ++
 [[Z6 x13]]) n_51 s_51 m_61 m_71) ∧ J2 x10 x11 t.1 h3_0 h3_1 h3_2 h3_3 n_4 s_4 t.snd.snd.snd.fst t.snd.snd.snd.snd t.snd.fst t.snd.snd.fst x101 (IntKind.i64.wrap (x111 + 128)) x13 h3_01 h3_11 h3_21 h3_31 (n_41 && false) (s_41 ++ [[Z6 x13]])
 n_51 s_51 m_61 m_71 ∧ μ2 x101 (IntKind.i64.wrap (x111 + 128)) x13 h3_01 h3_11 h3_21 h3_31 (n_41 && false) (s_41 ++ [[Z6 x13]]) n_51 s_51 m_61 m_71 < μ2 x101 x111 x13 h3_01 h3_11 h3_21 h3_31 n_41 s_41 n_51 s_51 m_61 m_71 else zab (zrc sz
 za zb zc zd n f es x101 (IntKind.i64.wrap (IntKind.i64.wrap (x111 - 128) + 128)) h3_01 h3_11 h3_21 h3_31 n_41 s_41 n_51 s_51 m_61 m_71) ∧ J x101 (IntKind.i64.wrap (IntKind.i64.wrap (x111 - 128) + 128)) h3_01 h3_11 h3_21 h3_31 n_41 s_41 n_51
 s_51 m_61 m_71 ∧ μ x101 (IntKind.i64.wrap (IntKind.i64.wrap (x111 - 128) + 128)) h3_01 h3_11 h3_21 h3_31 n_41 s_41 n_51 s_51 m_61 m_71 < μ x10 x11 h3_0 h3_1 h3_2 h3_3 n_4 s_4 n_5 s_5 m_6 m_7 else (zab (zmu sz za zb zc zd n f es x10 x11
 (0 : Int) h3_0 h3_1 h3_2 h3_3 (List.replicate 512 (Zb false)) n_4 s_4 n_5 s_5 m_6 m_7) ∧ J3 x10 x11 (0 : Int) h3_0 h3_1 h3_2 h3_3 (List.replicate 512 (Zb false)) n_4 s_4 n_5 s_5 m_6 m_7 x10 x11 (0 : Int) h3_0 h3_1 h3_2 h3_3 (List.replicate
 512 (Zb false)) n_4 s_4 n_5 s_5 m_6 m_7) ∧ ∀ (x101 x111 x88 : Int) (h3_01 h3_11 h3_21 h3_31 : Bool) (c_4 : List PV) (n_51 : Bool) (s_51 : LL) (n_6 : Bool) (s_6 : LL) (m_71 m_8 : List (PV × PV)), J3 x10 x11 (0 : Int) h3_0 h3_1 h3_2 h3_3
 (List.replicate 512 (Zb false)) n_4 s_4 n_5 s_5 m_6 m_7 x101 x111 x88 h3_01 h3_11 h3_21 h3_31 c_4 n_51 s_51 n_6 s_6 m_71 m_8 → if decide (x88 < 128) = true then if (decide (IntKind.i64.wrap (x111 + x88) > x101) && decide (IntKind.i64.wrap
 (x111 + x88) < sz)) = true then PCall Tryz.prog 90 [PV.sl n f es, PV.agg [Zb za, Zb zb, Zb zc, Zb zd], Z6 (IntKind.i64.wrap (x111 + x88)), Z6 (IntKind.i64.wrap (sz - 1))] fun (v1 : PV) ↦ ∃ (vs1 : List PV), v1 = PV.tup vs1 ∧ vs1.length = 2 ∧
 ∃ (x2 : PV), vs1.head? = some x2 ∧ ∃ (cs1 : List PV), x2 = PV.agg cs1 ∧ cs1.length = 4 ∧ ∃ (b4 : Bool), cs1.head? = some (Zb b4) ∧ ∃ (b5 : Bool), cs1.tail.head? = some (Zb b5) ∧ ∃ (b6 : Bool), cs1.tail.tail.head? = some (Zb b6) ∧ ∃ (b7 :
 Bool), cs1.tail.tail.tail.head? = some (Zb b7) ∧ ∃ (x3 : PV), vs1.tail.head? = some x3 ∧ ∃ (n2 : Int), x3 = Z6 n2 ∧ ((0 : Int) ≤ x88 ∧ x88 < (↑128 : Int)) ∧ (4 = 4 ∧ 0 + x88.toNat * 4 + 4 ≤ c_4.length) ∧ zab (zmu sz za zb zc zd n f es
 n2 x111 (IntKind.i64.wrap (x88 + 1)) b4 b5 b6 b7 (spl c_4 (0 + x88.toNat * 4) [Zb b4, Zb b5, Zb b6, Zb b7]) n_51 s_51 n_6 s_6 m_71 m_8) ∧ J3 x10 x11 (0 : Int) h3_0 h3_1 h3_2 h3_3 (List.replicate 512 (Zb false)) n_4 s_4 n_5 s_5 m_6 m_7 n2
 x111 (IntKind.i64.wrap (x88 + 1)) b4 b5 b6 b7 (spl c_4 (0 + x88.toNat * 4) [Zb b4, Zb b5, Zb b6, Zb b7]) n_51 s_51 n_6 s_6 m_71 m_8 ∧ μ3 n2 x111 (IntKind.i64.wrap (x88 + 1)) b4 b5 b6 b7 (spl c_4 (0 + x88.toNat * 4) [Zb b4, Zb b5, Zb b6, Zb
 b7]) n_51 s_51 n_6 s_6 m_71 m_8 < μ3 x101 x111 x88 h3_01 h3_11 h3_21 h3_31 c_4 n_51 s_51 n_6 s_6 m_71 m_8 else ((0 : Int) ≤ x88 ∧ x88 < (↑128 : Int)) ∧ (4 = 4 ∧ 0 + x88.toNat * 4 + 4 ≤ c_4.length) ∧ zab (zmu sz za zb zc zd n f es x101
 x111 (IntKind.i64.wrap (x88 + 1)) h3_01 h3_11 h3_21 h3_31 (spl c_4 (0 + x88.toNat * 4) [Zb h3_01, Zb h3_11, Zb h3_21, Zb h3_31]) n_51 s_51 n_6 s_6 m_71 m_8) ∧ J3 x10 x11 (0 : Int) h3_0 h3_1 h3_2 h3_3 (List.replicate 512 (Zb false)) n_4 s_4
 n_5 s_5 m_6 m_7 x101 x111 (IntKind.i64.wrap (x88 + 1)) h3_01 h3_11 h3_21 h3_31 (spl c_4 (0 + x88.toNat * 4) [Zb h3_01, Zb h3_11, Zb h3_21, Zb h3_31]) n_51 s_51 n_6 s_6 m_71 m_8 ∧ μ3 x101 x111 (IntKind.i64.wrap (x88 + 1)) h3_01 h3_11 h3_21
 h3_31 (spl c_4 (0 + x88.toNat * 4) [Zb h3_01, Zb h3_11, Zb h3_21, Zb h3_31]) n_51 s_51 n_6 s_6 m_71 m_8 < μ3 x101 x111 x88 h3_01 h3_11 h3_21 h3_31 c_4 n_51 s_51 n_6 s_6 m_71 m_8 else 512 ≤ (List.drop 0 c_4).length ∧ (ACall Tryz.prog 92
 [LV.box 0 0, LV.pv (PV.agg (List.take 512 (List.drop 0 c_4)))] [Ob.box [LV.box 1 0, LV.mp 2, LV.mp 3], Ob.box [Y6 sz, LV.own 4, LV.own 5], Ob.mp m_71, Ob.mp m_8, Ob.sl (3, 1) false n_51 s_51, Ob.sl (163, 512) false n_6 s_6] fun (r : LV) (h'
 : Hp) ↦ ∃ (t : Int × List (PV × PV) × Bool × LL), (r = Y6 t.1 ∧ h' = [Ob.box [LV.box 1 0, LV.mp 2, LV.mp 3], Ob.box [Y6 sz, LV.own 4, LV.own 5], Ob.mp t.snd.fst, Ob.mp m_8, Ob.sl (3, 1) false n_51 s_51, Ob.sl (163, 512) true t.snd.snd.fst
 t.snd.snd.snd]) ∧ (True ∧ ((3, 1) = (3, 1) ∧ n_51 = n_51 ∧ s_51.length = s_51.length) ∧ True ∧ True ∧ True ∧ True ∧ True) ∧ (szOK [[Z6 t.1]] 1 ∧ (s_51.length + 1) * 8 ≤ 140737488355328) ∧ zab (zrc sz za zb zc zd n f es x101
 (IntKind.i64.wrap (x111 + 128)) h3_01 h3_11 h3_21 h3_31 (n_51 && false) (s_51 ++ [[Z6 t.1]]) t.snd.snd.fst t.snd.snd.snd t.snd.fst m_8) ∧ J x101 (IntKind.i64.wrap (x111 + 128)) h3_01 h3_11 h3_21 h3_31 (n_51 && false) (s_51 ++ [[Z6 t.1]])
 t.snd.snd.fst t.snd.snd.snd t.snd.fst m_8 ∧ μ x101 (IntKind.i64.wrap (x111 + 128)) h3_01 h3_11 h3_21 h3_31 (n_51 && false) (s_51 ++ [[Z6 t.1]]) t.snd.snd.fst t.snd.snd.snd t.snd.fst m_8 < μ x10 x11 h3_0 h3_1 h3_2 h3_3 n_4 s_4 n_5 s_5 m_6
 m_7) ∧ ACall Tryz.prog 92 [LV.box 0 0, LV.pv (PV.agg (List.take 512 (List.drop 0 c_4)))] [Ob.box [LV.box 1 0, LV.mp 2, LV.mp 3], Ob.box [Y6 sz, LV.own 4, LV.own 5], Ob.mp m_71, Ob.mp m_8, Ob.sl (3, 1) false n_51 s_51, Ob.sl (163, 512) false
 n_6 s_6] fun (r : LV) (h' : Hp) ↦ ∃ (t : Int × List (PV × PV) × Bool × LL), (r = Y6 t.1 ∧ h' = [Ob.box [LV.box 1 0, LV.mp 2, LV.mp 3], Ob.box [Y6 sz, LV.own 4, LV.own 5], Ob.mp t.snd.fst, Ob.mp m_8, Ob.sl (3, 1) false n_51 s_51, Ob.sl (163,
 512) true t.snd.snd.fst t.snd.snd.snd]) ∧ (True ∧ ((3, 1) = (3, 1) ∧ n_51 = n_51 ∧ s_51.length = s_51.length) ∧ True ∧ True ∧ True ∧ True ∧ True) ∧ (szOK [[Z6 t.1]] 1 ∧ (s_51.length + 1) * 8 ≤ 140737488355328) ∧ zab (zrc sz za zb zc zd
 n f es x101 (IntKind.i64.wrap (x111 + 128)) h3_01 h3_11 h3_21 h3_31 (n_51 && false) (s_51 ++ [[Z6 t.1]]) t.snd.snd.fst t.snd.snd.snd t.snd.fst m_8) ∧ J x101 (IntKind.i64.wrap (x111 + 128)) h3_01 h3_11 h3_21 h3_31 (n_51 && false) (s_51 ++
 [[Z6 t.1]]) t.snd.snd.fst t.snd.snd.snd t.snd.fst m_8 ∧ μ x101 (IntKind.i64.wrap (x111 + 128)) h3_01 h3_11 h3_21 h3_31 (n_51 && false) (s_51 ++ [[Z6 t.1]]) t.snd.snd.fst t.snd.snd.snd t.snd.fst m_8 < μ x10 x11 h3_0 h3_1 h3_2 h3_3 n_4 s_4
 n_5 s_5 m_6 m_7 else R (PV.ptr [Z6 sz, PV.sl n_4 false s_4, PV.sl n_5 false s_5])
theorem zgi (sz : Int) (za zb zc zd : Bool) (n f : Bool) (es : LL) (J : Int → Int → Bool → Bool → Bool → Bool → Bool → (LL) → Bool → (LL) → (List (PV × PV)) → (List (PV × PV)) → Prop) (μ : Int → Int → Bool → Bool → Bool → Bool → Bool → (LL) → Bool → (LL) → (List (PV × PV)) → (List (PV × PV)) → Nat) (J2 : Int → Int → Int → Bool → Bool → Bool → Bool → Bool → (LL) → Bool → (LL) → (List (PV × PV)) → (List (PV × PV)) → Int → Int → Int → Bool → Bool → Bool → Bool → Bool → (LL) → Bool → (LL) → (List (PV × PV)) → (List (PV × PV)) → Prop) (μ2 : Int → Int → Int → Bool → Bool → Bool → Bool → Bool → (LL) → Bool → (LL) → (List (PV × PV)) → (List (PV × PV)) → Nat) (J3 : Int → Int → Int → Bool → Bool → Bool → Bool → (List PV) → Bool → (LL) → Bool → (LL) → (List (PV × PV)) → (List (PV × PV)) → Int → Int → Int → Bool → Bool → Bool → Bool → (List PV) → Bool → (LL) → Bool → (LL) → (List (PV × PV)) → (List (PV × PV)) → Prop) (μ3 : Int → Int → Int → Bool → Bool → Bool → Bool → (List PV) → Bool → (LL) → Bool → (LL) → (List (PV × PV)) → (List (PV × PV)) → Nat) {R : PV → Prop} (h : zb5 sz za zb zc zd n f es J μ J2 μ2 J3 μ3 R) : PCall Tryz.prog 59 [.int .i64 sz, .agg [.bool za, .bool zb, .bool zc, .bool zd], .sl n f es] R :=
  PCall.of Tryz.func59 (by kernel_rfl) (by kernel_rfl) (Nat.le_of_ble_eq_true (by kernel_rfl)) (Eq.mpr (by kernel_rfl : aFn Tryz.prog (fun zz_ => match zz_ with | 92 => some ⟨Int × List (PV × PV) × Bool × LL, fun _ hs t => (.pv (.int .i64 t.1), match hs with | [m, r, .mp _, ev, ix, .sl a _ _ _] => [m, r, .mp t.2.1, ev, ix, .sl a true t.2.2.1 t.2.2.2] | h => h), none⟩ | 91 => some ⟨Int × List (PV × PV) × List (PV × PV) × Bool × LL, fun _ hs t => (.pv (.int .i64 t.1), match hs with | [m, r, .mp _, .mp _, ix, .sl a _ _ _] => [m, r, .mp t.2.1, .mp t.2.2.1, ix, .sl a true t.2.2.2.1 t.2.2.2.2] | h => h), none⟩ | _ => none) Tryz.f59 [0, 1, 2, 4, 6, 7, 8, 9, 10, 11, 12, 13, 14, 15, 17, 36, 41, 58, 73, 88, 89, 102] (fun zz_ => match zz_ with | 7 => some ⟨Int × Int × Bool × Bool × Bool × Bool × Bool × (LL) × Bool × (LL) × (List (PV × PV)) × (List (PV × PV)), fun s => zrc sz za zb zc zd n f es s.1 s.2.1 s.2.2.1 s.2.2.2.1 s.2.2.2.2.1 s.2.2.2.2.2.1 s.2.2.2.2.2.2.1 s.2.2.2.2.2.2.2.1 s.2.2.2.2.2.2.2.2.1 s.2.2.2.2.2.2.2.2.2.1 s.2.2.2.2.2.2.2.2.2.2.1 s.2.2.2.2.2.2.2.2.2.2.2, fun _ s => J s.1 s.2.1 s.2.2.1 s.2.2.2.1 s.2.2.2.2.1 s.2.2.2.2.2.1 s.2.2.2.2.2.2.1 s.2.2.2.2.2.2.2.1 s.2.2.2.2.2.2.2.2.1 s.2.2.2.2.2.2.2.2.2.1 s.2.2.2.2.2.2.2.2.2.2.1 s.2.2.2.2.2.2.2.2.2.2.2, fun s => μ s.1 s.2.1 s.2.2.1 s.2.2.2.1 s.2.2.2.2.1 s.2.2.2.2.2.1 s.2.2.2.2.2.2.1 s.2.2.2.2.2.2.2.1 s.2.2.2.2.2.2.2.2.1 s.2.2.2.2.2.2.2.2.2.1 s.2.2.2.2.2.2.2.2.2.2.1 s.2.2.2.2.2.2.2.2.2.2.2, fun e h => (gI e 10, gI e 11, hB h 3 0, hB h 3 1, hB h 3 2, hB h 3 3, oN h 4, oS h 4, oN h 5, oS h 5, oM h 6, oM h 7), [(1001001, 3, 1), (1001002, 163, 512)], [0, 2, 4, 7, 8, 9, 10, 11], [], fun p => ∀ (x10 : Int) (x11 : Int) (h3_0 : Bool) (h3_1 : Bool) (h3_2 : Bool) (h3_3 : Bool) (n_4 : Bool) (s_4 : LL) (n_5 : Bool) (s_5 : LL) (m_6 : List (PV × PV)) (m_7 : List (PV × PV)), p (x10, x11, h3_0, h3_1, h3_2, h3_3, n_4, s_4, n_5, s_5, m_6, m_7), fun p h s => h s.1 s.2.1 s.2.2.1 s.2.2.2.1 s.2.2.2.2.1 s.2.2.2.2.2.1 s.2.2.2.2.2.2.1 s.2.2.2.2.2.2.2.1 s.2.2.2.2.2.2.2.2.1 s.2.2.2.2.2.2.2.2.2.1 s.2.2.2.2.2.2.2.2.2.2.1 s.2.2.2.2.2.2.2.2.2.2.2⟩ | 14 => some ⟨Int × Int × Int × Bool × Bool × Bool × Bool × Bool × (LL) × Bool × (LL) × (List (PV × PV)) × (List (PV × PV)), fun s => zrd sz za zb zc zd n f es s.1 s.2.1 s.2.2.1 s.2.2.2.1 s.2.2.2.2.1 s.2.2.2.2.2.1 s.2.2.2.2.2.2.1 s.2.2.2.2.2.2.2.1 s.2.2.2.2.2.2.2.2.1 s.2.2.2.2.2.2.2.2.2.1 s.2.2.2.2.2.2.2.2.2.2.1 s.2.2.2.2.2.2.2.2.2.2.2.1 s.2.2.2.2.2.2.2.2.2.2.2.2, fun t s => J2 t.1 t.2.1 t.2.2.1 t.2.2.2.1 t.2.2.2.2.1 t.2.2.2.2.2.1 t.2.2.2.2.2.2.1 t.2.2.2.2.2.2.2.1 t.2.2.2.2.2.2.2.2.1 t.2.2.2.2.2.2.2.2.2.1 t.2.2.2.2.2.2.2.2.2.2.1 t.2.2.2.2.2.2.2.2.2.2.2.1 t.2.2.2.2.2.2.2.2.2.2.2.2 s.1 s.2.1 s.2.2.1 s.2.2.2.1 s.2.2.2.2.1 s.2.2.2.2.2.1 s.2.2.2.2.2.2.1 s.2.2.2.2.2.2.2.1 s.2.2.2.2.2.2.2.2.1 s.2.2.2.2.2.2.2.2.2.1 s.2.2.2.2.2.2.2.2.2.2.1 s.2.2.2.2.2.2.2.2.2.2.2.1 s.2.2.2.2.2.2.2.2.2.2.2.2, fun s => μ2 s.1 s.2.1 s.2.2.1 s.2.2.2.1 s.2.2.2.2.1 s.2.2.2.2.2.1 s.2.2.2.2.2.2.1 s.2.2.2.2.2.2.2.1 s.2.2.2.2.2.2.2.2.1 s.2.2.2.2.2.2.2.2.2.1 s.2.2.2.2.2.2.2.2.2.2.1 s.2.2.2.2.2.2.2.2.2.2.2.1 s.2.2.2.2.2.2.2.2.2.2.2.2, fun e h => (gI e 10, gI e 11, gI e 13, hB h 3 0, hB h 3 1, hB h 3 2, hB h 3 3, oN h 4, oS h 4, oN h 5, oS h 5, oM h 6, oM h 7), [], [0, 2, 4, 7, 8, 9, 10, 11, 13], [], fun p => ∀ (x10 : Int) (x11 : Int) (x13 : Int) (h3_0 : Bool) (h3_1 : Bool) (h3_2 : Bool) (h3_3 : Bool) (n_4 : Bool) (s_4 : LL) (n_5 : Bool) (s_5 : LL) (m_6 : List (PV × PV)) (m_7 : List (PV × PV)), p (x10, x11, x13, h3_0, h3_1, h3_2, h3_3, n_4, s_4, n_5, s_5, m_6, m_7), fun p h s => h s.1 s.2.1 s.2.2.1 s.2.2.2.1 s.2.2.2.2.1 s.2.2.2.2.2.1 s.2.2.2.2.2.2.1 s.2.2.2.2.2.2.2.1 s.2.2.2.2.2.2.2.2.1 s.2.2.2.2.2.2.2.2.2.1 s.2.2.2.2.2.2.2.2.2.2.1 s.2.2.2.2.2.2.2.2.2.2.2.1 s.2.2.2.2.2.2.2.2.2.2.2.2⟩ | 20 => some ⟨Int × Int × Int × Bool × Bool × Bool × Bool × (List PV) × Bool × (LL) × Bool × (LL) × (List (PV × PV)) × (List (PV × PV)), fun s => zmu sz za zb zc zd n f es s.1 s.2.1 s.2.2.1 s.2.2.2.1 s.2.2.2.2.1 s.2.2.2.2.2.1 s.2.2.2.2.2.2.1 s.2.2.2.2.2.2.2.1 s.2.2.2.2.2.2.2.2.1 s.2.2.2.2.2.2.2.2.2.1 s.2.2.2.2.2.2.2.2.2.2.1 s.2.2.2.2.2.2.2.2.2.2.2.1 s.2.2.2.2.2.2.2.2.2.2.2.2.1 s.2.2.2.2.2.2.2.2.2.2.2.2.2, fun t s => J3 t.1 t.2.1 t.2.2.1 t.2.2.2.1 t.2.2.2.2.1 t.2.2.2.2.2.1 t.2.2.2.2.2.2.1 t.2.2.2.2.2.2.2.1 t.2.2.2.2.2.2.2.2.1 t.2.2.2.2.2.2.2.2.2.1 t.2.2.2.2.2.2.2.2.2.2.1 t.2.2.2.2.2.2.2.2.2.2.2.1 t.2.2.2.2.2.2.2.2.2.2.2.2.1 t.2.2.2.2.2.2.2.2.2.2.2.2.2 s.1 s.2.1 s.2.2.1 s.2.2.2.1 s.2.2.2.2.1 s.2.2.2.2.2.1 s.2.2.2.2.2.2.1 s.2.2.2.2.2.2.2.1 s.2.2.2.2.2.2.2.2.1 s.2.2.2.2.2.2.2.2.2.1 s.2.2.2.2.2.2.2.2.2.2.1 s.2.2.2.2.2.2.2.2.2.2.2.1 s.2.2.2.2.2.2.2.2.2.2.2.2.1 s.2.2.2.2.2.2.2.2.2.2.2.2.2, fun s => μ3 s.1 s.2.1 s.2.2.1 s.2.2.2.1 s.2.2.2.2.1 s.2.2.2.2.2.1 s.2.2.2.2.2.2.1 s.2.2.2.2.2.2.2.1 s.2.2.2.2.2.2.2.2.1 s.2.2.2.2.2.2.2.2.2.1 s.2.2.2.2.2.2.2.2.2.2.1 s.2.2.2.2.2.2.2.2.2.2.2.1 s.2.2.2.2.2.2.2.2.2.2.2.2.1 s.2.2.2.2.2.2.2.2.2.2.2.2.2, fun e h => (gI e 10, gI e 11, gI e 88, hB h 3 0, hB h 3 1, hB h 3 2, hB h 3 3, oA h 4, oN h 5, oS h 5, oN h 6, oS h 6, oM h 7, oM h 8), [], [0, 2, 4, 7, 8, 9, 10, 11, 14, 88], [], fun p => ∀ (x10 : Int) (x11 : Int) (x88 : Int) (h3_0 : Bool) (h3_1 : Bool) (h3_2 : Bool) (h3_3 : Bool) (c_4 : List PV) (n_5 : Bool) (s_5 : LL) (n_6 : Bool) (s_6 : LL) (m_7 : List (PV × PV)) (m_8 : List (PV × PV)), p (x10, x11, x88, h3_0, h3_1, h3_2, h3_3, c_4, n_5, s_5, n_6, s_6, m_7, m_8), fun p h s => h s.1 s.2.1 s.2.2.1 s.2.2.2.1 s.2.2.2.2.1 s.2.2.2.2.2.1 s.2.2.2.2.2.2.1 s.2.2.2.2.2.2.2.1 s.2.2.2.2.2.2.2.2.1 s.2.2.2.2.2.2.2.2.2.1 s.2.2.2.2.2.2.2.2.2.2.1 s.2.2.2.2.2.2.2.2.2.2.2.1 s.2.2.2.2.2.2.2.2.2.2.2.2.1 s.2.2.2.2.2.2.2.2.2.2.2.2.2⟩ | _ => none) (Tryz.f59.body.getD .skip) [.int .i64 sz, .agg [.bool za, .bool zb, .bool zc, .bool zd], .sl n f es] R = zb5 sz za zb zc zd n f es J μ J2 μ2 J3 μ3 R) h)

end Go.Eng



namespace Go.Eng
open Go Go.Proofs Go.Eng.Trie
def encF (v : (Bool × Bool × Bool × Bool)) : List PV := [.bool v.1, .bool v.2.1, .bool v.2.2.1, .bool v.2.2.2]
theorem EF : Enc Tryz.prog [4, 4, 4, 4] encF := ⟨fun a => by
  simp only [encF, za5, Bool.and_true]
  rw [show Tryz.prog.underlying 4 = some (.bool) by kernel_rfl]
  rfl, fun a b => by
  obtain ⟨a0, a1, a2, a3⟩ := a
  obtain ⟨b0, b1, b2, b3⟩ := b
  simp only [encF, zbv, eqPV, Bool.and_true]
  rw [Bool.eq_iff_iff]
  simp⟩
def pcF (p : Pc (Bool × Bool × Bool × Bool)) : List PV := [.int .i64 p.fr, .int .i64 p.to] ++ encF p.v
def pcsF (l : List (Pc (Bool × Bool × Bool × Bool))) : List (List PV) := l.map pcF
theorem z2a (p : Pc (Bool × Bool × Bool × Bool)) : (pcF p).length = 6 := rfl
theorem zt2 (l : List (Pc (Bool × Bool × Bool × Bool))) : (pcsF l).length = l.length := by simp [pcsF]
theorem p142 (n f : Bool) (l : List (Pc (Bool × Bool × Bool × Bool))) (z : (Bool × Bool × Bool × Bool)) (i last : Int) (hl : l.length < 4611686018427387904) (hok : ∀ p ∈ l, -9223372036854775808 ≤ p.fr - 1 ∧ p.fr - 1 ≤ 9223372036854775807) :
    PCall Tryz.prog 90 [.sl n f (pcsF l), .agg (encF z), .int .i64 i, .int .i64 last] fun v => v = .tup [.agg (encF (findL l z i last).1), .int .i64 (findL l z i last).2] := by
  refine zg9 _ _ _ z.1 z.2.1 z.2.2.1 z.2.2.2 _ _ (fun a k _ _ _ _ => 0 ≤ k ∧ k ≤ l.length ∧ findL l z i last = findL (l.drop k.toNat) z i a) (fun _ k _ _ _ _ => l.length - k.toNat) ?_
  unfold zcc
  refine ⟨⟨rfl, Int.le_refl _, by omega, rfl⟩, ?_⟩
  rintro a k _ _ _ _ ⟨k0, k1, he⟩
  refine iteD (fun hc => ?_) (fun hc => ?_)
  · simp only [decide_eq_true_eq, zt2] at hc
    have hk : k.toNat < l.length := by omega
    have hw : IntKind.i64.wrap (k + 1) = k + 1 := zaa (by omega) (by omega)
    have hn : (k + 1).toNat = k.toNat + 1 := by omega
    have hg : (pcsF l).getD k.toNat [] = pcF l[k.toNat] := zap hk
    have hix : zam (pcsF l) k 6 := zaj z2a k0 (by omega)
    have hm := hok _ (List.getElem_mem hk)
    rw [zjk hk] at he
    rw [hw]
    dsimp only
    rw [hn]
    have hmu : l.length - (k.toNat + 1) < l.length - k.toNat := by omega
    refine ⟨hix, l[k.toNat].fr, by rw [hg]; rfl, l[k.toNat].to, by rw [hg]; rfl, l[k.toNat].v.1, by rw [hg]; rfl, l[k.toNat].v.2.1, by rw [hg]; rfl, l[k.toNat].v.2.2.1, by rw [hg]; rfl, l[k.toNat].v.2.2.2, by rw [hg]; rfl, ?_⟩
    generalize l[k.toNat] = p at *
    have hw2 : IntKind.i64.wrap (p.fr - 1) = p.fr - 1 := zaa hm.1 hm.2
    rw [hw2]
    rw [zkp] at he
    by_cases h1 : p.fr ≤ i
    · refine iteT (by simpa using h1) ?_
      by_cases h2 : i ≤ p.to
      · refine iteT (by simpa using h2) ?_
        rw [if_pos ⟨h1, h2⟩] at he
        rw [he]
        repeat' (first | rfl | apply And.intro)
      · refine iteF (by simpa using h2) ?_
        rw [if_neg (by omega), if_neg (by omega)] at he
        refine iteF (by simp; omega) ?_
        exact ⟨rfl, ⟨by omega, by omega, he⟩, hmu⟩
    · refine iteF (by simpa using h1) ?_
      rw [if_neg (by omega)] at he
      refine iteT (by simp; omega) ?_
      by_cases h3 : p.fr ≤ a
      · refine iteT (by simpa using h3) ?_
        rw [if_pos (by omega)] at he
        exact ⟨rfl, ⟨by omega, by omega, he⟩, hmu⟩
      · refine iteF (by simpa using h3) ?_
        rw [if_neg (by omega)] at he
        exact ⟨rfl, ⟨by omega, by omega, he⟩, hmu⟩
  · simp only [decide_eq_true_eq, zt2] at hc
    rw [List.drop_of_length_le (by omega)] at he
    rw [he]; rfl
def TrieF (sz : Int) (F : Int → (Bool × Bool × Bool × Bool)) (v : PV) : Prop := ∃ n f n2 f2 idx blk, v = .ptr [.int .i64 sz, .sl n f (ixs idx), .sl n2 f2 (bks encF blk)] ∧ TOK sz F idx blk
theorem p111 {sz : Int} {F : Int → (Bool × Bool × Bool × Bool)} {t : PV} (ht : TrieF sz F t) (i : Int) (h1 : sz ≤ 1114112) : PCall Tryz.prog 69 [t, .int .i64 i] fun v => v = .agg (encF (if 0 ≤ i ∧ i < sz then F i else (false, false, false, false))) := by
  obtain ⟨n, f, n2, f2, idx, blk, rfl, ht⟩ := ht
  refine zfk _ _ _ _ _ _ _ _ ?_
  unfold zbl
  refine iteD (fun hc => ?_) (fun hc => ?_)
  · simp only [decide_eq_true_eq] at hc
    rw [if_neg (by omega)]; rfl
  · simp only [decide_eq_true_eq] at hc
    refine ⟨_, rfl, ?_⟩
    refine iteD (fun hc2 => ?_) (fun hc2 => ?_)
    · simp only [decide_eq_true_eq, ge_iff_le] at hc2
      rw [if_neg (by omega)]; rfl
    · simp only [decide_eq_true_eq, ge_iff_le] at hc2
      rw [if_pos (by omega)]
      obtain ⟨hq, g0, hk, hj, he⟩ := ht.get (i := i) (by omega) (by omega)
      have hw : IntKind.i64.wrap (i.tdiv 128) = i / 128 := by rw [Int.tdiv_eq_ediv_of_nonneg (by omega)]; exact zaa (by omega) (by omega)
      have hm : i.tmod 128 = i % 128 := Int.tmod_eq_emod_of_nonneg (by omega)
      have hg : (ixs idx).getD (i / 128).toNat [] = [.int .i64 idx[(i / 128).toNat]] := zap hq
      have hg2 : (bks encF blk).getD idx[(i / 128).toNat].toNat [] = cells encF blk[idx[(i / 128).toNat].toNat] := zap hk
      refine ⟨_, _, _, rfl, _, _, _, rfl, ?_⟩
      rw [hw]
      have := EF.at _ _ hj
      simp only [List.length_cons, List.length_nil, Nat.zero_add, Nat.reduceAdd] at this
      have hcell : List.drop ((i % 128).toNat * 4) ((bks encF blk).getD idx[(i / 128).toNat].toNat []) = encF (F i) ++ (List.drop ((i % 128).toNat + 1) (blk[idx[(i / 128).toNat].toNat]).1).flatMap encF := by
        rw [hg2]; unfold cells; rw [this, he]
      refine ⟨zaj zf8 (by omega) (by omega), idx[(i / 128).toNat], by rw [hg]; rfl, zaj (EF.cells_len) g0 (by omega), by rw [hm]; omega, ?_⟩
      rw [hm, hcell]
      exact ⟨(F i).1, rfl, (F i).2.1, rfl, (F i).2.2.1, rfl, (F i).2.2.2, rfl, rfl⟩
def cF (b : Blk (Bool × Bool × Bool × Bool)) : List PV := cells encF b
def kvF (k : Int) : PV := .int .i64 k
def mkF (kn : List (Blk (Bool × Bool × Bool × Bool) × Int)) : List (PV × PV) := encM (fun b => .agg (cF b)) kvF kn
def meF (ev : List ((Bool × Bool × Bool × Bool) × Int)) : List (PV × PV) := encM (fun v => .agg (encF v)) kvF ev
def hpF (sz : Int) (kn : List (Blk (Bool × Bool × Bool × Bool) × Int)) (ev : List ((Bool × Bool × Bool × Bool) × Int)) (ixm ixn bkm bkn : Bool) (idx : List Int) (blk : List (Blk (Bool × Bool × Bool × Bool))) : Hp :=
  [.box [.box 1 0, .mp 2, .mp 3], .box [.pv (.int .i64 sz), .own 4, .own 5], .mp (mkF kn), .mp (meF ev), .sl (3, 1) ixm ixn (ixs idx), .sl (163, 512) bkm bkn (bks encF blk)]
theorem zmv (b : Blk (Bool × Bool × Bool × Bool)) : (cF b).length = 512 := EF.cells_len b
theorem zxg (b : Blk (Bool × Bool × Bool × Bool)) : List.take 512 (List.drop 0 (cF b)) = cF b := by rw [List.drop_zero, List.take_of_length_le (by rw [zmv]; omega)]
theorem z3p : zck Tryz.prog 163 = true := by kernel_rfl
theorem z3q : zfe Tryz.prog 163 = (List.replicate 128 [4, 4, 4, 4]).flatten := by kernel_rfl
theorem z3r : zck Tryz.prog 99 = true := by kernel_rfl
theorem z3s : zfe Tryz.prog 99 = [4, 4, 4, 4] := by kernel_rfl
theorem getF (b : Blk (Bool × Bool × Bool × Bool)) (kn : List (Blk (Bool × Bool × Bool × Bool) × Int)) : zbc (.agg (cF b)) (mkF kn) = (aget b kn).map kvF := zdp (ek := fun b => PV.agg (cF b)) (ev := kvF) EF.blkEq b kn
theorem setF (b : Blk (Bool × Bool × Bool × Bool)) (k : Int) (kn : List (Blk (Bool × Bool × Bool × Bool) × Int)) : zai (.agg (cF b)) (kvF k) (mkF kn) = mkF (aset b k kn) := zb2 (ek := fun b => PV.agg (cF b)) (ev := kvF) EF.blkEq b k kn
theorem okBF (b : Blk (Bool × Bool × Bool × Bool)) : za1 Tryz.prog 163 (.agg (cF b)) = true := EF.blkOk z3p z3q b
theorem z3t (kn : List (Blk (Bool × Bool × Bool × Bool) × Int)) : zbk Tryz.prog 163 (mkF kn) := EF.blksOk z3p z3q kn
theorem p144 {sz : Int} {F : Int → (Bool × Bool × Bool × Bool)} {idx : List Int} {blk : List (Blk (Bool × Bool × Bool × Bool))} {kn : List (Blk (Bool × Bool × Bool × Bool) × Int)} {ev : List ((Bool × Bool × Bool × Bool) × Int)} (hk : TInv sz F idx blk kn ev) (hb : blk.length ≤ 10000000) (ixn bkn : Bool) (b : Blk (Bool × Bool × Bool × Bool)) :
    ACall Tryz.prog 92 [.box 0 0, .pv (.agg (cF b))] (hpF sz kn ev false ixn false bkn idx blk) fun r h' => ∃ k kn' bn' blk', r = .pv (kvF k) ∧ h' = hpF sz kn' ev false ixn true bn' idx blk' ∧ TInv sz F idx blk' kn' ev ∧ 0 ≤ k ∧ blk'[k.toNat]? = some b ∧ blk'.length ≤ blk.length + 1 := by
  refine ACall.mark 1000 [5] (R := fun r h' => ∃ k kn' bm' bn' blk', r = .pv (kvF k) ∧ h' = hpF sz kn' ev false ixn bm' bn' idx blk' ∧ TInv sz F idx blk' kn' ev ∧ 0 ≤ k ∧ blk'[k.toNat]? = some b ∧ blk'.length ≤ blk.length + 1) ?_ ?_
  · refine zen _ _ _ _ _ _ _ _ _ _ ?_
    unfold zba
    rw [zxg, getF]
    have h128 : 512 ≤ (List.drop 0 (cF b)).length := by rw [List.drop_zero, zmv]; omega
    refine ⟨h128, z3t kn, okBF b, fun v hv => ?_, fun hv => ?_⟩
    · cases hg : aget b kn with
      | none => rw [hg] at hv; cases hv
      | some k =>
        rw [hg] at hv; cases hv
        obtain ⟨k0, k1⟩ := hk.kn_ok b k hg
        exact ⟨k, rfl, k, kn, false, bkn, blk, rfl, rfl, hk, k0, k1, by omega⟩
    · have hsz : szOK [cF b] 512 ∧ ((bks encF blk).length + 1) * 512 ≤ 140737488355328 := ⟨fun e he => by simp at he; subst he; exact zmv b, by rw [zf9]; omega⟩
      have fin : ∃ k kn' bm' bn' blk', LV.pv (.int .i64 ((bks encF blk).length : Int)) = .pv (kvF k) ∧
          [Ob.box [.box 1 0, .mp 2, .mp 3], .box [.pv (.int .i64 sz), .own 4, .own 5], .mp (zai (.agg (cF b)) (.int .i64 ((bks encF blk).length : Int)) (mkF kn)), .mp (meF ev), .sl (3, 1) false ixn (ixs idx), .sl (163, 512) true (bkn && false) (bks encF blk ++ [cF b])] = hpF sz kn' ev false ixn bm' bn' idx blk' ∧ TInv sz F idx blk' kn' ev ∧ 0 ≤ k ∧ blk'[k.toNat]? = some b ∧ blk'.length ≤ blk.length + 1 := by
        refine ⟨blk.length, aset b (blk.length : Int) kn, true, bkn && false, blk ++ [b], by rw [zf9]; rfl, ?_, hk.place b, by omega, by simp, by simp⟩
        have := setF b (blk.length : Int) kn
        unfold kvF at this
        rw [zf9, this]
        simp [hpF, bks, cF]
      exact ⟨h128, z3t kn, okBF b, h128, ⟨zmv b, hsz, fin⟩, zmv b, ⟨hsz, fin⟩, hsz, fin⟩
  · rintro r h' ⟨k, kn', bm', bn', blk', rfl, rfl, h1, h2, h3, h4⟩
    exact ⟨k, kn', bn', blk', rfl, rfl, h1, h2, h3, h4⟩
theorem z4p (v : (Bool × Bool × Bool × Bool)) (ev : List ((Bool × Bool × Bool × Bool) × Int)) : zbc (.agg (encF v)) (meF ev) = (aget v ev).map kvF := zdp (ek := fun v => PV.agg (encF v)) (ev := kvF) EF.valEq v ev
theorem z4q (v : (Bool × Bool × Bool × Bool)) (k : Int) (ev : List ((Bool × Bool × Bool × Bool) × Int)) : zai (.agg (encF v)) (kvF k) (meF ev) = meF (aset v k ev) := zb2 (ek := fun v => PV.agg (encF v)) (ev := kvF) EF.valEq v k ev
theorem okEF (v : (Bool × Bool × Bool × Bool)) : za1 Tryz.prog 99 (.agg (encF v)) = true := EF.valOk z3r z3s v
theorem z3u (ev : List ((Bool × Bool × Bool × Bool) × Int)) : zbk Tryz.prog 99 (meF ev) := EF.valsOk z3r z3s ev
theorem putF (l : List (Bool × Bool × Bool × Bool)) (j : Nat) (hj : j < l.length) (v : (Bool × Bool × Bool × Bool)) : spl (l.flatMap encF) (0 + j * 4) (encF v) = (l.set j v).flatMap encF := by
  have := EF.put l j hj v
  simp only [List.length_cons, List.length_nil, Nat.zero_add, Nat.reduceAdd] at this ⊢
  exact this
theorem z2b (l : List (Bool × Bool × Bool × Bool)) : (l.flatMap encF).length = l.length * 4 := EF.flen l
theorem z0s : List.replicate 512 (PV.bool false) = (List.replicate 128 ((false, false, false, false) : (Bool × Bool × Bool × Bool))).flatMap encF := by rfl
theorem z2c {l : List (Bool × Bool × Bool × Bool)} {v : (Bool × Bool × Bool × Bool)} (hl : l.length = 128) (h : ∀ q, q < 128 → l[q]? = some v) : l = List.replicate 128 v := by
  refine List.ext_getElem? fun q => ?_
  rcases Nat.lt_or_ge q 128 with hq | hq
  · rw [h q hq, List.getElem?_replicate, if_pos hq]
  · rw [List.getElem?_eq_none (by omega), List.getElem?_eq_none (by simp; omega)]
theorem p143 {sz : Int} {F : Int → (Bool × Bool × Bool × Bool)} {idx : List Int} {blk : List (Blk (Bool × Bool × Bool × Bool))} {kn : List (Blk (Bool × Bool × Bool × Bool) × Int)} {ev : List ((Bool × Bool × Bool × Bool) × Int)} (hk : TInv sz F idx blk kn ev) (hb : blk.length ≤ 10000000) (ixn bkn : Bool) (v : (Bool × Bool × Bool × Bool)) :
    ACall Tryz.prog 91 [.box 0 0, .pv (.agg (encF v))] (hpF sz kn ev false ixn false bkn idx blk) fun r h' => ∃ k kn' ev' bn' blk', r = .pv (kvF k) ∧ h' = hpF sz kn' ev' false ixn true bn' idx blk' ∧ TInv sz F idx blk' kn' ev' ∧ 0 ≤ k ∧ blk'[k.toNat]? = some (rep v) ∧ blk'.length ≤ blk.length + 1 := by
  refine ACall.mark 1000 [5] (R := fun r h' => ∃ k kn' ev' bm' bn' blk', r = .pv (kvF k) ∧ h' = hpF sz kn' ev' false ixn bm' bn' idx blk' ∧ TInv sz F idx blk' kn' ev' ∧ 0 ≤ k ∧ blk'[k.toNat]? = some (rep v) ∧ blk'.length ≤ blk.length + 1) ?_ ?_
  · refine zeo _ _ _ _ _ _ _ _ _ v.1 v.2.1 v.2.2.1 v.2.2.2 (fun x m2 m3 c => 0 ≤ x ∧ x ≤ 128 ∧ m2 = mkF kn ∧ m3 = meF ev ∧ ∃ l : List (Bool × Bool × Bool × Bool), l.length = 128 ∧ c = l.flatMap encF ∧ ∀ q, q < x.toNat → l[q]? = some v) (fun x _ _ _ => 128 - x.toNat) ?_
    unfold zbb
    rw [show [.bool v.1, .bool v.2.1, .bool v.2.2.1, .bool v.2.2.2] = encF v from rfl, z4p]
    refine ⟨z3u ev, okEF v, fun u hu => ?_, fun hu => ⟨⟨rfl, Int.le_refl _, by omega, rfl, rfl, List.replicate 128 (false, false, false, false), by simp, z0s, fun q hq => by simp at hq⟩, ?_⟩⟩
    · cases hg : aget v ev with
      | none => rw [hg] at hu; cases hu
      | some k =>
        rw [hg] at hu; cases hu
        obtain ⟨k0, k1⟩ := hk.ev_ok v k hg
        exact ⟨k, rfl, k, kn, ev, false, bkn, blk, rfl, rfl, hk, k0, k1, by omega⟩
    · rintro x _ _ _ ⟨x0, x1, rfl, rfl, l, hl, rfl, hq⟩
      refine iteD (fun hc => ?_) (fun hc => ?_)
      · simp only [decide_eq_true_eq] at hc
        have hw : IntKind.i64.wrap (x + 1) = x + 1 := zaa (by omega) (by omega)
        have hn : (x + 1).toNat = x.toNat + 1 := by omega
        rw [putF l x.toNat (by omega) v, hw, z2b]
        refine ⟨⟨x0, hc⟩, ⟨rfl, by omega⟩, rfl, ⟨by omega, by omega, rfl, rfl, l.set x.toNat v, by simpa using hl, rfl, fun q hq' => ?_⟩, by dsimp only; omega⟩
        rw [hn] at hq'
        rw [List.getElem?_set]
        by_cases e : x.toNat = q
        · rw [if_pos e, if_pos (by omega)]
        · rw [if_neg e]; exact hq q (by omega)
      · simp only [decide_eq_true_eq] at hc
        have hx : x = 128 := by omega
        subst hx
        have hrep := z2c hl hq
        subst hrep
        have hcI : (List.replicate 128 v).flatMap encF = cF (rep v) := rfl
        rw [hcI, zxg]
        refine ⟨by rw [List.drop_zero, zmv]; omega, ?_⟩
        refine (p144 hk hb ixn bkn (rep v)).mono ?_
        rintro _ _ ⟨k, kn', bn', blk', rfl, rfl, h1, h2, h3, h4⟩
        refine ⟨(k, mkF kn', bn', bks encF blk'), ⟨rfl, rfl⟩, ⟨trivial, ⟨rfl, rfl, rfl⟩, trivial, trivial, trivial, trivial, trivial⟩, z3u ev, okEF v, ?_⟩
        have := z4q v k ev
        unfold kvF at this
        simp only [this]
        exact ⟨k, kn', aset v k ev, _, bn', blk', rfl, rfl, h1.even h2 h3, h2, h3, h4⟩
  · rintro r h' ⟨k, kn', ev', bm', bn', blk', rfl, rfl, h1, h2, h3, h4⟩
    exact ⟨k, kn', ev', bn', blk', rfl, rfl, h1, h2, h3, h4⟩
theorem zzr {v : (Bool × Bool × Bool × Bool)} {j : Nat} {u : (Bool × Bool × Bool × Bool)} (h : (Trie.rep v).1[j]? = some u) : u = v ∧ j < 128 := by
  simp only [Trie.rep, List.getElem?_replicate] at h
  split at h
  · rename_i hj; cases h; exact ⟨rfl, hj⟩
  · cases h
theorem p106 (sz : Int) (z : (Bool × Bool × Bool × Bool)) (n f : Bool) (l : List (Pc (Bool × Bool × Bool × Bool))) (hl : l.length < 4611686018427387904) (hok : ∀ p ∈ l, -9223372036854775808 ≤ p.fr - 1 ∧ p.fr - 1 ≤ 9223372036854775807) (hs1 : 1 ≤ sz) (hs2 : sz ≤ 1114112) :
    PCall Tryz.prog 59 [.int .i64 sz, .agg (encF z), .sl n f (pcsF l)] fun v => TrieF sz (valL l z) v := by
  have hF := fun i => zjp l z i (sz - 1)
  generalize hFF : valL l z = F at *
  refine zgi _ z.1 z.2.1 z.2.2.1 z.2.2.2 _ _ _
    (fun x10 x11 va vb vc vd _ s2 _ s3 m4 m5 => ∃ idx blk kn ev, s2 = ixs idx ∧ s3 = bks encF blk ∧ m4 = mkF kn ∧ m5 = meF ev ∧ TInv sz F idx blk kn ev ∧ x11 = 128 * idx.length ∧ blk.length ≤ idx.length ∧ x11 < sz + 128 ∧ (∀ j, x11 ≤ j → j ≤ x10 → F j = (va, vb, vc, vd)) ∧ x10 ≤ sz - 1)
    (fun _ x11 _ _ _ _ _ _ _ _ _ _ => (sz + 128 - x11).toNat)
    (fun _ y11 _ _ _ _ _ _ _ _ _ _ _ x10 x11 x13 va vb vc vd _ s2 _ s3 m4 m5 => ∃ idx blk kn ev, s2 = ixs idx ∧ s3 = bks encF blk ∧ m4 = mkF kn ∧ m5 = meF ev ∧ TInv sz F idx blk kn ev ∧ x11 = 128 * idx.length ∧ x11 < sz + 128 ∧ (∀ j, x11 ≤ j → j ≤ x10 → F j = (va, vb, vc, vd)) ∧ x10 ≤ sz - 1 ∧ 0 ≤ x13 ∧ blk[x13.toNat]? = some (rep (va, vb, vc, vd)) ∧
      ((x11 = y11 ∧ x11 < sz ∧ (x11 + 127 ≤ x10 ∨ sz - 1 ≤ x10) ∧ blk.length ≤ idx.length + 1) ∨ (y11 + 128 ≤ x11 ∧ blk.length ≤ idx.length)))
    (fun _ x11 _ _ _ _ _ _ _ _ _ _ _ => (sz + 128 - x11).toNat)
    (fun _ y11 _ _ _ _ _ _ _ _ _ _ _ _ x10 x11 x va vb vc vd c _ s3 _ s4 m5 m6 => ∃ idx blk kn ev, s3 = ixs idx ∧ s4 = bks encF blk ∧ m5 = mkF kn ∧ m6 = meF ev ∧ TInv sz F idx blk kn ev ∧ x11 = 128 * idx.length ∧ blk.length ≤ idx.length ∧ x11 = y11 ∧ x11 < sz ∧ 0 ≤ x ∧ x ≤ 128 ∧ x10 ≤ sz - 1 ∧ (∀ j, x11 + x ≤ j → j ≤ x10 → F j = (va, vb, vc, vd)) ∧
      ∃ b : List (Bool × Bool × Bool × Bool), b.length = 128 ∧ c = b.flatMap encF ∧ ∀ (q : Nat) u, b[q]? = some u → q < x.toNat → x11 + q < sz → u = F (x11 + q))
    (fun _ _ x _ _ _ _ _ _ _ _ _ _ _ => (128 - x).toNat) ?_
  unfold zb5
  have hw1 : IntKind.i64.wrap (sz - 1) = sz - 1 := zaa (by omega) (by omega)
  rw [hw1]
  refine iteF (by simp; omega) ?_
  refine (p142 n f l z 0 (sz - 1) hl hok).mono ?_
  rintro _ rfl
  obtain ⟨_, f2, f3, f4⟩ := hF 0 (by omega)
  refine ⟨_, rfl, rfl, _, rfl, _, rfl, rfl, _, rfl, _, rfl, _, rfl, _, rfl, _, rfl, _, rfl, ⟨rfl, [], [], [], [], rfl, rfl, rfl, rfl, TInv.nil, rfl, Nat.le_refl _, by omega, f4, f3⟩, ?_⟩
  clear f2 f3 f4
  rintro u0 x v0a v0b v0c v0d _ _ _ _ _ _ ⟨idx, blk, kn, ev, rfl, rfl, rfl, rfl, hk, hx, hb, hx2, hv0, hu0⟩
  refine iteD (fun hc => ?_) (fun hc => ?_)
  · simp only [decide_eq_true_eq] at hc
    have hw2 : IntKind.i64.wrap (x + 128) = x + 128 := zaa (by omega) (by omega)
    rw [hw2]
    have hmin : ∀ a : Int, IntKind.i64.wrap ((if sz < a + 128 then sz else a + 128) - 1) = (if sz < a + 128 then sz else a + 128) - 1 ∨ ¬ (0 ≤ a ∧ a ≤ 1114112) := fun a => by
      by_cases ha : 0 ≤ a ∧ a ≤ 1114112
      · left; split <;> exact zaa (by omega) (by omega)
      · exact .inr ha
    have hmx := (hmin x).resolve_right (by omega)
    rw [hmx]
    refine iteD (fun hgt => ?ga) (fun hgt => ?gb)
    case' ga =>
      refine (p142 n f l z x (sz - 1) hl hok).mono ?_
      rintro _ rfl
      obtain ⟨_, hux, hu, hv⟩ := hF x (by omega)
      refine ⟨_, rfl, rfl, _, rfl, _, rfl, rfl, _, rfl, _, rfl, _, rfl, _, rfl, _, rfl, _, rfl, ?_⟩
      revert hv hu
      generalize (findL l z x (sz - 1)).1 = v
      generalize (findL l z x (sz - 1)).2 = u
      clear hv0 hu0 hux
      intro hu hv
    case' gb =>
      obtain ⟨v, rfl, rfl, rfl, rfl⟩ : ∃ v : (Bool × Bool × Bool × Bool), v.1 = v0a ∧ v.2.1 = v0b ∧ v.2.2.1 = v0c ∧ v.2.2.2 = v0d := ⟨(v0a, v0b, v0c, v0d), rfl, rfl, rfl, rfl⟩
      revert hv0 hu0 hgt
      generalize u0 = u
      intro hu hgt hv
    all_goals
      clear hgt
      refine iteD (fun hc2 => ?_) (fun hc2 => ?_)
      · simp only [decide_eq_true_eq, ge_iff_le] at hc2
        have hc3 : x + 127 ≤ u ∨ sz - 1 ≤ u := by split at hc2 <;> omega
        refine (p143 hk (by omega) _ _ v).mono ?_
        rintro _ _ ⟨k, kn', ev', bn', blk', rfl, rfl, g1, g2, g3, g4⟩
        refine ⟨(k, mkF kn', meF ev', bn', bks encF blk'), ⟨rfl, rfl⟩, ⟨trivial, ⟨rfl, rfl, rfl⟩, trivial, trivial, trivial, trivial, trivial⟩, ⟨rfl, idx, blk', kn', ev', rfl, rfl, rfl, rfl, g1, hx, hx2, hv, hu, g2, g3, .inl ⟨rfl, hc, hc3, by omega⟩⟩, ?_⟩
        rintro t y k' wa wb wc wd _ _ _ _ _ _ ⟨idx2, blk2, kn2, ev2, rfl, rfl, rfl, rfl, hk2, hy, hy2, hw, ht, hk0, hkb, hor⟩
        have hwy : IntKind.i64.wrap (y + 128) = y + 128 := zaa (by omega) (by omega)
        rw [hwy, (hmin y).resolve_right (by omega)]
        refine iteD (fun hc4 => ?_) (fun hc4 => ?_)
        · simp only [Bool.and_eq_true, decide_eq_true_eq, ge_iff_le] at hc4
          have hc5 : y + 127 ≤ t ∨ sz - 1 ≤ t := by have := hc4.2; split at this <;> omega
          refine ⟨⟨fun e he => by simp at he; subst he; rfl, by rw [zfj]; omega⟩, rfl, ⟨idx2 ++ [k'], blk2, kn2, ev2, by simp [ixs], rfl, rfl, rfl, hk2.push hk0 hkb fun j u' hj hlt => ?_, by simp; omega, by omega, fun j h1 h2 => hw j (by omega) h2, ht, hk0, hkb, .inr ⟨by omega, by simp; omega⟩⟩, by dsimp only; omega⟩
          obtain ⟨rfl, hj2⟩ := zzr hj
          exact (hw _ (by omega) (by omega)).symm
        · have hw128 : IntKind.i64.wrap (y - 128) = y - 128 := zaa (by omega) (by omega)
          have hback : IntKind.i64.wrap (y - 128 + 128) = y := by rw [zaa (by omega) (by omega)]; omega
          rw [hw128, hback]
          simp only [Bool.and_eq_true, decide_eq_true_eq, ge_iff_le, not_and] at hc4
          have hor2 : x + 128 ≤ y ∧ blk2.length ≤ idx2.length := by
            rcases hor with ⟨h1, h2, h3, h4⟩ | h
            · exfalso
              have := hc4 h2
              split at this <;> omega
            · exact h
          exact ⟨rfl, ⟨idx2, blk2, kn2, ev2, rfl, rfl, rfl, rfl, hk2, hy, hor2.2, hy2, hw, ht⟩, by dsimp only; omega⟩
      · clear hc2
        refine ⟨⟨rfl, idx, blk, kn, ev, rfl, rfl, rfl, rfl, hk, hx, hb, rfl, hc, Int.le_refl _, by omega, hu, fun j h1 h2 => hv j (by omega) h2, List.replicate 128 (false, false, false, false), by simp, z0s, fun q u' _ hq _ => by simp at hq⟩, ?_⟩
        rintro t y i wa wb wc wd _ _ _ _ _ _ _ ⟨idx2, blk2, kn2, ev2, rfl, rfl, rfl, rfl, hk2, hy, hb2, hyx, hy2, i0, i1, ht, hw, b, hbl, rfl, hbq⟩
        obtain ⟨w, rfl, rfl, rfl, rfl⟩ : ∃ v : (Bool × Bool × Bool × Bool), v.1 = wa ∧ v.2.1 = wb ∧ v.2.2.1 = wc ∧ v.2.2.2 = wd := ⟨(wa, wb, wc, wd), rfl, rfl, rfl, rfl⟩
        have hwyi : IntKind.i64.wrap (y + i) = y + i := zaa (by omega) (by omega)
        have hwi : IntKind.i64.wrap (i + 1) = i + 1 := zaa (by omega) (by omega)
        have hwy : IntKind.i64.wrap (y + 128) = y + 128 := zaa (by omega) (by omega)
        rw [hwyi, hwi, hwy]
        have step : ∀ (v' : (Bool × Bool × Bool × Bool)) (u' : Int), (∀ j, y + i ≤ j → j ≤ u' → F j = v') → u' ≤ sz - 1 → (y + i < sz → F (y + i) = v') → i < 128 →
            ∃ idx blk kn ev, ixs idx2 = ixs idx ∧ bks encF blk2 = bks encF blk ∧ mkF kn2 = mkF kn ∧ meF ev2 = meF ev ∧ TInv sz F idx blk kn ev ∧ y = 128 * idx.length ∧ blk.length ≤ idx.length ∧ y = x ∧ y < sz ∧ 0 ≤ i + 1 ∧ i + 1 ≤ 128 ∧ u' ≤ sz - 1 ∧ (∀ j, y + (i + 1) ≤ j → j ≤ u' → F j = v') ∧
              ∃ c : List (Bool × Bool × Bool × Bool), c.length = 128 ∧ (b.set i.toNat v').flatMap encF = c.flatMap encF ∧ ∀ (q : Nat) u, c[q]? = some u → q < (i + 1).toNat → y + q < sz → u = F (y + q) := fun v' u' h1 h2 h3 h4 => by
          refine ⟨idx2, blk2, kn2, ev2, rfl, rfl, rfl, rfl, hk2, hy, hb2, hyx, hy2, by omega, by omega, h2, fun j a1 a2 => h1 j (by omega) a2, b.set i.toNat v', by simpa using hbl, rfl, fun q u hq hq2 hq3 => ?_⟩
          rw [List.getElem?_set] at hq
          by_cases e : i.toNat = q
          · rw [if_pos e, if_pos (by omega)] at hq
            cases hq
            have e2 : y + (q : Int) = y + i := by omega
            rw [e2]
            exact (h3 (by omega)).symm
          · rw [if_neg e] at hq
            exact hbq q u hq (by omega) hq3
        refine iteD (fun hc5 => ?_) (fun hc5 => ?_)
        · simp only [decide_eq_true_eq] at hc5
          refine iteD (fun hc6 => ?_) (fun hc6 => ?_)
          · simp only [Bool.and_eq_true, decide_eq_true_eq, gt_iff_lt] at hc6
            refine (p142 n f l z (y + i) (sz - 1) hl hok).mono ?_
            rintro _ rfl
            obtain ⟨q1, q2, q3, q4⟩ := hF (y + i) (by omega)
            refine ⟨_, rfl, rfl, _, rfl, _, rfl, rfl, _, rfl, _, rfl, _, rfl, _, rfl, _, rfl, _, rfl, ⟨i0, hc5⟩, ⟨rfl, by rw [z2b]; omega⟩, rfl, ?_, by dsimp only; omega⟩
            have hput := putF b i.toNat (by omega) (findL l z (y + i) (sz - 1)).1
            unfold encF at hput ⊢
            rw [hput]
            exact step _ _ q4 q3 (fun _ => q1.symm) hc5
          · simp only [Bool.and_eq_true, decide_eq_true_eq, gt_iff_lt, not_and] at hc6
            refine ⟨⟨i0, hc5⟩, ⟨rfl, by rw [z2b]; omega⟩, rfl, ?_, by dsimp only; omega⟩
            have hput := putF b i.toNat (by omega) w
            unfold encF at hput ⊢
            rw [hput]
            exact step _ _ hw ht (fun h => hw _ (Int.le_refl _) ((Int.lt_or_le t (y + i)).elim (fun h2 => absurd h (hc6 h2)) id)) hc5
        · simp only [decide_eq_true_eq] at hc5
          have hi : i = 128 := by omega
          subst hi
          obtain ⟨B, hB⟩ : ∃ B : Blk (Bool × Bool × Bool × Bool), B.1 = b := ⟨⟨b, hbl⟩, rfl⟩
          subst hB
          have hcI : B.1.flatMap encF = cF B := rfl
          rw [hcI, zxg]
          refine ⟨by rw [List.drop_zero, zmv]; omega, (fun h => ⟨h, h⟩) ?_⟩
          refine (p144 hk2 (by omega) _ _ B).mono ?_
          rintro _ _ ⟨k, kn', bn', blk', rfl, rfl, h1, h2, h3, h4⟩
          refine ⟨(k, mkF kn', bn', bks encF blk'), ⟨rfl, rfl⟩, ⟨trivial, ⟨rfl, rfl, rfl⟩, trivial, trivial, trivial, trivial, trivial⟩, ⟨fun e he => by simp at he; subst he; rfl, by rw [zfj]; omega⟩, rfl, ⟨idx2 ++ [k], blk', kn', ev2, by simp [ixs, kvF], rfl, rfl, rfl, h1.push h2 h3 fun j u' hj hlt => ?_, by simp; omega, by simp; omega, by omega, fun j a1 a2 => hw j (by omega) a2, ht⟩, by dsimp only; omega⟩
          have hj2 : j < 128 := by have := (List.getElem?_eq_some_iff.1 hj).1; simp only [hbl] at this; exact this
          rw [← hy]
          exact hbq j u' hj (by omega) (by omega)
  · simp only [decide_eq_true_eq] at hc
    exact ⟨_, _, _, _, idx, blk, rfl, by omega, hk.idx_ok⟩
end Go.Eng



namespace Go.Eng
open Go Go.Proofs
def zre (n f : Bool) (es : LL) (za zb : Int) (i last : Int) (x3 : Int) (x14 : Int) (h1_0 : Int) (h1_1 : Int) : Env × Hp := ([(2, LV.pv (PV.int IntKind.i64 i)), (3, .pv (.int IntKind.i64 x3)), (5, LV.box 0 0), (8, LV.box 1 0), (12, LV.pv (PV.sl n f es)), (13, LV.pv (PV.int IntKind.i64 ↑es.length)), (14, .pv (.int IntKind.i64 x14))], [.box [LV.pv (PV.int IntKind.i32 za), LV.pv (PV.int IntKind.i32 zb)], .box [.pv (.int IntKind.i32 h1_0), .pv (.int IntKind.i32 h1_1)]])
def zco (n f : Bool) (es : LL) (za zb : Int) (i last : Int) (J : Int → Int → Int → Int → Prop) (μ : Int → Int → Int → Int → Nat) (R : PV → Prop) : Prop :=
 (zab (zre n f es za zb i last last (0 : Int) (0 : Int) (0 : Int)) ∧ J last (0 : Int) (0 : Int) (0 : Int)) ∧ ∀ (x3 x14 h1_0 h1_1 : Int), J x3 x14 h1_0 h1_1 → if decide (x14 < (↑es.length : Int)) = true then zam es x14 4 ∧ ∃ (n1 : Int),
 (es.getD x14.toNat []).head? = some (Z6 n1) ∧ ∃ (n2 : Int), (es.getD x14.toNat []).tail.head? = some (Z6 n2) ∧ ∃ (n3 : Int), (es.getD x14.toNat []).tail.tail.head? = some (Z3 n3) ∧ ∃ (n4 : Int), (es.getD x14.toNat []).tail.tail.tail.head? =
 some (Z3 n4) ∧ if decide (n1 ≤ i) = true then if decide (i ≤ n2) = true then (R (PV.tup [PV.agg [Z3 n3, Z3 n4], Z6 (if x3 < n2 then x3 else n2)]) ∧ R (PV.tup [PV.agg [Z3 n3, Z3 n4], Z6 (if x3 < n2 then x3 else n2)])) ∧ R (PV.tup [PV.agg [Z3
 n3, Z3 n4], Z6 (if x3 < n2 then x3 else n2)]) else if decide (i < n1) = true then if decide (n1 ≤ x3) = true then zab (zre n f es za zb i last (IntKind.i64.wrap (n1 - 1)) (IntKind.i64.wrap (x14 + 1)) h1_0 h1_1) ∧ J (IntKind.i64.wrap (n1
 - 1)) (IntKind.i64.wrap (x14 + 1)) h1_0 h1_1 ∧ μ (IntKind.i64.wrap (n1 - 1)) (IntKind.i64.wrap (x14 + 1)) h1_0 h1_1 < μ x3 x14 h1_0 h1_1 else zab (zre n f es za zb i last x3 (IntKind.i64.wrap (x14 + 1)) h1_0 h1_1) ∧ J x3
 (IntKind.i64.wrap (x14 + 1)) h1_0 h1_1 ∧ μ x3 (IntKind.i64.wrap (x14 + 1)) h1_0 h1_1 < μ x3 x14 h1_0 h1_1 else zab (zre n f es za zb i last x3 (IntKind.i64.wrap (x14 + 1)) h1_0 h1_1) ∧ J x3 (IntKind.i64.wrap (x14 + 1)) h1_0 h1_1 ∧ μ x3
 (IntKind.i64.wrap (x14 + 1)) h1_0 h1_1 < μ x3 x14 h1_0 h1_1 else if decide (i < n1) = true then if decide (n1 ≤ x3) = true then zab (zre n f es za zb i last (IntKind.i64.wrap (n1 - 1)) (IntKind.i64.wrap (x14 + 1)) h1_0 h1_1) ∧ J
 (IntKind.i64.wrap (n1 - 1)) (IntKind.i64.wrap (x14 + 1)) h1_0 h1_1 ∧ μ (IntKind.i64.wrap (n1 - 1)) (IntKind.i64.wrap (x14 + 1)) h1_0 h1_1 < μ x3 x14 h1_0 h1_1 else zab (zre n f es za zb i last x3 (IntKind.i64.wrap (x14 + 1)) h1_0 h1_1)
 ∧ J x3 (IntKind.i64.wrap (x14 + 1)) h1_0 h1_1 ∧ μ x3 (IntKind.i64.wrap (x14 + 1)) h1_0 h1_1 < μ x3 x14 h1_0 h1_1 else zab (zre n f es za zb i last x3 (IntKind.i64.wrap (x14 + 1)) h1_0 h1_1) ∧ J x3 (IntKind.i64.wrap (x14 + 1)) h1_0 h1_1
 ∧ μ x3 (IntKind.i64.wrap (x14 + 1)) h1_0 h1_1 < μ x3 x14 h1_0 h1_1 else R (PV.tup [PV.agg [Z3 za, Z3 zb], Z6 x3])
theorem zhs (n f : Bool) (es : LL) (za zb : Int) (i last : Int) (J : Int → Int → Int → Int → Prop) (μ : Int → Int → Int → Int → Nat) {R : PV → Prop} (h : zco n f es za zb i last J μ R) : PCall Tryz.prog 65 [.sl n f es, .agg [.int .i32 za, .int .i32 zb], .int .i64 i, .int .i64 last] R :=
  PCall.of Tryz.func65 (by kernel_rfl) (by kernel_rfl) (Nat.le_of_ble_eq_true (by kernel_rfl)) (Eq.mpr (by kernel_rfl : aFn Tryz.prog (fun _ => none) Tryz.f65 [0, 1, 2, 3, 5, 8, 9, 11, 12, 13, 14, 15, 18, 35] (fun zz_ => match zz_ with | 2 => some ⟨Int × Int × Int × Int, fun s => zre n f es za zb i last s.1 s.2.1 s.2.2.1 s.2.2.2, fun _ s => J s.1 s.2.1 s.2.2.1 s.2.2.2, fun s => μ s.1 s.2.1 s.2.2.1 s.2.2.2, fun e h => (gI e 3, gI e 14, hI h 1 0, hI h 1 1), [], [2, 3, 5, 8, 12, 13, 14], [], fun p => ∀ (x3 : Int) (x14 : Int) (h1_0 : Int) (h1_1 : Int), p (x3, x14, h1_0, h1_1), fun p h s => h s.1 s.2.1 s.2.2.1 s.2.2.2⟩ | _ => none) (Tryz.f65.body.getD .skip) [.sl n f es, .agg [.int .i32 za, .int .i32 zb], .int .i64 i, .int .i64 last] R = zco n f es za zb i last J μ R) h)

def zbr (sz : Int) (n f n2 f2 : Bool) (es bs : LL) (i : Int) (R : PV → Prop) : Prop :=
 if decide (i < 0) = true then R (PV.agg [Z3 0, Z3 0]) else ∃ (n1 : Int), some (Z6 sz) = some (Z6 n1) ∧ if decide (i ≥ n1) = true then R (PV.agg [Z3 0, Z3 0]) else ∃ (n3 : Bool), ∃ (f1 : Bool), ∃ (es1 : LL), some (PV.sl n2 f2 bs) = some
 (PV.sl n3 f1 es1) ∧ ∃ (n4 : Bool), ∃ (f3 : Bool), ∃ (es2 : LL), some (PV.sl n f es) = some (PV.sl n4 f3 es2) ∧ zam es2 (IntKind.i64.wrap (i.tdiv (128 : Int))) 1 ∧ ∃ (n5 : Int), (es2.getD (IntKind.i64.wrap (i.tdiv (128 : Int))).toNat
 []).head? = some (Z6 n5) ∧ zam es1 n5 256 ∧ ((0 : Int) ≤ i.tmod (128 : Int) ∧ i.tmod (128 : Int) < (↑128 : Int)) ∧ ∃ (n6 : Int), (List.drop ((i.tmod (128 : Int)).toNat * 2) (es1.getD n5.toNat [])).head? = some (Z3 n6) ∧ ∃ (n7 : Int),
 (List.drop ((i.tmod (128 : Int)).toNat * 2) (es1.getD n5.toNat [])).tail.head? = some (Z3 n7) ∧ R (PV.agg [Z3 n6, Z3 n7])
theorem zfq (sz : Int) (n f n2 f2 : Bool) (es bs : LL) (i : Int) {R : PV → Prop} (h : zbr sz n f n2 f2 es bs i R) : PCall Tryz.prog 37 [.ptr [.int .i64 sz, .sl n f es, .sl n2 f2 bs], .int .i64 i] R :=
  PCall.of Tryz.func37 (by kernel_rfl) (by kernel_rfl) (Nat.le_of_ble_eq_true (by kernel_rfl)) (Eq.mpr (by kernel_rfl : aFn Tryz.prog (fun _ => none) Tryz.f37 [0, 1, 4, 5, 19] (fun _ => none) (Tryz.f37.body.getD .skip) [.ptr [.int .i64 sz, .sl n f es, .sl n2 f2 bs], .int .i64 i] R = zbr sz n f n2 f2 es bs i R) h)

def zbg (sz : Int) (kn ev : List (PV × PV)) (ixm ixn bkm bkn : Bool) (ix bk : LL) (b : List PV) (R : LV → Hp → Prop) : Prop :=
 256 ≤ (List.drop 0 b).length ∧ zbk Tryz.prog 119 kn ∧ za1 Tryz.prog 119 (PV.agg (List.take 256 (List.drop 0 b))) = true ∧ (∀ (v : PV), zbc (PV.agg (List.take 256 (List.drop 0 b))) kn = some v → ∃ (n : Int), v = Z6 n ∧ R (Y6 n)
 [Ob.box [LV.box 1 0, LV.mp 2, LV.mp 3], Ob.box [Y6 sz, LV.own 4, LV.own 5], Ob.mp kn, Ob.mp ev, Ob.sl (3, 1) ixm ixn ix, Ob.sl (119, 256) bkm bkn bk]) ∧ (zbc (PV.agg (List.take 256 (List.drop 0 b))) kn = none → 256 ≤ (List.drop 0
 b).length ∧ zbk Tryz.prog 119 kn ∧ za1 Tryz.prog 119 (PV.agg (List.take 256 (List.drop 0 b))) = true ∧ 256 ≤ (List.drop 0 b).length ∧ ((List.take 256 (List.drop 0 b)).length = 256 ∧ (szOK [List.take 256 (List.drop 0 b)] 256 ∧
 (bk.length + 1) * 1024 ≤ 140737488355328) ∧ R (Y6 (↑bk.length : Int)) [Ob.box [LV.box 1 0, LV.mp 2, LV.mp 3], Ob.box [Y6 sz, LV.own 4, LV.own 5], Ob.mp (zai (PV.agg (List.take 256 (List.drop 0 b))) (Z6 (↑bk.length : Int)) kn), Ob.mp ev,
 Ob.sl (3, 1) ixm ixn ix, Ob.sl (119, 256) true (bkn && false) (bk ++ [List.take 256 (List.drop 0 b)])]) ∧ (List.take 256 (List.drop 0 b)).length = 256 ∧ Dup ((szOK [List.take 256 (List.drop 0 b)] 256 ∧ (bk.length + 1) * 1024 ≤
 140737488355328) ∧ R (Y6 (↑bk.length : Int)) [Ob.box [LV.box 1 0, LV.mp 2, LV.mp 3], Ob.box [Y6 sz, LV.own 4, LV.own 5], Ob.mp (zai (PV.agg (List.take 256 (List.drop 0 b))) (Z6 (↑bk.length : Int)) kn), Ob.mp ev, Ob.sl ((3 : Nat), 1) ixm
 ixn ix, Ob.sl (119, 256) true (bkn && false) (bk ++ [List.take 256 (List.drop 0 b)])]))
theorem ze5 (sz : Int) (kn ev : List (PV × PV)) (ixm ixn bkm bkn : Bool) (ix bk : LL) (b : List PV) {R : LV → Hp → Prop} (h : zbg sz kn ev ixm ixn bkm bkn ix bk b R) : ACall Tryz.prog 67 [.box 0 0, .pv (.agg b)] [.box [.box 1 0, .mp 2, .mp 3], .box [.pv (.int .i64 sz), .own 4, .own 5], .mp kn, .mp ev, .sl (3, 1) ixm ixn ix, .sl (119, 256) bkm bkn bk] R :=
  ACall.of Tryz.func67 (by kernel_rfl) (by kernel_rfl) (Nat.le_of_ble_eq_true (by kernel_rfl)) (Eq.mpr (by kernel_rfl : aFnH Tryz.prog (fun _ => none) Tryz.f67 [0, 1, 3, 4, 5, 6, 17] (fun _ => none) [0,1,2,3,4,5] (Tryz.f67.body.getD .skip) [.box 0 0, .pv (.agg b)] [.box [.box 1 0, .mp 2, .mp 3], .box [.pv (.int .i64 sz), .own 4, .own 5], .mp kn, .mp ev, .sl (3, 1) ixm ixn ix, .sl (119, 256) bkm bkn bk] R = zbg sz kn ev ixm ixn bkm bkn ix bk b R) h)

def z2d (sz : Int) (kn ev : List (PV × PV)) (ixm ixn bkm bkn : Bool) (ix bk : LL) (va vb : Int) (x20 : Int) (m_2 : List (PV × PV)) (m_3 : List (PV × PV)) (c_7 : List PV) : Env × Hp := ([(0, LV.box 0 0), (3, LV.box 6 0), (7, LV.box 7 0), (20, .pv (.int IntKind.i64 x20))], [.box [LV.box 1 0, LV.mp 2, LV.mp 3], .box [LV.pv (PV.int IntKind.i64 sz), LV.own 4, LV.own 5], .mp m_2, .mp m_3, .sl (3, 1) ixm ixn ix, .sl (119, 256) bkm bkn bk, .box [LV.pv (PV.int IntKind.i32 va), LV.pv (PV.int IntKind.i32 vb)], .arr c_7])
def zbh (sz : Int) (kn ev : List (PV × PV)) (ixm ixn bkm bkn : Bool) (ix bk : LL) (va vb : Int) (J : Int → (List (PV × PV)) → (List (PV × PV)) → (List PV) → Prop) (μ : Int → (List (PV × PV)) → (List (PV × PV)) → (List PV) → Nat) (R : LV → Hp → Prop) : Prop :=
 zbk Tryz.prog 63 ev ∧ za1 Tryz.prog 63 (PV.agg [Z3 va, Z3 vb]) = true ∧ (∀ (v : PV), zbc (PV.agg [Z3 va, Z3 vb]) ev = some v → ∃ (n : Int), v = Z6 n ∧ R (Y6 n) [Ob.box [LV.box 1 0, LV.mp 2, LV.mp 3], Ob.box [Y6 sz, LV.own 4, LV.own
 5], Ob.mp kn, Ob.mp ev, Ob.sl (3, 1) ixm ixn ix, Ob.sl (119, 256) bkm bkn bk]) ∧ (zbc (PV.agg [Z3 va, Z3 vb]) ev = none → (SameSt ([(0, LV.box 0 0), (3, LV.box 6 0), (7, LV.box 7 0), (20, Y6 0)], [Ob.box [LV.box 1 0, LV.mp 2, LV.mp 3],
 Ob.box [Y6 sz, LV.own 4, LV.own 5], Ob.mp kn, Ob.mp ev, Ob.sl (3, 1) (bif false then true else ixm) ixn ix, Ob.sl (119, 256) (bif false then true else bkm) bkn bk, Ob.box [LV.pv (Z3 va), LV.pv (Z3 vb)], Ob.arr (List.replicate 256 (Z3 0))])
 (z2d sz kn ev ixm ixn bkm bkn ix bk va vb (0 : Int) kn ev (List.replicate 256 (Z3 0))) ∧ J (0 : Int) kn ev (List.replicate 256 (Z3 0))) ∧ ∀ (x20 : Int) (m_2 m_3 : List (PV × PV)) (c_7 : List PV), J x20 m_2 m_3 c_7 → if decide (x20 < 128)
 = true then ((0 : Int) ≤ x20 ∧ x20 < (↑128 : Int)) ∧ (2 = (2 : Nat) ∧ 0 + x20.toNat * 2 + 2 ≤ c_7.length) ∧ SameSt ([(0, LV.box 0 0), (3, LV.box 6 0), (7, LV.box 7 0), (20, LV.pv (Z6 (IntKind.i64.wrap (x20 + 1))))], [Ob.box [LV.box 1 0,
 LV.mp 2, LV.mp 3], Ob.box [Y6 sz, LV.own 4, LV.own 5], Ob.mp m_2, Ob.mp m_3, Ob.sl (3, 1) (bif false then true else ixm) ixn ix, Ob.sl (119, 256) (bif false then true else bkm) bkn bk, Ob.box [LV.pv (Z3 va), LV.pv (Z3 vb)], Ob.arr (spl c_7
 (0 + x20.toNat * 2) [Z3 va, Z3 vb])]) (z2d sz kn ev ixm ixn bkm bkn ix bk va vb (IntKind.i64.wrap (x20 + 1)) m_2 m_3 (spl c_7 ((0 : Nat) + x20.toNat * 2) [Z3 va, Z3 vb])) ∧ J (IntKind.i64.wrap (x20 + 1)) m_2 m_3 (spl c_7 ((0 : Nat) +
 x20.toNat * 2) [Z3 va, Z3 vb]) ∧ μ (IntKind.i64.wrap (x20 + 1)) m_2 m_3 (spl c_7 (0 + x20.toNat * 2) [Z3 va, Z3 vb]) < μ x20 m_2 m_3 c_7 else 256 ≤ (List.drop 0 c_7).length ∧ ACall Tryz.prog 67 [LV.box 0 0, LV.pv (PV.agg (List.take 256
 (List.drop 0 c_7)))] [Ob.box [LV.box 1 0, LV.mp 2, LV.mp 3], Ob.box [Y6 sz, LV.own 4, LV.own 5], Ob.mp m_2, Ob.mp m_3, Ob.sl ((3 : Nat), 1) false ixn ix, Ob.sl (119, 256) false bkn bk] fun (r : LV) (h' : Hp) ↦ ∃ (t : Int × List (PV × PV) ×
 Bool × LL), (r = Y6 t.1 ∧ h' = [Ob.box [LV.box 1 0, LV.mp 2, LV.mp 3], Ob.box [Y6 sz, LV.own 4, LV.own 5], Ob.mp t.snd.fst, Ob.mp m_3, Ob.sl (3, 1) false ixn ix, Ob.sl (119, 256) true t.snd.snd.fst t.snd.snd.snd]) ∧ (True ∧ ((3, 1) = (3, (1
 : Nat)) ∧ ixn = ixn ∧ ix.length = ix.length) ∧ True ∧ True ∧ True ∧ True ∧ True) ∧ zbk Tryz.prog 63 m_3 ∧ za1 Tryz.prog 63 (PV.agg [Z3 va, Z3 vb]) = true ∧ R (Y6 t.1) [Ob.box [LV.box 1 0, LV.mp 2, LV.mp 3], Ob.box [Y6 sz, LV.own 4,
 LV.own 5], Ob.mp t.snd.fst, Ob.mp (zai (PV.agg [Z3 va, Z3 vb]) (Z6 t.1) m_3), Ob.sl (3, 1) (ixm || false) ixn ix, Ob.sl (119, 256) (bkm || true) t.snd.snd.fst t.snd.snd.snd])
theorem ze6 (sz : Int) (kn ev : List (PV × PV)) (ixm ixn bkm bkn : Bool) (ix bk : LL) (va vb : Int) (J : Int → (List (PV × PV)) → (List (PV × PV)) → (List PV) → Prop) (μ : Int → (List (PV × PV)) → (List (PV × PV)) → (List PV) → Nat) {R : LV → Hp → Prop} (h : zbh sz kn ev ixm ixn bkm bkn ix bk va vb J μ R) : ACall Tryz.prog 66 [.box 0 0, .pv (.agg [.int .i32 va, .int .i32 vb])] [.box [.box 1 0, .mp 2, .mp 3], .box [.pv (.int .i64 sz), .own 4, .own 5], .mp kn, .mp ev, .sl (3, 1) ixm ixn ix, .sl (119, 256) bkm bkn bk] R :=
  ACall.of Tryz.func66 (by kernel_rfl) (by kernel_rfl) (Nat.le_of_ble_eq_true (by kernel_rfl)) (Eq.mpr (by kernel_rfl : aFnH Tryz.prog (fun zz_ => match zz_ with | 67 => some ⟨Int × List (PV × PV) × Bool × LL, fun _ hs t => (.pv (.int .i64 t.1), match hs with | [m, r, .mp _, ev, ix, .sl a _ _ _] => [m, r, .mp t.2.1, ev, ix, .sl a true t.2.2.1 t.2.2.2] | h => h), none⟩ | _ => none) Tryz.f66 [0, 1, 3, 4, 5, 6, 7, 8, 19, 20, 21] (fun zz_ => match zz_ with | 5 => some ⟨Int × (List (PV × PV)) × (List (PV × PV)) × (List PV), fun s => z2d sz kn ev ixm ixn bkm bkn ix bk va vb s.1 s.2.1 s.2.2.1 s.2.2.2, fun _ s => J s.1 s.2.1 s.2.2.1 s.2.2.2, fun s => μ s.1 s.2.1 s.2.2.1 s.2.2.2, fun e h => (gI e 20, oM h 2, oM h 3, oA h 7), [], [0, 3, 7, 20], [], fun p => ∀ (x20 : Int) (m_2 : List (PV × PV)) (m_3 : List (PV × PV)) (c_7 : List PV), p (x20, m_2, m_3, c_7), fun p h s => h s.1 s.2.1 s.2.2.1 s.2.2.2⟩ | _ => none) [0,1,2,3,4,5] (Tryz.f66.body.getD .skip) [.box 0 0, .pv (.agg [.int .i32 va, .int .i32 vb])] [.box [.box 1 0, .mp 2, .mp 3], .box [.pv (.int .i64 sz), .own 4, .own 5], .mp kn, .mp ev, .sl (3, 1) ixm ixn ix, .sl (119, 256) bkm bkn bk] R = zbh sz kn ev ixm ixn bkm bkn ix bk va vb J μ R) h)

def zrf (sz : Int) (za zb : Int) (n f : Bool) (es : LL) (x10 : Int) (x11 : Int) (h3_0 : Int) (h3_1 : Int) (n_4 : Bool) (s_4 : LL) (n_5 : Bool) (s_5 : LL) (m_6 : List (PV × PV)) (m_7 : List (PV × PV)) : Env × Hp := ([(0, LV.pv (PV.int IntKind.i64 sz)), (2, LV.pv (PV.sl n f es)), (4, LV.box 0 0), (7, LV.box 1 0), (8, LV.box 2 0), (9, LV.box 3 0), (10, .pv (.int IntKind.i64 x10)), (11, .pv (.int IntKind.i64 x11))], [.box [LV.pv (PV.int IntKind.i32 za), LV.pv (PV.int IntKind.i32 zb)], .box [LV.pv (PV.int IntKind.i64 sz), LV.own 4, LV.own 5], .box [LV.box 1 0, LV.mp 6, LV.mp 7], .box [.pv (.int IntKind.i32 h3_0), .pv (.int IntKind.i32 h3_1)], .sl (3, 1) true n_4 s_4, .sl (119, 256) true n_5 s_5, .mp m_6, .mp m_7])
def zrg (sz : Int) (za zb : Int) (n f : Bool) (es : LL) (x10 : Int) (x11 : Int) (x13 : Int) (h3_0 : Int) (h3_1 : Int) (n_4 : Bool) (s_4 : LL) (n_5 : Bool) (s_5 : LL) (m_6 : List (PV × PV)) (m_7 : List (PV × PV)) : Env × Hp := ([(0, LV.pv (PV.int IntKind.i64 sz)), (2, LV.pv (PV.sl n f es)), (4, LV.box 0 0), (7, LV.box 1 0), (8, LV.box 2 0), (9, LV.box 3 0), (10, .pv (.int IntKind.i64 x10)), (11, .pv (.int IntKind.i64 x11)), (13, .pv (.int IntKind.i64 x13))], [.box [LV.pv (PV.int IntKind.i32 za), LV.pv (PV.int IntKind.i32 zb)], .box [LV.pv (PV.int IntKind.i64 sz), LV.own 4, LV.own 5], .box [LV.box 1 0, LV.mp 6, LV.mp 7], .box [.pv (.int IntKind.i32 h3_0), .pv (.int IntKind.i32 h3_1)], .sl (3, 1) true n_4 s_4, .sl (119, 256) true n_5 s_5, .mp m_6, .mp m_7])
def zmw (sz : Int) (za zb : Int) (n f : Bool) (es : LL) (x10 : Int) (x11 : Int) (x88 : Int) (h3_0 : Int) (h3_1 : Int) (c_4 : List PV) (n_5 : Bool) (s_5 : LL) (n_6 : Bool) (s_6 : LL) (m_7 : List (PV × PV)) (m_8 : List (PV × PV)) : Env × Hp := ([(0, LV.pv (PV.int IntKind.i64 sz)), (2, LV.pv (PV.sl n f es)), (4, LV.box 0 0), (7, LV.box 1 0), (8, LV.box 2 0), (9, LV.box 3 0), (10, .pv (.int IntKind.i64 x10)), (11, .pv (.int IntKind.i64 x11)), (14, LV.box 4 0), (88, .pv (.int IntKind.i64 x88))], [.box [LV.pv (PV.int IntKind.i32 za), LV.pv (PV.int IntKind.i32 zb)], .box [LV.pv (PV.int IntKind.i64 sz), LV.own 5, LV.own 6], .box [LV.box 1 0, LV.mp 7, LV.mp 8], .box [.pv (.int IntKind.i32 h3_0), .pv (.int IntKind.i32 h3_1)], .arr c_4, .sl (3, 1) true n_5 s_5, .sl (119, 256) true n_6 s_6, .mp m_7, .mp m_8])
def zcd (sz : Int) (za zb : Int) (n f : Bool) (es : LL) (J : Int → Int → Int → Int → Bool → (LL) → Bool → (LL) → (List (PV × PV)) → (List (PV × PV)) → Prop) (μ : Int → Int → Int → Int → Bool → (LL) → Bool → (LL) → (List (PV × PV)) → (List (PV × PV)) → Nat) (J2 : Int → Int → Int → Int → Int → Bool → (LL) → Bool → (LL) → (List (PV × PV)) → (List (PV × PV)) → Int → Int → Int → Int → Int → Bool → (LL) → Bool → (LL) → (List (PV × PV)) → (List (PV × PV)) → Prop) (μ2 : Int → Int → Int → Int → Int → Bool → (LL) → Bool → (LL) → (List (PV × PV)) → (List (PV × PV)) → Nat) (J3 : Int → Int → Int → Int → Int → (List PV) → Bool → (LL) → Bool → (LL) → (List (PV × PV)) → (List (PV × PV)) → Int → Int → Int → Int → Int → (List PV) → Bool → (LL) → Bool → (LL) → (List (PV × PV)) → (List (PV × PV)) → Prop) (μ3 : Int → Int → Int → Int → Int → (List PV) → Bool → (LL) → Bool → (LL) → (List (PV × PV)) → (List (PV × PV)) → Nat) (R : PV → Prop) : Prop :=
 if decide (sz < 1) = true then R PV.nilp else PCall Tryz.prog 65 [PV.sl n f es, PV.agg [Z3 za, Z3 zb], Z6 0, Z6 (IntKind.i64.wrap (sz - 1))] fun (v : PV) ↦ ∃ (vs : List PV), v = PV.tup vs ∧ vs.length = 2 ∧ ∃ (x : PV), vs.head? = some x ∧ ∃
 (cs : List PV), x = PV.agg cs ∧ cs.length = 2 ∧ ∃ (n1 : Int), cs.head? = some (Z3 n1) ∧ ∃ (n2 : Int), cs.tail.head? = some (Z3 n2) ∧ ∃ (x1 : PV), vs.tail.head? = some x1 ∧ ∃ (n3 : Int), x1 = Z6 n3 ∧ (zab (zrf sz za zb n f es n3 (0 :
 Int) n1 n2 true [] true [] [] []) ∧ J n3 (0 : Int) n1 n2 true [] true [] [] []) ∧ ∀ (x10 x11 h3_0 h3_1 : Int) (n_4 : Bool) (s_4 : LL) (n_5 : Bool) (s_5 : LL) (m_6 m_7 : List (PV × PV)), J x10 x11 h3_0 h3_1 n_4 s_4 n_5 s_5 m_6 m_7 → if
 decide (x11 < sz) = true then if decide (x11 > x10) = true then PCall Tryz.prog 65 [PV.sl n f es, PV.agg [Z3 za, Z3 zb], Z6 x11, Z6 (IntKind.i64.wrap (sz - 1))] fun (v1 : PV) ↦ ∃ (vs1 : List PV), v1 = PV.tup vs1 ∧ vs1.length = 2 ∧ ∃ (x2 :
 PV), vs1.head? = some x2 ∧ ∃ (cs1 : List PV), x2 = PV.agg cs1 ∧ cs1.length = 2 ∧ ∃ (n4 : Int), cs1.head? = some (Z3 n4) ∧ ∃ (n5 : Int), cs1.tail.head? = some (Z3 n5) ∧ ∃ (x3 : PV), vs1.tail.head? = some x3 ∧ ∃ (n6 : Int), x3 = Z6 n6 ∧ if
 decide (n6 ≥ IntKind.i64.wrap ((if sz < IntKind.i64.wrap (x11 + 128) then sz else IntKind.i64.wrap (x11 + 128)) - 1)) = true then ACall Tryz.prog 66 [LV.box 0 0, LV.pv (PV.agg [Z3 n4, Z3 n5])] [Ob.box [LV.box 1 0, LV.mp 2, LV.mp 3], Ob.box
 [Y6 sz, LV.own 4, LV.own 5], Ob.mp m_6, Ob.mp m_7, Ob.sl (3, 1) false n_4 s_4, Ob.sl (119, 256) false n_5 s_5] fun (r : LV) (h' : Hp) ↦ ∃ (t : Int × List (PV × PV) × List (PV × PV) × Bool × LL), (r = Y6 t.1 ∧ h' = [Ob.box [LV.box 1 0, LV.mp
 2, LV.mp 3], Ob.box [Y6 sz, LV.own 4, LV.own 5], Ob.mp t.snd.fst, Ob.mp t.snd.snd.fst, Ob.sl (3, 1) false n_4 s_4, Ob.sl (119, 256) true t.snd.snd.snd.fst t.snd.snd.snd.snd]) ∧ (True ∧ ((3, 1) = (3, 1) ∧ n_4 = n_4 ∧ s_4.length = s_4.length)
 ∧ True ∧ True ∧ True ∧ True ∧ True) ∧ (zab (zrg sz za zb n f es n6 x11 t.1 n4 n5 n_4 s_4 t.snd.snd.snd.fst t.snd.snd.snd.snd t.snd.fst t.snd.snd.fst) ∧ J2 n6 x11 t.1 n4 n5 n_4 s_4 t.snd.snd.snd.fst t.snd.snd.snd.snd t.snd.fst
 t.snd.snd.fst n6 x11 t.1 n4 n5 n_4 s_4 t.snd.snd.snd.fst t.snd.snd.snd.snd t.snd.fst t.snd.snd.fst) ∧ ∀ (x101 x111 x13 h3_01 h3_11 : Int) (n_41 : Bool) (s_41 : LL) (n_51 : Bool) (s_51 : LL) (m_61 m_71 : List (PV × PV)), J2 n6 x11 t.1 n4 n5
 n_4 s_4 t.snd.snd.snd.fst t.snd.snd.snd.snd t.snd.fst t.snd.snd.fst x101 x111 x13 h3_01 h3_11 n_41 s_41 n_51 s_51 m_61 m_71 → if (decide (x111 < sz) && decide (x101 ≥ IntKind.i64.wrap ((if sz < IntKind.i64.wrap (x111 + 128) then sz else
 IntKind.i64.wrap (x111 + 128)) - 1))) = true then (szOK [[Z6 x13]] 1 ∧ (s_41.length + 1) * 8 ≤ 140737488355328) ∧ zab (zrg sz za zb n f es x101 (IntKind.i64.wrap (x111 + 128)) x13 h3_01 h3_11 (n_41 && false) (s_41 ++ [[Z6 x13]]) n_51
 s_51 m_61 m_71) ∧ J2 n6 x11 t.1 n4 n5 n_4 s_4 t.snd.snd.snd.fst t.snd.snd.snd.snd t.snd.fst t.snd.snd.fst x101 (IntKind.i64.wrap (x111 + 128)) x13 h3_01 h3_11 (n_41 && false) (s_41 ++ [[Z6 x13]]) n_51 s_51 m_61 m_71 ∧ μ2 x101
 (IntKind.i64.wrap (x111 + 128)) x13 h3_01 h3_11 (n_41 && false) (s_41 ++ [[Z6 x13]]) n_51 s_51 m_61 m_71 < μ2 x101 x111 x13 h3_01 h3_11 n_41 s_41 n_51 s_51 m_61 m_71 else zab (zrf sz za zb n f es x101 (IntKind.i64.wrap (IntKind.i64.wrap
 (x111 - 128) + 128)) h3_01 h3_11 n_41 s_41 n_51 s_51 m_61 m_71) ∧ J x101 (IntKind.i64.wrap (IntKind.i64.wrap (x111 - 128) + 128)) h3_01 h3_11 n_41 s_41 n_51 s_51 m_61 m_71 ∧ μ x101 (IntKind.i64.wrap (IntKind.i64.wrap (x111 - 128) + 128))
 h3_01 h3_11 n_41 s_41 n_51 s_51 m_61 m_71 < μ x10 x11 h3_0 h3_1 n_4 s_4 n_5 s_5 m_6 m_7 else (zab (zmw sz za zb n f es n6 x11 (0 : Int) n4 n5 (List.replicate 256 (Z3 0)) n_4 s_4 n_5 s_5 m_6 m_7) ∧ J3 n6 x11 (0 : Int) n4 n5
 (List.replicate 256 (Z3 0)) n_4 s_4 n_5 s_5 m_6 m_7 n6 x11 (0 : Int) n4 n5 (List.replicate 256 (Z3 0)) n_4 s_4 n_5 s_5 m_6 m_7) ∧ ∀ (x101 x111 x88 h3_01 h3_11 : Int) (c_4 : List PV) (n_51 : Bool) (s_51 : LL) (n_6 : Bool) (s_6 : LL) (m_71
 m_8 : List (PV × PV)), J3 n6 x11 (0 : Int) n4 n5 (List.replicate 256 (Z3 0)) n_4 s_4 n_5 s_5 m_6 m_7 x101 x111 x88 h3_01 h3_11 c_4 n_51 s_51 n_6 s_6 m_71 m_8 → if decide (x88 < 128) = true then if (decide (IntKind.i64.wrap (x111 + x88) >
 x101) && decide (IntKind.i64.wrap (x111 + x88) < sz)) = true then PCall Tryz.prog 65 [PV.sl n f es, PV.agg [Z3 za, Z3 zb], Z6 (IntKind.i64.wrap (x111 + x88)), Z6 (IntKind.i64.wrap (sz - 1))] fun (v2 : PV) ↦ ∃ (vs2 : List PV), v2 = PV.tup
 vs2 ∧ vs2.length = 2 ∧ ∃ (x4 : PV), vs2.head? = some x4 ∧ ∃ (cs2 : List PV), x4 = PV.agg cs2 ∧ cs2.length = 2 ∧ ∃ (n7 : Int), cs2.head? = some (Z3 n7) ∧ ∃ (n8 : Int), cs2.tail.head? = some (Z3 n8) ∧ ∃ (x5 : PV), vs2.tail.head? = some x5 ∧ ∃
 (n9 : Int), x5 = Z6 n9 ∧ ((0 : Int) ≤ x88 ∧ x88 < (↑128 : Int)) ∧ (2 = 2 ∧ 0 + x88.toNat * 2 + 2 ≤ c_4.length) ∧ zab (zmw sz za zb n f es n9 x111 (IntKind.i64.wrap (x88 + 1)) n7 n8 (spl c_4 (0 + x88.toNat * 2) [Z3 n7, Z3 n8]) n_51 s_51
 n_6 s_6 m_71 m_8) ∧ J3 n6 x11 (0 : Int) n4 n5 (List.replicate 256 (Z3 0)) n_4 s_4 n_5 s_5 m_6 m_7 n9 x111 (IntKind.i64.wrap (x88 + 1)) n7 n8 (spl c_4 (0 + x88.toNat * 2) [Z3 n7, Z3 n8]) n_51 s_51 n_6 s_6 m_71 m_8 ∧ μ3 n9 x111
 (IntKind.i64.wrap (x88 + 1)) n7 n8 (spl c_4 (0 + x88.toNat * 2) [Z3 n7, Z3 n8]) n_51 s_51 n_6 s_6 m_71 m_8 < μ3 x101 x111 x88 h3_01 h3_11 c_4 n_51 s_51 n_6 s_6 m_71 m_8 else ((0 : Int) ≤ x88 ∧ x88 < (↑128 : Int)) ∧ (2 = 2 ∧ 0 + x88.toNat *
 2 + 2 ≤ c_4.length) ∧ zab (zmw sz za zb n f es x101 x111 (IntKind.i64.wrap (x88 + 1)) h3_01 h3_11 (spl c_4 (0 + x88.toNat * 2) [Z3 h3_01, Z3 h3_11]) n_51 s_51 n_6 s_6 m_71 m_8) ∧ J3 n6 x11 (0 : Int) n4 n5 (List.replicate 256 (Z3 0))
 n_4 s_4 n_5 s_5 m_6 m_7 x101 x111 (IntKind.i64.wrap (x88 + 1)) h3_01 h3_11 (spl c_4 (0 + x88.toNat * 2) [Z3 h3_01, Z3 h3_11]) n_51 s_51 n_6 s_6 m_71 m_8 ∧ μ3 x101 x111 (IntKind.i64.wrap (x88 + 1)) h3_01 h3_11 (spl c_4 (0 + x88.toNat * 2)
 [Z3 h3_01, Z3 h3_11]) n_51 s_51 n_6 s_6 m_71 m_8 < μ3 x101 x111 x88 h3_01 h3_11 c_4 n_51 s_51 n_6 s_6 m_71 m_8 else 256 ≤ (List.drop 0 c_4).length ∧ (ACall Tryz.prog 67 [LV.box 0 0, LV.pv (PV.agg (List.take 256 (List.drop 0 c_4)))] [Ob.box
 [LV.box 1 0, LV.mp 2, LV.mp 3], Ob.box [Y6 sz, LV.own 4, LV.own 5], Ob.mp m_71, Ob.mp m_8, Ob.sl (3, 1) false n_51 s_51, Ob.sl (119, 256) false n_6 s_6] fun (r : LV) (h' : Hp) ↦ ∃ (t : Int × List (PV × PV) × Bool × LL), (r = Y6 t.1 ∧ h' =
 [Ob.box [LV.box 1 0, LV.mp 2, LV.mp 3], Ob.box [Y6 sz, LV.own 4, LV.own 5], Ob.mp t.snd.fst, Ob.mp m_8, Ob.sl (3, 1) false n_51 s_51, Ob.sl (119, 256) true t.snd.snd.fst t.snd.snd.snd]) ∧ (True ∧ ((3, 1) = (3, 1) ∧ n_51 = n_51 ∧ s_51.length
 = s_51.length) ∧ True ∧ True ∧ True ∧ True ∧ True) ∧ (szOK [[Z6 t.1]] 1 ∧ (s_51.length + 1) * 8 ≤ 140737488355328) ∧ zab (zrf sz za zb n f es x101 (IntKind.i64.wrap (x111 + 128)) h3_01 h3_11 (n_51 && false) (s_51 ++ [[Z6 t.1]])
 t.snd.snd.fst t.snd.snd.snd t.snd.fst m_8) ∧ J x101 (IntKind.i64.wrap (x111 + 128)) h3_01 h3_11 (n_51 && false) (s_51 ++ [[Z6 t.1]]) t.snd.snd.fst t.snd.snd.snd t.snd.fst m_8 ∧ μ x101 (IntKind.i64.wrap (x111 + 128)) h3_01 h3_11 (n_51 &&
 false) (s_51 ++ [[Z6 t.1]]) t.snd.snd.fst t.snd.snd.snd t.snd.fst m_8 < μ x10 x11 h3_0 h3_1 n_4 s_4 n_5 s_5 m_6 m_7) ∧ ACall Tryz.prog 67 [LV.box 0 0, LV.pv (PV.agg (List.take 256 (List.drop 0 c_4)))] [Ob.box [LV.box 1 0, LV.mp 2, LV.mp 3],
 Ob.box [Y6 sz, LV.own 4, LV.own 5], Ob.mp m_71, Ob.mp m_8, Ob.sl (3, 1) false n_51 s_51, Ob.sl (119, 256) false n_6 s_6] fun (r : LV) (h' : Hp) ↦ ∃ (t : Int × List (PV × PV) × Bool × LL), (r = Y6 t.1 ∧ h' = [Ob.box [LV.box 1 0, LV.mp 2,
 LV.mp 3], Ob.box [Y6 sz, LV.own 4, LV.own 5], Ob.mp t.snd.fst, Ob.mp m_8, Ob.sl (3, 1) false n_51 s_51, Ob.sl (119, 256) true t.snd.snd.fst t.snd.snd.snd]) ∧ (True ∧ ((3, 1) = (3, 1) ∧ n_51 = n_51 ∧ s_51.length = s_51.length) ∧ True ∧ True
 ∧ True ∧ True ∧ True) ∧ (szOK [[Z6 t.1]] 1 ∧ (s_51.length + 1) * 8 ≤ 140737488355328) ∧ zab (zrf sz za zb n f es x101 (IntKind.i64.wrap (x111 + 128)) h3_01 h3_11 (n_51 && false) (s_51 ++ [[Z6 t.1]]) t.snd.snd.fst t.snd.snd.snd t.snd.fst
 m_8) ∧ J x101 (IntKind.i64.wrap (x111 + 128)) h3_01 h3_11 (n_51 && false) (s_51 ++ [[Z6 t.1]]) t.snd.snd.fst t.snd.snd.snd t.snd.fst m_8 ∧ μ x101 (IntKind.i64.wrap (x111 + 128)) h3_01 h3_11 (n_51 && false) (s_51 ++ [[Z6 t.1]]) t.snd.snd.fst
 t.snd.snd.snd t.snd.fst m_8 < μ x10 x11 h3_0 h3_1 n_4 s_4 n_5 s_5 m_6 m_7 else if decide (x10 ≥ IntKind.i64.wrap ((if sz < IntKind.i64.wrap (x11 + 128) then sz else IntKind.i64.wrap (x11 + 128)) - 1)) = true then ACall Tryz.prog 66 [LV.box
 0 0, LV.pv (PV.agg [Z3 h3_0, Z3 h3_1])] [Ob.box [LV.box 1 0, LV.mp 2, LV.mp 3], Ob.box [Y6 sz, LV.own 4, LV.own 5], Ob.mp m_6, Ob.mp m_7, Ob.sl (3, 1) false n_4 s_4, Ob.sl (119, 256) false n_5 s_5] fun (r : LV) (h' : Hp) ↦ ∃ (t : Int × List
 (PV × PV) × List (PV × PV) × Bool × LL), (r = Y6 t.1 ∧ h' = [Ob.box [LV.box 1 0, LV.mp 2, LV.mp 3], Ob.box [Y6 sz, LV.own 4, LV.own 5], Ob.mp t.snd.fst, Ob.mp t.snd.snd.fst, Ob.sl (3, 1) false n_4 s_4, Ob.sl (119, 256) true
 t.snd.snd.snd.fst t.snd.snd.snd.snd]) ∧ (True ∧ ((3, 1) = (3, 1) ∧ n_4 = n_4 ∧ s_4.length = s_4.length) ∧ True ∧ True ∧ True ∧ True ∧ True) ∧ (zab (zrg sz za zb n f es x10 x11 t.1 h3_0 h3_1 n_4 s_4 t.snd.snd.snd.fst t.snd.snd.snd.snd
 t.snd.fst t.snd.snd.fst) ∧ J2 x10 x11 t.1 h3_0 h3_1 n_4 s_4 t.snd.snd.snd.fst t.snd.snd.snd.snd t.snd.fst t.snd.snd.fst x10 x11 t.1 h3_0 h3_1 n_4 s_4 t.snd.snd.snd.fst t.snd.snd.snd.snd t.snd.fst t.snd.snd.fst) ∧ ∀ (x101 x111 x13 h3_01
 h3_11 : Int) (n_41 : Bool) (s_41 : LL) (n_51 : Bool) (s_51 : LL) (m_61 m_71 : List (PV × PV)), J2 x10 x11 t.1 h3_0 h3_1 n_4 s_4 t.snd.snd.snd.fst t.snd.snd.snd.snd t.snd.fst t.snd.snd.fst x101 x111 x13 h3_01 h3_11 n_41 s_41 n_51 s_51 m_61
 m_71 → if (decide (x111 < sz) && decide (x101 ≥ IntKind.i64.wrap ((if sz < IntKind.i64.wrap (x111 + 128) then sz else IntKind.i64.wrap (x111 + 128)) - 1))) = true then (szOK [[Z6 x13]] 1 ∧ (s_41.length + 1) * 8 ≤ 140737488355328) ∧ zab
 (zrg sz za zb n f es x101 (IntKind.i64.wrap (x111 + 128)) x13 h3_01 h3_11 (n_41 && false) (s_41 ++ [[Z6 x13]]) n_51 s_51 m_61 m_71) ∧ J2 x10 x11 t.1 h3_0 h3_1 n_4 s_4 t.snd.snd.snd.fst t.snd.snd.snd.snd t.snd.fst t.snd.snd.fst x101
 (IntKind.i64.wrap (x111 + 128)) x13 h3_01 h3_11 (n_41 && false) (s_41 ++ [[Z6 x13]]) n_51 s_51 m_61 m_71 ∧ μ2 x101 (IntKind.i64.wrap (x111 + 128)) x13 h3_01 h3_11 (n_41 && false) (s_41 ++ [[Z6 x13]]) n_51 s_51 m_61 m_71 < μ2 x101 x111 x13
 h3_01 h3_11 n_41 s_41 n_51 s_51 m_61 m_71 else zab (zrf sz za zb n f es x101 (IntKind.i64.wrap (IntKind.i64.wrap (x111 - 128) + 128)) h3_01 h3_11 n_41 s_41 n_51 s_51 m_61 m_71) ∧ J x101 (IntKind.i64.wrap (IntKind.i64.wrap (x111 - 128) +
 128)) h3_01 h3_11 n_41 s_41 n_51 s_51 m_61 m_71 ∧ μ x101 (IntKind.i64.wrap (IntKind.i64.wrap (x111 - 128) + 128)) h3_01 h3_11 n_41 s_41 n_51 s_51 m_61 m_71 < μ x10 x11 h3_0 h3_1 n_4 s_4 n_5 s_5 m_6 m_7 else (zab (zmw sz za zb n f es
 x10 x11 (0 : Int) h3_0 h3_1 (List.replicate 256 (Z3 0)) n_4 s_4 n_5 s_5 m_6 m_7) ∧ J3 x10 x11 (0 : Int) h3_0 h3_1 (List.replicate 256 (Z3 0)) n_4 s_4 n_5 s_5 m_6 m_7 x10 x11 (0 : Int) h3_0 h3_1 (List.replicate 256 (Z3 0)) n_4 s_4 n_5 s_5
 m_6 m_7) ∧ ∀ (x101 x111 x88 h3_01 h3_11 : Int) (c_4 : List PV) (n_51 : Bool) (s_51 : LL) (n_6 : Bool) (s_6 : LL) (m_71 m_8 : List (PV × PV)), J3 x10 x11 (0 : Int) h3_0 h3_1 (List.replicate 256 (Z3 0)) n_4 s_4 n_5 s_5 m_6 m_7 x101 x111 x88
 h3_01 h3_11 c_4 n_51 s_51 n_6 s_6 m_71 m_8 → if decide (x88 < 128) = true then if (decide (IntKind.i64.wrap (x111 + x88) > x101) && decide (IntKind.i64.wrap (x111 + x88) < sz)) = true then PCall Tryz.prog 65 [PV.sl n f es, PV.agg [Z3 za, Z3
 zb], Z6 (IntKind.i64.wrap (x111 + x88)), Z6 (IntKind.i64.wrap (sz - 1))] fun (v1 : PV) ↦ ∃ (vs1 : List PV), v1 = PV.tup vs1 ∧ vs1.length = 2 ∧ ∃ (x2 : PV), vs1.head? = some x2 ∧ ∃ (cs1 : List PV), x2 = PV.agg cs1 ∧ cs1.length = 2 ∧ ∃ (n4 :
 Int), cs1.head? = some (Z3 n4) ∧ ∃ (n5 : Int), cs1.tail.head? = some (Z3 n5) ∧ ∃ (x3 : PV), vs1.tail.head? = some x3 ∧ ∃ (n6 : Int), x3 = Z6 n6 ∧ ((0 : Int) ≤ x88 ∧ x88 < (↑128 : Int)) ∧ (2 = 2 ∧ 0 + x88.toNat * 2 + 2 ≤ c_4.length) ∧ zab
 (zmw sz za zb n f es n6 x111 (IntKind.i64.wrap (x88 + 1)) n4 n5 (spl c_4 (0 + x88.toNat * (2 : Nat)) [Z3 n4, Z3 n5]) n_51 s_51 n_6 s_6 m_71 m_8) ∧ J3 x10 x11 (0 : Int) h3_0 h3_1 (List.replicate 256 (Z3 0)) n_4 s_4 n_5 s_5 m_6 m_7 n6 x111
 (IntKind.i64.wrap (x88 + 1)) n4 n5 (spl c_4 (0 + x88.toNat * (2 : Nat)) [Z3 n4, Z3 n5]) n_51 s_51 n_6 s_6 m_71 m_8 ∧ μ3 n6 x111 (IntKind.i64.wrap (x88 + 1)) n4 n5 (spl c_4 (0 + x88.toNat * 2) [Z3 n4, Z3 n5]) n_51 s_51 n_6 s_6 m_71 m_8 < μ3
 x101 x111 x88 h3_01 h3_11 c_4 n_51 s_51 n_6 s_6 m_71 m_8 else ((0 : Int) ≤ x88 ∧ x88 < (↑128 : Int)) ∧ (2 = 2 ∧ 0 + x88.toNat * 2 + 2 ≤ c_4.length) ∧ zab (zmw sz za zb n f es x101 x111 (IntKind.i64.wrap (x88 + 1)) h3_01 h3_11 (spl c_4
 (0 + x88.toNat * 2) [Z3 h3_01, Z3 h3_11]) n_51 s_51 n_6 s_6 m_71 m_8) ∧ J3 x10 x11 (0 : Int) h3_0 h3_1 (List.replicate 256 (Z3 0)) n_4 s_4 n_5 s_5 m_6 m_7 x101 x111 (IntKind.i64.wrap (x88 + 1)) h3_01 h3_11 (spl c_4 (0 + x88.toNat * 2) [Z3
 h3_01, Z3 h3_11]) n_51 s_51 n_6 s_6 m_71 m_8 ∧ μ3 x101 x111 (IntKind.i64.wrap (x88 + 1)) h3_01 h3_11 (spl c_4 (0 + x88.toNat * 2) [Z3 h3_01, Z3 h3_11]) n_51 s_51 n_6 s_6 m_71 m_8 < μ3 x101 x111 x88 h3_01 h3_11 c_4 n_51 s_51 n_6 s_6 m_71 m_8
 else 256 ≤ (List.drop 0 c_4).length ∧ (ACall Tryz.prog 67 [LV.box 0 0, LV.pv (PV.agg (List.take 256 (List.drop 0 c_4)))] [Ob.box [LV.box 1 0, LV.mp 2, LV.mp 3], Ob.box [Y6 sz, LV.own 4, LV.own 5], Ob.mp m_71, Ob.mp m_8, Ob.sl (3, 1) false
 n_51 s_51, Ob.sl (119, 256) false n_6 s_6] fun (r : LV) (h' : Hp) ↦ ∃ (t : Int × List (PV × PV) × Bool × LL), (r = Y6 t.1 ∧ h' = [Ob.box [LV.box 1 0, LV.mp 2, LV.mp 3], Ob.box [Y6 sz, LV.own 4, LV.own 5], Ob.mp t.snd.fst, Ob.mp m_8, Ob.sl
 (3, 1) false n_51 s_51, Ob.sl (119, 256) true t.snd.snd.fst t.snd.snd.snd]) ∧ (True ∧ ((3, 1) = (3, 1) ∧ n_51 = n_51 ∧ s_51.length = s_51.length) ∧ True ∧ True ∧ True ∧ True ∧ True) ∧ (szOK [[Z6 t.1]] 1 ∧ (s_51.length + 1) * 8 ≤
 140737488355328) ∧ zab (zrf sz za zb n f es x101 (IntKind.i64.wrap (x111 + 128)) h3_01 h3_11 (n_51 && false) (s_51 ++ [[Z6 t.1]]) t.snd.snd.fst t.snd.snd.snd t.snd.fst m_8) ∧ J x101 (IntKind.i64.wrap (x111 + 128)) h3_01 h3_11 (n_51 &&
 false) (s_51 ++ [[Z6 t.1]]) t.snd.snd.fst t.snd.snd.snd t.snd.fst m_8 ∧ μ x101 (IntKind.i64.wrap (x111 + 128)) h3_01 h3_11 (n_51 && false) (s_51 ++ [[Z6 t.1]]) t.snd.snd.fst t.snd.snd.snd t.snd.fst m_8 < μ x10 x11 h3_0 h3_1 n_4 s_4 n_5 s_5
 m_6 m_7) ∧ ACall Tryz.prog 67 [LV.box 0 0, LV.pv (PV.agg (List.take 256 (List.drop 0 c_4)))] [Ob.box [LV.box 1 0, LV.mp 2, LV.mp 3], Ob.box [Y6 sz, LV.own 4, LV.own 5], Ob.mp m_71, Ob.mp m_8, Ob.sl (3, 1) false n_51 s_51, Ob.sl (119, 256)
 false n_6 s_6] fun (r : LV) (h' : Hp) ↦ ∃ (t : Int × List (PV × PV) × Bool × LL), (r = Y6 t.1 ∧ h' = [Ob.box [LV.box 1 0, LV.mp 2, LV.mp 3], Ob.box [Y6 sz, LV.own 4, LV.own 5], Ob.mp t.snd.fst, Ob.mp m_8, Ob.sl (3, 1) false n_51 s_51, Ob.sl
 (119, 256) true t.snd.snd.fst t.snd.snd.snd]) ∧ (True ∧ ((3, 1) = (3, 1) ∧ n_51 = n_51 ∧ s_51.length = s_51.length) ∧ True ∧ True ∧ True ∧ True ∧ True) ∧ (szOK [[Z6 t.1]] 1 ∧ (s_51.length + 1) * 8 ≤ 140737488355328) ∧ zab (zrf sz za zb
 n f es x101 (IntKind.i64.wrap (x111 + 128)) h3_01 h3_11 (n_51 && false) (s_51 ++ [[Z6 t.1]]) t.snd.snd.fst t.snd.snd.snd t.snd.fst m_8) ∧ J x101 (IntKind.i64.wrap (x111 + 128)) h3_01 h3_11 (n_51 && false) (s_51 ++ [[Z6 t.1]]) t.snd.snd.fst
 t.snd.snd.snd t.snd.fst m_8 ∧ μ x101 (IntKind.i64.wrap (x111 + 128)) h3_01 h3_11 (n_51 && false) (s_51 ++ [[Z6 t.1]]) t.snd.snd.fst t.snd.snd.snd t.snd.fst m_8 < μ x10 x11 h3_0 h3_1 n_4 s_4 n_5 s_5 m_6 m_7 else R (PV.ptr [Z6 sz, PV.sl n_4
 false s_4, PV.sl n_5 false s_5])
theorem zha (sz : Int) (za zb : Int) (n f : Bool) (es : LL) (J : Int → Int → Int → Int → Bool → (LL) → Bool → (LL) → (List (PV × PV)) → (List (PV × PV)) → Prop) (μ : Int → Int → Int → Int → Bool → (LL) → Bool → (LL) → (List (PV × PV)) → (List (PV × PV)) → Nat) (J2 : Int → Int → Int → Int → Int → Bool → (LL) → Bool → (LL) → (List (PV × PV)) → (List (PV × PV)) → Int → Int → Int → Int → Int → Bool → (LL) → Bool → (LL) → (List (PV × PV)) → (List (PV × PV)) → Prop) (μ2 : Int → Int → Int → Int → Int → Bool → (LL) → Bool → (LL) → (List (PV × PV)) → (List (PV × PV)) → Nat) (J3 : Int → Int → Int → Int → Int → (List PV) → Bool → (LL) → Bool → (LL) → (List (PV × PV)) → (List (PV × PV)) → Int → Int → Int → Int → Int → (List PV) → Bool → (LL) → Bool → (LL) → (List (PV × PV)) → (List (PV × PV)) → Prop) (μ3 : Int → Int → Int → Int → Int → (List PV) → Bool → (LL) → Bool → (LL) → (List (PV × PV)) → (List (PV × PV)) → Nat) {R : PV → Prop} (h : zcd sz za zb n f es J μ J2 μ2 J3 μ3 R) : PCall Tryz.prog 36 [.int .i64 sz, .agg [.int .i32 za, .int .i32 zb], .sl n f es] R :=
  PCall.of Tryz.func36 (by kernel_rfl) (by kernel_rfl) (Nat.le_of_ble_eq_true (by kernel_rfl)) (Eq.mpr (by kernel_rfl : aFn Tryz.prog (fun zz_ => match zz_ with | 67 => some ⟨Int × List (PV × PV) × Bool × LL, fun _ hs t => (.pv (.int .i64 t.1), match hs with | [m, r, .mp _, ev, ix, .sl a _ _ _] => [m, r, .mp t.2.1, ev, ix, .sl a true t.2.2.1 t.2.2.2] | h => h), none⟩ | 66 => some ⟨Int × List (PV × PV) × List (PV × PV) × Bool × LL, fun _ hs t => (.pv (.int .i64 t.1), match hs with | [m, r, .mp _, .mp _, ix, .sl a _ _ _] => [m, r, .mp t.2.1, .mp t.2.2.1, ix, .sl a true t.2.2.2.1 t.2.2.2.2] | h => h), none⟩ | _ => none) Tryz.f36 [0, 1, 2, 4, 6, 7, 8, 9, 10, 11, 12, 13, 14, 15, 17, 36, 41, 58, 73, 88, 89, 102] (fun zz_ => match zz_ with | 7 => some ⟨Int × Int × Int × Int × Bool × (LL) × Bool × (LL) × (List (PV × PV)) × (List (PV × PV)), fun s => zrf sz za zb n f es s.1 s.2.1 s.2.2.1 s.2.2.2.1 s.2.2.2.2.1 s.2.2.2.2.2.1 s.2.2.2.2.2.2.1 s.2.2.2.2.2.2.2.1 s.2.2.2.2.2.2.2.2.1 s.2.2.2.2.2.2.2.2.2, fun _ s => J s.1 s.2.1 s.2.2.1 s.2.2.2.1 s.2.2.2.2.1 s.2.2.2.2.2.1 s.2.2.2.2.2.2.1 s.2.2.2.2.2.2.2.1 s.2.2.2.2.2.2.2.2.1 s.2.2.2.2.2.2.2.2.2, fun s => μ s.1 s.2.1 s.2.2.1 s.2.2.2.1 s.2.2.2.2.1 s.2.2.2.2.2.1 s.2.2.2.2.2.2.1 s.2.2.2.2.2.2.2.1 s.2.2.2.2.2.2.2.2.1 s.2.2.2.2.2.2.2.2.2, fun e h => (gI e 10, gI e 11, hI h 3 0, hI h 3 1, oN h 4, oS h 4, oN h 5, oS h 5, oM h 6, oM h 7), [(1001001, 3, 1), (1001002, 119, 256)], [0, 2, 4, 7, 8, 9, 10, 11], [], fun p => ∀ (x10 : Int) (x11 : Int) (h3_0 : Int) (h3_1 : Int) (n_4 : Bool) (s_4 : LL) (n_5 : Bool) (s_5 : LL) (m_6 : List (PV × PV)) (m_7 : List (PV × PV)), p (x10, x11, h3_0, h3_1, n_4, s_4, n_5, s_5, m_6, m_7), fun p h s => h s.1 s.2.1 s.2.2.1 s.2.2.2.1 s.2.2.2.2.1 s.2.2.2.2.2.1 s.2.2.2.2.2.2.1 s.2.2.2.2.2.2.2.1 s.2.2.2.2.2.2.2.2.1 s.2.2.2.2.2.2.2.2.2⟩ | 14 => some ⟨Int × Int × Int × Int × Int × Bool × (LL) × Bool × (LL) × (List (PV × PV)) × (List (PV × PV)), fun s => zrg sz za zb n f es s.1 s.2.1 s.2.2.1 s.2.2.2.1 s.2.2.2.2.1 s.2.2.2.2.2.1 s.2.2.2.2.2.2.1 s.2.2.2.2.2.2.2.1 s.2.2.2.2.2.2.2.2.1 s.2.2.2.2.2.2.2.2.2.1 s.2.2.2.2.2.2.2.2.2.2, fun t s => J2 t.1 t.2.1 t.2.2.1 t.2.2.2.1 t.2.2.2.2.1 t.2.2.2.2.2.1 t.2.2.2.2.2.2.1 t.2.2.2.2.2.2.2.1 t.2.2.2.2.2.2.2.2.1 t.2.2.2.2.2.2.2.2.2.1 t.2.2.2.2.2.2.2.2.2.2 s.1 s.2.1 s.2.2.1 s.2.2.2.1 s.2.2.2.2.1 s.2.2.2.2.2.1 s.2.2.2.2.2.2.1 s.2.2.2.2.2.2.2.1 s.2.2.2.2.2.2.2.2.1 s.2.2.2.2.2.2.2.2.2.1 s.2.2.2.2.2.2.2.2.2.2, fun s => μ2 s.1 s.2.1 s.2.2.1 s.2.2.2.1 s.2.2.2.2.1 s.2.2.2.2.2.1 s.2.2.2.2.2.2.1 s.2.2.2.2.2.2.2.1 s.2.2.2.2.2.2.2.2.1 s.2.2.2.2.2.2.2.2.2.1 s.2.2.2.2.2.2.2.2.2.2, fun e h => (gI e 10, gI e 11, gI e 13, hI h 3 0, hI h 3 1, oN h 4, oS h 4, oN h 5, oS h 5, oM h 6, oM h 7), [], [0, 2, 4, 7, 8, 9, 10, 11, 13], [], fun p => ∀ (x10 : Int) (x11 : Int) (x13 : Int) (h3_0 : Int) (h3_1 : Int) (n_4 : Bool) (s_4 : LL) (n_5 : Bool) (s_5 : LL) (m_6 : List (PV × PV)) (m_7 : List (PV × PV)), p (x10, x11, x13, h3_0, h3_1, n_4, s_4, n_5, s_5, m_6, m_7), fun p h s => h s.1 s.2.1 s.2.2.1 s.2.2.2.1 s.2.2.2.2.1 s.2.2.2.2.2.1 s.2.2.2.2.2.2.1 s.2.2.2.2.2.2.2.1 s.2.2.2.2.2.2.2.2.1 s.2.2.2.2.2.2.2.2.2.1 s.2.2.2.2.2.2.2.2.2.2⟩ | 20 => some ⟨Int × Int × Int × Int × Int × (List PV) × Bool × (LL) × Bool × (LL) × (List (PV × PV)) × (List (PV × PV)), fun s => zmw sz za zb n f es s.1 s.2.1 s.2.2.1 s.2.2.2.1 s.2.2.2.2.1 s.2.2.2.2.2.1 s.2.2.2.2.2.2.1 s.2.2.2.2.2.2.2.1 s.2.2.2.2.2.2.2.2.1 s.2.2.2.2.2.2.2.2.2.1 s.2.2.2.2.2.2.2.2.2.2.1 s.2.2.2.2.2.2.2.2.2.2.2, fun t s => J3 t.1 t.2.1 t.2.2.1 t.2.2.2.1 t.2.2.2.2.1 t.2.2.2.2.2.1 t.2.2.2.2.2.2.1 t.2.2.2.2.2.2.2.1 t.2.2.2.2.2.2.2.2.1 t.2.2.2.2.2.2.2.2.2.1 t.2.2.2.2.2.2.2.2.2.2.1 t.2.2.2.2.2.2.2.2.2.2.2 s.1 s.2.1 s.2.2.1 s.2.2.2.1 s.2.2.2.2.1 s.2.2.2.2.2.1 s.2.2.2.2.2.2.1 s.2.2.2.2.2.2.2.1 s.2.2.2.2.2.2.2.2.1 s.2.2.2.2.2.2.2.2.2.1 s.2.2.2.2.2.2.2.2.2.2.1 s.2.2.2.2.2.2.2.2.2.2.2, fun s => μ3 s.1 s.2.1 s.2.2.1 s.2.2.2.1 s.2.2.2.2.1 s.2.2.2.2.2.1 s.2.2.2.2.2.2.1 s.2.2.2.2.2.2.2.1 s.2.2.2.2.2.2.2.2.1 s.2.2.2.2.2.2.2.2.2.1 s.2.2.2.2.2.2.2.2.2.2.1 s.2.2.2.2.2.2.2.2.2.2.2, fun e h => (gI e 10, gI e 11, gI e 88, hI h 3 0, hI h 3 1, oA h 4, oN h 5, oS h 5, oN h 6, oS h 6, oM h 7, oM h 8), [], [0, 2, 4, 7, 8, 9, 10, 11, 14, 88], [], fun p => ∀ (x10 : Int) (x11 : Int) (x88 : Int) (h3_0 : Int) (h3_1 : Int) (c_4 : List PV) (n_5 : Bool) (s_5 : LL) (n_6 : Bool) (s_6 : LL) (m_7 : List (PV × PV)) (m_8 : List (PV × PV)), p (x10, x11, x88, h3_0, h3_1, c_4, n_5, s_5, n_6, s_6, m_7, m_8), fun p h s => h s.1 s.2.1 s.2.2.1 s.2.2.2.1 s.2.2.2.2.1 s.2.2.2.2.2.1 s.2.2.2.2.2.2.1 s.2.2.2.2.2.2.2.1 s.2.2.2.2.2.2.2.2.1 s.2.2.2.2.2.2.2.2.2.1 s.2.2.2.2.2.2.2.2.2.2.1 s.2.2.2.2.2.2.2.2.2.2.2⟩ | _ => none) (Tryz.f36.body.getD .skip) [.int .i64 sz, .agg [.int .i32 za, .int .i32 zb], .sl n f es] R = zcd sz za zb n f es J μ J2 μ2 J3 μ3 R) h)

end Go.Eng



namespace Go.Eng
open Go Go.Proofs Go.Eng.Trie
def encP (v : (Int × Int)) : List PV := [.int .i32 v.1, .int .i32 v.2]
theorem EP : Enc Tryz.prog [21, 21] encP := ⟨fun a => by
  simp only [encP, za5, Bool.and_true]
  rw [show Tryz.prog.underlying 21 = some (.int .i32) by kernel_rfl]
  rfl, fun a b => by
  obtain ⟨a0, a1⟩ := a
  obtain ⟨b0, b1⟩ := b
  simp only [encP, zbv, eqPV, Bool.and_true]
  rw [Bool.eq_iff_iff]
  simp⟩
def pcP (p : Pc (Int × Int)) : List PV := [.int .i64 p.fr, .int .i64 p.to] ++ encP p.v
def pcsP (l : List (Pc (Int × Int))) : List (List PV) := l.map pcP
theorem z2e (p : Pc (Int × Int)) : (pcP p).length = 4 := rfl
theorem zt3 (l : List (Pc (Int × Int))) : (pcsP l).length = l.length := by simp [pcsP]
theorem p107 (n f : Bool) (l : List (Pc (Int × Int))) (z : (Int × Int)) (i last : Int) (hl : l.length < 4611686018427387904) (hok : ∀ p ∈ l, -9223372036854775808 ≤ p.fr - 1 ∧ p.fr - 1 ≤ 9223372036854775807) :
    PCall Tryz.prog 65 [.sl n f (pcsP l), .agg (encP z), .int .i64 i, .int .i64 last] fun v => v = .tup [.agg (encP (findL l z i last).1), .int .i64 (findL l z i last).2] := by
  refine zhs _ _ _ z.1 z.2 _ _ (fun a k _ _ => 0 ≤ k ∧ k ≤ l.length ∧ findL l z i last = findL (l.drop k.toNat) z i a) (fun _ k _ _ => l.length - k.toNat) ?_
  unfold zco
  refine ⟨⟨rfl, Int.le_refl _, by omega, rfl⟩, ?_⟩
  rintro a k _ _ ⟨k0, k1, he⟩
  refine iteD (fun hc => ?_) (fun hc => ?_)
  · simp only [decide_eq_true_eq, zt3] at hc
    have hk : k.toNat < l.length := by omega
    have hw : IntKind.i64.wrap (k + 1) = k + 1 := zaa (by omega) (by omega)
    have hn : (k + 1).toNat = k.toNat + 1 := by omega
    have hg : (pcsP l).getD k.toNat [] = pcP l[k.toNat] := zap hk
    have hix : zam (pcsP l) k 4 := zaj z2e k0 (by omega)
    have hm := hok _ (List.getElem_mem hk)
    rw [zjk hk] at he
    rw [hw]
    dsimp only
    rw [hn]
    have hmu : l.length - (k.toNat + 1) < l.length - k.toNat := by omega
    refine ⟨hix, l[k.toNat].fr, by rw [hg]; rfl, l[k.toNat].to, by rw [hg]; rfl, l[k.toNat].v.1, by rw [hg]; rfl, l[k.toNat].v.2, by rw [hg]; rfl, ?_⟩
    generalize l[k.toNat] = p at *
    have hw2 : IntKind.i64.wrap (p.fr - 1) = p.fr - 1 := zaa hm.1 hm.2
    rw [hw2]
    rw [zkp] at he
    by_cases h1 : p.fr ≤ i
    · refine iteT (by simpa using h1) ?_
      by_cases h2 : i ≤ p.to
      · refine iteT (by simpa using h2) ?_
        rw [if_pos ⟨h1, h2⟩] at he
        rw [he]
        repeat' (first | rfl | apply And.intro)
      · refine iteF (by simpa using h2) ?_
        rw [if_neg (by omega), if_neg (by omega)] at he
        refine iteF (by simp; omega) ?_
        exact ⟨rfl, ⟨by omega, by omega, he⟩, hmu⟩
    · refine iteF (by simpa using h1) ?_
      rw [if_neg (by omega)] at he
      refine iteT (by simp; omega) ?_
      by_cases h3 : p.fr ≤ a
      · refine iteT (by simpa using h3) ?_
        rw [if_pos (by omega)] at he
        exact ⟨rfl, ⟨by omega, by omega, he⟩, hmu⟩
      · refine iteF (by simpa using h3) ?_
        rw [if_neg (by omega)] at he
        exact ⟨rfl, ⟨by omega, by omega, he⟩, hmu⟩
  · simp only [decide_eq_true_eq, zt3] at hc
    rw [List.drop_of_length_le (by omega)] at he
    rw [he]; rfl
def TrieP (sz : Int) (F : Int → (Int × Int)) (v : PV) : Prop := ∃ n f n2 f2 idx blk, v = .ptr [.int .i64 sz, .sl n f (ixs idx), .sl n2 f2 (bks encP blk)] ∧ TOK sz F idx blk
theorem p84 {sz : Int} {F : Int → (Int × Int)} {t : PV} (ht : TrieP sz F t) (i : Int) (h1 : sz ≤ 1114112) : PCall Tryz.prog 37 [t, .int .i64 i] fun v => v = .agg (encP (if 0 ≤ i ∧ i < sz then F i else (0, 0))) := by
  obtain ⟨n, f, n2, f2, idx, blk, rfl, ht⟩ := ht
  refine zfq _ _ _ _ _ _ _ _ ?_
  unfold zbr
  refine iteD (fun hc => ?_) (fun hc => ?_)
  · simp only [decide_eq_true_eq] at hc
    rw [if_neg (by omega)]; rfl
  · simp only [decide_eq_true_eq] at hc
    refine ⟨_, rfl, ?_⟩
    refine iteD (fun hc2 => ?_) (fun hc2 => ?_)
    · simp only [decide_eq_true_eq, ge_iff_le] at hc2
      rw [if_neg (by omega)]; rfl
    · simp only [decide_eq_true_eq, ge_iff_le] at hc2
      rw [if_pos (by omega)]
      obtain ⟨hq, g0, hk, hj, he⟩ := ht.get (i := i) (by omega) (by omega)
      have hw : IntKind.i64.wrap (i.tdiv 128) = i / 128 := by rw [Int.tdiv_eq_ediv_of_nonneg (by omega)]; exact zaa (by omega) (by omega)
      have hm : i.tmod 128 = i % 128 := Int.tmod_eq_emod_of_nonneg (by omega)
      have hg : (ixs idx).getD (i / 128).toNat [] = [.int .i64 idx[(i / 128).toNat]] := zap hq
      have hg2 : (bks encP blk).getD idx[(i / 128).toNat].toNat [] = cells encP blk[idx[(i / 128).toNat].toNat] := zap hk
      refine ⟨_, _, _, rfl, _, _, _, rfl, ?_⟩
      rw [hw]
      have := EP.at _ _ hj
      simp only [List.length_cons, List.length_nil, Nat.zero_add, Nat.reduceAdd] at this
      have hcell : List.drop ((i % 128).toNat * 2) ((bks encP blk).getD idx[(i / 128).toNat].toNat []) = encP (F i) ++ (List.drop ((i % 128).toNat + 1) (blk[idx[(i / 128).toNat].toNat]).1).flatMap encP := by
        rw [hg2]; unfold cells; rw [this, he]
      refine ⟨zaj zf8 (by omega) (by omega), idx[(i / 128).toNat], by rw [hg]; rfl, zaj (EP.cells_len) g0 (by omega), by rw [hm]; omega, ?_⟩
      rw [hm, hcell]
      exact ⟨(F i).1, rfl, (F i).2, rfl, rfl⟩
def cP (b : Blk (Int × Int)) : List PV := cells encP b
def kvP (k : Int) : PV := .int .i64 k
def mkP (kn : List (Blk (Int × Int) × Int)) : List (PV × PV) := encM (fun b => .agg (cP b)) kvP kn
def meP (ev : List ((Int × Int) × Int)) : List (PV × PV) := encM (fun v => .agg (encP v)) kvP ev
def hpP (sz : Int) (kn : List (Blk (Int × Int) × Int)) (ev : List ((Int × Int) × Int)) (ixm ixn bkm bkn : Bool) (idx : List Int) (blk : List (Blk (Int × Int))) : Hp :=
  [.box [.box 1 0, .mp 2, .mp 3], .box [.pv (.int .i64 sz), .own 4, .own 5], .mp (mkP kn), .mp (meP ev), .sl (3, 1) ixm ixn (ixs idx), .sl (119, 256) bkm bkn (bks encP blk)]
theorem zmx (b : Blk (Int × Int)) : (cP b).length = 256 := EP.cells_len b
theorem zxh (b : Blk (Int × Int)) : List.take 256 (List.drop 0 (cP b)) = cP b := by rw [List.drop_zero, List.take_of_length_le (by rw [zmx]; omega)]
theorem z3v : zck Tryz.prog 119 = true := by kernel_rfl
theorem z3w : zfe Tryz.prog 119 = (List.replicate 128 [21, 21]).flatten := by kernel_rfl
theorem z2f : zck Tryz.prog 63 = true := by kernel_rfl
theorem z2g : zfe Tryz.prog 63 = [21, 21] := by kernel_rfl
theorem getP (b : Blk (Int × Int)) (kn : List (Blk (Int × Int) × Int)) : zbc (.agg (cP b)) (mkP kn) = (aget b kn).map kvP := zdp (ek := fun b => PV.agg (cP b)) (ev := kvP) EP.blkEq b kn
theorem setP (b : Blk (Int × Int)) (k : Int) (kn : List (Blk (Int × Int) × Int)) : zai (.agg (cP b)) (kvP k) (mkP kn) = mkP (aset b k kn) := zb2 (ek := fun b => PV.agg (cP b)) (ev := kvP) EP.blkEq b k kn
theorem okBP (b : Blk (Int × Int)) : za1 Tryz.prog 119 (.agg (cP b)) = true := EP.blkOk z3v z3w b
theorem z3x (kn : List (Blk (Int × Int) × Int)) : zbk Tryz.prog 119 (mkP kn) := EP.blksOk z3v z3w kn
theorem p109 {sz : Int} {F : Int → (Int × Int)} {idx : List Int} {blk : List (Blk (Int × Int))} {kn : List (Blk (Int × Int) × Int)} {ev : List ((Int × Int) × Int)} (hk : TInv sz F idx blk kn ev) (hb : blk.length ≤ 10000000) (ixn bkn : Bool) (b : Blk (Int × Int)) :
    ACall Tryz.prog 67 [.box 0 0, .pv (.agg (cP b))] (hpP sz kn ev false ixn false bkn idx blk) fun r h' => ∃ k kn' bn' blk', r = .pv (kvP k) ∧ h' = hpP sz kn' ev false ixn true bn' idx blk' ∧ TInv sz F idx blk' kn' ev ∧ 0 ≤ k ∧ blk'[k.toNat]? = some b ∧ blk'.length ≤ blk.length + 1 := by
  refine ACall.mark 1000 [5] (R := fun r h' => ∃ k kn' bm' bn' blk', r = .pv (kvP k) ∧ h' = hpP sz kn' ev false ixn bm' bn' idx blk' ∧ TInv sz F idx blk' kn' ev ∧ 0 ≤ k ∧ blk'[k.toNat]? = some b ∧ blk'.length ≤ blk.length + 1) ?_ ?_
  · refine ze5 _ _ _ _ _ _ _ _ _ _ ?_
    unfold zbg
    rw [zxh, getP]
    have h128 : 256 ≤ (List.drop 0 (cP b)).length := by rw [List.drop_zero, zmx]; omega
    refine ⟨h128, z3x kn, okBP b, fun v hv => ?_, fun hv => ?_⟩
    · cases hg : aget b kn with
      | none => rw [hg] at hv; cases hv
      | some k =>
        rw [hg] at hv; cases hv
        obtain ⟨k0, k1⟩ := hk.kn_ok b k hg
        exact ⟨k, rfl, k, kn, false, bkn, blk, rfl, rfl, hk, k0, k1, by omega⟩
    · have hsz : szOK [cP b] 256 ∧ ((bks encP blk).length + 1) * 1024 ≤ 140737488355328 := ⟨fun e he => by simp at he; subst he; exact zmx b, by rw [zf9]; omega⟩
      have fin : ∃ k kn' bm' bn' blk', LV.pv (.int .i64 ((bks encP blk).length : Int)) = .pv (kvP k) ∧
          [Ob.box [.box 1 0, .mp 2, .mp 3], .box [.pv (.int .i64 sz), .own 4, .own 5], .mp (zai (.agg (cP b)) (.int .i64 ((bks encP blk).length : Int)) (mkP kn)), .mp (meP ev), .sl (3, 1) false ixn (ixs idx), .sl (119, 256) true (bkn && false) (bks encP blk ++ [cP b])] = hpP sz kn' ev false ixn bm' bn' idx blk' ∧ TInv sz F idx blk' kn' ev ∧ 0 ≤ k ∧ blk'[k.toNat]? = some b ∧ blk'.length ≤ blk.length + 1 := by
        refine ⟨blk.length, aset b (blk.length : Int) kn, true, bkn && false, blk ++ [b], by rw [zf9]; rfl, ?_, hk.place b, by omega, by simp, by simp⟩
        have := setP b (blk.length : Int) kn
        unfold kvP at this
        rw [zf9, this]
        simp [hpP, bks, cP]
      exact ⟨h128, z3x kn, okBP b, h128, ⟨zmx b, hsz, fin⟩, zmx b, ⟨hsz, fin⟩, hsz, fin⟩
  · rintro r h' ⟨k, kn', bm', bn', blk', rfl, rfl, h1, h2, h3, h4⟩
    exact ⟨k, kn', bn', blk', rfl, rfl, h1, h2, h3, h4⟩
theorem z4r (v : (Int × Int)) (ev : List ((Int × Int) × Int)) : zbc (.agg (encP v)) (meP ev) = (aget v ev).map kvP := zdp (ek := fun v => PV.agg (encP v)) (ev := kvP) EP.valEq v ev
theorem z4s (v : (Int × Int)) (k : Int) (ev : List ((Int × Int) × Int)) : zai (.agg (encP v)) (kvP k) (meP ev) = meP (aset v k ev) := zb2 (ek := fun v => PV.agg (encP v)) (ev := kvP) EP.valEq v k ev
theorem okEP (v : (Int × Int)) : za1 Tryz.prog 63 (.agg (encP v)) = true := EP.valOk z2f z2g v
theorem z3y (ev : List ((Int × Int) × Int)) : zbk Tryz.prog 63 (meP ev) := EP.valsOk z2f z2g ev
theorem putP (l : List (Int × Int)) (j : Nat) (hj : j < l.length) (v : (Int × Int)) : spl (l.flatMap encP) (0 + j * 2) (encP v) = (l.set j v).flatMap encP := by
  have := EP.put l j hj v
  simp only [List.length_cons, List.length_nil, Nat.zero_add, Nat.reduceAdd] at this ⊢
  exact this
theorem z2h (l : List (Int × Int)) : (l.flatMap encP).length = l.length * 2 := EP.flen l
theorem z0t : List.replicate 256 (PV.int .i32 0) = (List.replicate 128 ((0, 0) : (Int × Int))).flatMap encP := by rfl
theorem z2i {l : List (Int × Int)} {v : (Int × Int)} (hl : l.length = 128) (h : ∀ q, q < 128 → l[q]? = some v) : l = List.replicate 128 v := by
  refine List.ext_getElem? fun q => ?_
  rcases Nat.lt_or_ge q 128 with hq | hq
  · rw [h q hq, List.getElem?_replicate, if_pos hq]
  · rw [List.getElem?_eq_none (by omega), List.getElem?_eq_none (by simp; omega)]
theorem p108 {sz : Int} {F : Int → (Int × Int)} {idx : List Int} {blk : List (Blk (Int × Int))} {kn : List (Blk (Int × Int) × Int)} {ev : List ((Int × Int) × Int)} (hk : TInv sz F idx blk kn ev) (hb : blk.length ≤ 10000000) (ixn bkn : Bool) (v : (Int × Int)) :
    ACall Tryz.prog 66 [.box 0 0, .pv (.agg (encP v))] (hpP sz kn ev false ixn false bkn idx blk) fun r h' => ∃ k kn' ev' bn' blk', r = .pv (kvP k) ∧ h' = hpP sz kn' ev' false ixn true bn' idx blk' ∧ TInv sz F idx blk' kn' ev' ∧ 0 ≤ k ∧ blk'[k.toNat]? = some (rep v) ∧ blk'.length ≤ blk.length + 1 := by
  refine ACall.mark 1000 [5] (R := fun r h' => ∃ k kn' ev' bm' bn' blk', r = .pv (kvP k) ∧ h' = hpP sz kn' ev' false ixn bm' bn' idx blk' ∧ TInv sz F idx blk' kn' ev' ∧ 0 ≤ k ∧ blk'[k.toNat]? = some (rep v) ∧ blk'.length ≤ blk.length + 1) ?_ ?_
  · refine ze6 _ _ _ _ _ _ _ _ _ v.1 v.2 (fun x m2 m3 c => 0 ≤ x ∧ x ≤ 128 ∧ m2 = mkP kn ∧ m3 = meP ev ∧ ∃ l : List (Int × Int), l.length = 128 ∧ c = l.flatMap encP ∧ ∀ q, q < x.toNat → l[q]? = some v) (fun x _ _ _ => 128 - x.toNat) ?_
    unfold zbh
    rw [show [.int .i32 v.1, .int .i32 v.2] = encP v from rfl, z4r]
    refine ⟨z3y ev, okEP v, fun u hu => ?_, fun hu => ⟨⟨rfl, Int.le_refl _, by omega, rfl, rfl, List.replicate 128 (0, 0), by simp, z0t, fun q hq => by simp at hq⟩, ?_⟩⟩
    · cases hg : aget v ev with
      | none => rw [hg] at hu; cases hu
      | some k =>
        rw [hg] at hu; cases hu
        obtain ⟨k0, k1⟩ := hk.ev_ok v k hg
        exact ⟨k, rfl, k, kn, ev, false, bkn, blk, rfl, rfl, hk, k0, k1, by omega⟩
    · rintro x _ _ _ ⟨x0, x1, rfl, rfl, l, hl, rfl, hq⟩
      refine iteD (fun hc => ?_) (fun hc => ?_)
      · simp only [decide_eq_true_eq] at hc
        have hw : IntKind.i64.wrap (x + 1) = x + 1 := zaa (by omega) (by omega)
        have hn : (x + 1).toNat = x.toNat + 1 := by omega
        rw [putP l x.toNat (by omega) v, hw, z2h]
        refine ⟨⟨x0, hc⟩, ⟨rfl, by omega⟩, rfl, ⟨by omega, by omega, rfl, rfl, l.set x.toNat v, by simpa using hl, rfl, fun q hq' => ?_⟩, by dsimp only; omega⟩
        rw [hn] at hq'
        rw [List.getElem?_set]
        by_cases e : x.toNat = q
        · rw [if_pos e, if_pos (by omega)]
        · rw [if_neg e]; exact hq q (by omega)
      · simp only [decide_eq_true_eq] at hc
        have hx : x = 128 := by omega
        subst hx
        have hrep := z2i hl hq
        subst hrep
        have hcI : (List.replicate 128 v).flatMap encP = cP (rep v) := rfl
        rw [hcI, zxh]
        refine ⟨by rw [List.drop_zero, zmx]; omega, ?_⟩
        refine (p109 hk hb ixn bkn (rep v)).mono ?_
        rintro _ _ ⟨k, kn', bn', blk', rfl, rfl, h1, h2, h3, h4⟩
        refine ⟨(k, mkP kn', bn', bks encP blk'), ⟨rfl, rfl⟩, ⟨trivial, ⟨rfl, rfl, rfl⟩, trivial, trivial, trivial, trivial, trivial⟩, z3y ev, okEP v, ?_⟩
        have := z4s v k ev
        unfold kvP at this
        simp only [this]
        exact ⟨k, kn', aset v k ev, _, bn', blk', rfl, rfl, h1.even h2 h3, h2, h3, h4⟩
  · rintro r h' ⟨k, kn', ev', bm', bn', blk', rfl, rfl, h1, h2, h3, h4⟩
    exact ⟨k, kn', ev', bn', blk', rfl, rfl, h1, h2, h3, h4⟩
theorem zzs {v : (Int × Int)} {j : Nat} {u : (Int × Int)} (h : (Trie.rep v).1[j]? = some u) : u = v ∧ j < 128 := by
  simp only [Trie.rep, List.getElem?_replicate] at h
  split at h
  · rename_i hj; cases h; exact ⟨rfl, hj⟩
  · cases h
theorem p83 (sz : Int) (z : (Int × Int)) (n f : Bool) (l : List (Pc (Int × Int))) (hl : l.length < 4611686018427387904) (hok : ∀ p ∈ l, -9223372036854775808 ≤ p.fr - 1 ∧ p.fr - 1 ≤ 9223372036854775807) (hs1 : 1 ≤ sz) (hs2 : sz ≤ 1114112) :
    PCall Tryz.prog 36 [.int .i64 sz, .agg (encP z), .sl n f (pcsP l)] fun v => TrieP sz (valL l z) v := by
  have hF := fun i => zjp l z i (sz - 1)
  generalize hFF : valL l z = F at *
  refine zha _ z.1 z.2 _ _ _
    (fun x10 x11 va vb _ s2 _ s3 m4 m5 => ∃ idx blk kn ev, s2 = ixs idx ∧ s3 = bks encP blk ∧ m4 = mkP kn ∧ m5 = meP ev ∧ TInv sz F idx blk kn ev ∧ x11 = 128 * idx.length ∧ blk.length ≤ idx.length ∧ x11 < sz + 128 ∧ (∀ j, x11 ≤ j → j ≤ x10 → F j = (va, vb)) ∧ x10 ≤ sz - 1)
    (fun _ x11 _ _ _ _ _ _ _ _ => (sz + 128 - x11).toNat)
    (fun _ y11 _ _ _ _ _ _ _ _ _ x10 x11 x13 va vb _ s2 _ s3 m4 m5 => ∃ idx blk kn ev, s2 = ixs idx ∧ s3 = bks encP blk ∧ m4 = mkP kn ∧ m5 = meP ev ∧ TInv sz F idx blk kn ev ∧ x11 = 128 * idx.length ∧ x11 < sz + 128 ∧ (∀ j, x11 ≤ j → j ≤ x10 → F j = (va, vb)) ∧ x10 ≤ sz - 1 ∧ 0 ≤ x13 ∧ blk[x13.toNat]? = some (rep (va, vb)) ∧
      ((x11 = y11 ∧ x11 < sz ∧ (x11 + 127 ≤ x10 ∨ sz - 1 ≤ x10) ∧ blk.length ≤ idx.length + 1) ∨ (y11 + 128 ≤ x11 ∧ blk.length ≤ idx.length)))
    (fun _ x11 _ _ _ _ _ _ _ _ _ => (sz + 128 - x11).toNat)
    (fun _ y11 _ _ _ _ _ _ _ _ _ _ x10 x11 x va vb c _ s3 _ s4 m5 m6 => ∃ idx blk kn ev, s3 = ixs idx ∧ s4 = bks encP blk ∧ m5 = mkP kn ∧ m6 = meP ev ∧ TInv sz F idx blk kn ev ∧ x11 = 128 * idx.length ∧ blk.length ≤ idx.length ∧ x11 = y11 ∧ x11 < sz ∧ 0 ≤ x ∧ x ≤ 128 ∧ x10 ≤ sz - 1 ∧ (∀ j, x11 + x ≤ j → j ≤ x10 → F j = (va, vb)) ∧
      ∃ b : List (Int × Int), b.length = 128 ∧ c = b.flatMap encP ∧ ∀ (q : Nat) u, b[q]? = some u → q < x.toNat → x11 + q < sz → u = F (x11 + q))
    (fun _ _ x _ _ _ _ _ _ _ _ _ => (128 - x).toNat) ?_
  unfold zcd
  have hw1 : IntKind.i64.wrap (sz - 1) = sz - 1 := zaa (by omega) (by omega)
  rw [hw1]
  refine iteF (by simp; omega) ?_
  refine (p107 n f l z 0 (sz - 1) hl hok).mono ?_
  rintro _ rfl
  obtain ⟨_, f2, f3, f4⟩ := hF 0 (by omega)
  refine ⟨_, rfl, rfl, _, rfl, _, rfl, rfl, _, rfl, _, rfl, _, rfl, _, rfl, ⟨rfl, [], [], [], [], rfl, rfl, rfl, rfl, TInv.nil, rfl, Nat.le_refl _, by omega, f4, f3⟩, ?_⟩
  clear f2 f3 f4
  rintro u0 x v0a v0b _ _ _ _ _ _ ⟨idx, blk, kn, ev, rfl, rfl, rfl, rfl, hk, hx, hb, hx2, hv0, hu0⟩
  refine iteD (fun hc => ?_) (fun hc => ?_)
  · simp only [decide_eq_true_eq] at hc
    have hw2 : IntKind.i64.wrap (x + 128) = x + 128 := zaa (by omega) (by omega)
    rw [hw2]
    have hmin : ∀ a : Int, IntKind.i64.wrap ((if sz < a + 128 then sz else a + 128) - 1) = (if sz < a + 128 then sz else a + 128) - 1 ∨ ¬ (0 ≤ a ∧ a ≤ 1114112) := fun a => by
      by_cases ha : 0 ≤ a ∧ a ≤ 1114112
      · left; split <;> exact zaa (by omega) (by omega)
      · exact .inr ha
    have hmx := (hmin x).resolve_right (by omega)
    rw [hmx]
    refine iteD (fun hgt => ?ga) (fun hgt => ?gb)
    case' ga =>
      refine (p107 n f l z x (sz - 1) hl hok).mono ?_
      rintro _ rfl
      obtain ⟨_, hux, hu, hv⟩ := hF x (by omega)
      refine ⟨_, rfl, rfl, _, rfl, _, rfl, rfl, _, rfl, _, rfl, _, rfl, _, rfl, ?_⟩
      revert hv hu
      generalize (findL l z x (sz - 1)).1 = v
      generalize (findL l z x (sz - 1)).2 = u
      clear hv0 hu0 hux
      intro hu hv
    case' gb =>
      obtain ⟨v, rfl, rfl⟩ : ∃ v : (Int × Int), v.1 = v0a ∧ v.2 = v0b := ⟨(v0a, v0b), rfl, rfl⟩
      revert hv0 hu0 hgt
      generalize u0 = u
      intro hu hgt hv
    all_goals
      clear hgt
      refine iteD (fun hc2 => ?_) (fun hc2 => ?_)
      · simp only [decide_eq_true_eq, ge_iff_le] at hc2
        have hc3 : x + 127 ≤ u ∨ sz - 1 ≤ u := by split at hc2 <;> omega
        refine (p108 hk (by omega) _ _ v).mono ?_
        rintro _ _ ⟨k, kn', ev', bn', blk', rfl, rfl, g1, g2, g3, g4⟩
        refine ⟨(k, mkP kn', meP ev', bn', bks encP blk'), ⟨rfl, rfl⟩, ⟨trivial, ⟨rfl, rfl, rfl⟩, trivial, trivial, trivial, trivial, trivial⟩, ⟨rfl, idx, blk', kn', ev', rfl, rfl, rfl, rfl, g1, hx, hx2, hv, hu, g2, g3, .inl ⟨rfl, hc, hc3, by omega⟩⟩, ?_⟩
        rintro t y k' wa wb _ _ _ _ _ _ ⟨idx2, blk2, kn2, ev2, rfl, rfl, rfl, rfl, hk2, hy, hy2, hw, ht, hk0, hkb, hor⟩
        have hwy : IntKind.i64.wrap (y + 128) = y + 128 := zaa (by omega) (by omega)
        rw [hwy, (hmin y).resolve_right (by omega)]
        refine iteD (fun hc4 => ?_) (fun hc4 => ?_)
        · simp only [Bool.and_eq_true, decide_eq_true_eq, ge_iff_le] at hc4
          have hc5 : y + 127 ≤ t ∨ sz - 1 ≤ t := by have := hc4.2; split at this <;> omega
          refine ⟨⟨fun e he => by simp at he; subst he; rfl, by rw [zfj]; omega⟩, rfl, ⟨idx2 ++ [k'], blk2, kn2, ev2, by simp [ixs], rfl, rfl, rfl, hk2.push hk0 hkb fun j u' hj hlt => ?_, by simp; omega, by omega, fun j h1 h2 => hw j (by omega) h2, ht, hk0, hkb, .inr ⟨by omega, by simp; omega⟩⟩, by dsimp only; omega⟩
          obtain ⟨rfl, hj2⟩ := zzs hj
          exact (hw _ (by omega) (by omega)).symm
        · have hw128 : IntKind.i64.wrap (y - 128) = y - 128 := zaa (by omega) (by omega)
          have hback : IntKind.i64.wrap (y - 128 + 128) = y := by rw [zaa (by omega) (by omega)]; omega
          rw [hw128, hback]
          simp only [Bool.and_eq_true, decide_eq_true_eq, ge_iff_le, not_and] at hc4
          have hor2 : x + 128 ≤ y ∧ blk2.length ≤ idx2.length := by
            rcases hor with ⟨h1, h2, h3, h4⟩ | h
            · exfalso
              have := hc4 h2
              split at this <;> omega
            · exact h
          exact ⟨rfl, ⟨idx2, blk2, kn2, ev2, rfl, rfl, rfl, rfl, hk2, hy, hor2.2, hy2, hw, ht⟩, by dsimp only; omega⟩
      · clear hc2
        refine ⟨⟨rfl, idx, blk, kn, ev, rfl, rfl, rfl, rfl, hk, hx, hb, rfl, hc, Int.le_refl _, by omega, hu, fun j h1 h2 => hv j (by omega) h2, List.replicate 128 (0, 0), by simp, z0t, fun q u' _ hq _ => by simp at hq⟩, ?_⟩
        rintro t y i wa wb _ _ _ _ _ _ _ ⟨idx2, blk2, kn2, ev2, rfl, rfl, rfl, rfl, hk2, hy, hb2, hyx, hy2, i0, i1, ht, hw, b, hbl, rfl, hbq⟩
        obtain ⟨w, rfl, rfl⟩ : ∃ v : (Int × Int), v.1 = wa ∧ v.2 = wb := ⟨(wa, wb), rfl, rfl⟩
        have hwyi : IntKind.i64.wrap (y + i) = y + i := zaa (by omega) (by omega)
        have hwi : IntKind.i64.wrap (i + 1) = i + 1 := zaa (by omega) (by omega)
        have hwy : IntKind.i64.wrap (y + 128) = y + 128 := zaa (by omega) (by omega)
        rw [hwyi, hwi, hwy]
        have step : ∀ (v' : (Int × Int)) (u' : Int), (∀ j, y + i ≤ j → j ≤ u' → F j = v') → u' ≤ sz - 1 → (y + i < sz → F (y + i) = v') → i < 128 →
            ∃ idx blk kn ev, ixs idx2 = ixs idx ∧ bks encP blk2 = bks encP blk ∧ mkP kn2 = mkP kn ∧ meP ev2 = meP ev ∧ TInv sz F idx blk kn ev ∧ y = 128 * idx.length ∧ blk.length ≤ idx.length ∧ y = x ∧ y < sz ∧ 0 ≤ i + 1 ∧ i + 1 ≤ 128 ∧ u' ≤ sz - 1 ∧ (∀ j, y + (i + 1) ≤ j → j ≤ u' → F j = v') ∧
              ∃ c : List (Int × Int), c.length = 128 ∧ (b.set i.toNat v').flatMap encP = c.flatMap encP ∧ ∀ (q : Nat) u, c[q]? = some u → q < (i + 1).toNat → y + q < sz → u = F (y + q) := fun v' u' h1 h2 h3 h4 => by
          refine ⟨idx2, blk2, kn2, ev2, rfl, rfl, rfl, rfl, hk2, hy, hb2, hyx, hy2, by omega, by omega, h2, fun j a1 a2 => h1 j (by omega) a2, b.set i.toNat v', by simpa using hbl, rfl, fun q u hq hq2 hq3 => ?_⟩
          rw [List.getElem?_set] at hq
          by_cases e : i.toNat = q
          · rw [if_pos e, if_pos (by omega)] at hq
            cases hq
            have e2 : y + (q : Int) = y + i := by omega
            rw [e2]
            exact (h3 (by omega)).symm
          · rw [if_neg e] at hq
            exact hbq q u hq (by omega) hq3
        refine iteD (fun hc5 => ?_) (fun hc5 => ?_)
        · simp only [decide_eq_true_eq] at hc5
          refine iteD (fun hc6 => ?_) (fun hc6 => ?_)
          · simp only [Bool.and_eq_true, decide_eq_true_eq, gt_iff_lt] at hc6
            refine (p107 n f l z (y + i) (sz - 1) hl hok).mono ?_
            rintro _ rfl
            obtain ⟨q1, q2, q3, q4⟩ := hF (y + i) (by omega)
            refine ⟨_, rfl, rfl, _, rfl, _, rfl, rfl, _, rfl, _, rfl, _, rfl, _, rfl, ⟨i0, hc5⟩, ⟨rfl, by rw [z2h]; omega⟩, rfl, ?_, by dsimp only; omega⟩
            have hput := putP b i.toNat (by omega) (findL l z (y + i) (sz - 1)).1
            unfold encP at hput ⊢
            rw [hput]
            exact step _ _ q4 q3 (fun _ => q1.symm) hc5
          · simp only [Bool.and_eq_true, decide_eq_true_eq, gt_iff_lt, not_and] at hc6
            refine ⟨⟨i0, hc5⟩, ⟨rfl, by rw [z2h]; omega⟩, rfl, ?_, by dsimp only; omega⟩
            have hput := putP b i.toNat (by omega) w
            unfold encP at hput ⊢
            rw [hput]
            exact step _ _ hw ht (fun h => hw _ (Int.le_refl _) ((Int.lt_or_le t (y + i)).elim (fun h2 => absurd h (hc6 h2)) id)) hc5
        · simp only [decide_eq_true_eq] at hc5
          have hi : i = 128 := by omega
          subst hi
          obtain ⟨B, hB⟩ : ∃ B : Blk (Int × Int), B.1 = b := ⟨⟨b, hbl⟩, rfl⟩
          subst hB
          have hcI : B.1.flatMap encP = cP B := rfl
          rw [hcI, zxh]
          refine ⟨by rw [List.drop_zero, zmx]; omega, (fun h => ⟨h, h⟩) ?_⟩
          refine (p109 hk2 (by omega) _ _ B).mono ?_
          rintro _ _ ⟨k, kn', bn', blk', rfl, rfl, h1, h2, h3, h4⟩
          refine ⟨(k, mkP kn', bn', bks encP blk'), ⟨rfl, rfl⟩, ⟨trivial, ⟨rfl, rfl, rfl⟩, trivial, trivial, trivial, trivial, trivial⟩, ⟨fun e he => by simp at he; subst he; rfl, by rw [zfj]; omega⟩, rfl, ⟨idx2 ++ [k], blk', kn', ev2, by simp [ixs, kvP], rfl, rfl, rfl, h1.push h2 h3 fun j u' hj hlt => ?_, by simp; omega, by simp; omega, by omega, fun j a1 a2 => hw j (by omega) a2, ht⟩, by dsimp only; omega⟩
          have hj2 : j < 128 := by have := (List.getElem?_eq_some_iff.1 hj).1; simp only [hbl] at this; exact this
          rw [← hy]
          exact hbq j u' hj (by omega) (by omega)
  · simp only [decide_eq_true_eq] at hc
    exact ⟨_, _, _, _, idx, blk, rfl, by omega, hk.idx_ok⟩
end Go.Eng



namespace Go.Eng
open Go Go.Proofs Go.Eng.Rows Go.Eng.Trie
theorem TrieI.congr {sz : Int} {F G : Int → Int} {v : PV} (h : TrieI sz F v) (hFG : ∀ i, 0 ≤ i → i < sz → F i = G i) : TrieI sz G v := by
  obtain ⟨n, f, n2, f2, idx, blk, rfl, h1, h2⟩ := h
  refine ⟨n, f, n2, f2, idx, blk, rfl, h1, fun q k hq => ?_⟩
  obtain ⟨k0, b, hb, hv⟩ := h2 q k hq
  exact ⟨k0, b, hb, fun j u hj hlt => by rw [← hFG _ (by omega) hlt]; exact hv j u hj hlt⟩
theorem TrieP.congr {sz : Int} {F G : Int → Int × Int} {v : PV} (h : TrieP sz F v) (hFG : ∀ i, 0 ≤ i → i < sz → F i = G i) : TrieP sz G v := by
  obtain ⟨n, f, n2, f2, idx, blk, rfl, h1, h2⟩ := h
  refine ⟨n, f, n2, f2, idx, blk, rfl, h1, fun q k hq => ?_⟩
  obtain ⟨k0, b, hb, hv⟩ := h2 q k hq
  exact ⟨k0, b, hb, fun j u hj hlt => by rw [← hFG _ (by omega) hlt]; exact hv j u hj hlt⟩
theorem TrieF.congr {sz : Int} {F G : Int → Fl} {v : PV} (h : TrieF sz F v) (hFG : ∀ i, 0 ≤ i → i < sz → F i = G i) : TrieF sz G v := by
  obtain ⟨n, f, n2, f2, idx, blk, rfl, h1, h2⟩ := h
  refine ⟨n, f, n2, f2, idx, blk, rfl, h1, fun q k hq => ?_⟩
  obtain ⟨k0, b, hb, hv⟩ := h2 q k hq
  exact ⟨k0, b, hb, fun j u hj hlt => by rw [← hFG _ (by omega) hlt]; exact hv j u hj hlt⟩
def toI (s : Sp) : Pc Int := ⟨s.fr, s.to, s.a⟩
theorem zps (n f : Bool) (rows : List Row) (k : Int) (hl : rows.length < 1000000) : PCall Tryz.prog 33 [.sl n f (rws rows), .int .i64 k] fun v => TrieI 1114112 (numG rows k) v := by
  have hg := zf6 k rows
  have hlen := hg.len
  refine zpi _ _ _ _ (fun _ _ s10 x11 x12 m s => s10 = sps (ofL k rows) ∧ x11 = (ofL k rows).length ∧ 0 ≤ x12 ∧ x12 ≤ x11 ∧ s = pcsI (((ofL k rows).take x12.toNat).map toI)) (fun _ _ _ x11 x12 _ _ => (x11 - x12).toNat) ?_
  unfold zf1
  refine (p29 _ _ rows k (by omega)).mono ?_
  rintro _ ⟨n1, f1, rfl⟩
  refine ⟨_, _, _, rfl, ⟨rfl, rfl, by rw [zcn], Int.le_refl _, by rw [zcn]; omega, rfl⟩, ?_⟩
  rintro _ _ _ x11 i m _ ⟨rfl, rfl, i0, i1, rfl⟩
  refine iteD (fun hc => ?_) (fun hc => ?_)
  · simp only [decide_eq_true_eq] at hc
    have hi : i.toNat < (ofL k rows).length := by omega
    have hw : IntKind.i64.wrap (i + 1) = i + 1 := zaa (by omega) (by omega)
    have hn : (i + 1).toNat = i.toNat + 1 := by omega
    have hgd : (sps (ofL k rows)).getD i.toNat [] = encS (ofL k rows)[i.toNat] := zap hi
    have hix : zam (sps (ofL k rows)) i 4 := zaj zcw i0 (by omega)
    refine ⟨hix, (ofL k rows)[i.toNat].fr, by rw [hgd]; rfl, (ofL k rows)[i.toNat].to, by rw [hgd]; rfl, (ofL k rows)[i.toNat].a, by rw [hgd]; rfl, (ofL k rows)[i.toNat].b, by rw [hgd]; rfl, ⟨fun e he => by simp at he; subst he; rfl, by simp [pcsI]; omega⟩, rfl, ?_⟩
    rw [hw]
    refine ⟨⟨rfl, rfl, by omega, by omega, ?_⟩, by dsimp only; omega⟩
    rw [hn, zas hi, List.map_append]
    unfold pcsI
    rw [List.map_append]
    rfl
  · simp only [decide_eq_true_eq] at hc
    rw [List.take_of_length_le (by omega)]
    refine (p103 1114112 0 _ _ _ (by simp; omega) (fun p hp => ?_) (by omega) (by omega)).mono fun v hv => hv.congr fun i h0 h1 => zzo rows k i
    obtain ⟨s, hs, rfl⟩ := List.mem_map.1 hp
    have := hg.2 s hs
    exact ⟨by simp only [toI]; omega, by simp only [toI]; omega⟩

def cutA (ll : List (Bool × Bool × List Sp)) : List (List PV) := ll.map fun x => [.sl x.1 x.2.1 (sps x.2.2)]
abbrev encJ (M : List (Int × Bool)) : List (PV × PV) := encM (fun n => .int .i64 n) (fun b => .bool b) M
def zee (ll : List (Bool × Bool × List Sp)) : List Sp := (ll.map (·.2.2)).flatten
def zkq (l : List Sp) : List Int := l.flatMap fun s => [s.fr, s.to + 1]
theorem zvh (l : List Sp) (s : Sp) (x : Int) : x ∈ zkq (l ++ [s]) ↔ x ∈ zkq l ∨ x = s.fr ∨ x = s.to + 1 := by
  simp [zkq]
def JM (done : List Sp) (m : List (PV × PV)) : Prop := ∃ M : List (Int × Bool), m = encJ M ∧ (M.map (·.1)).Nodup ∧ M.length ≤ 1 + 2 * done.length ∧ ∀ x, x ∈ M.map (·.1) ↔ x = 0 ∨ x ∈ zkq done
theorem pCut (n f : Bool) (ll : List (Bool × Bool × List Sp)) (hl : ll.length < 1000) (hg : ∀ x ∈ ll, Rows.Good x.2.2) :
    PCall Tryz.prog 56 [.sl n f (cutA ll)] fun v => ∃ n f t, v = .sl n f (ixs t) ∧ t.length < 4000000000 ∧ ∀ x, x ∈ t ↔ CutP (ll.map (·.2.2)) x := by
  have hlen : ∀ k, (zee (ll.take k)).length ≤ 1114112 * k := fun k => by
    induction k with
    | zero => simp [zee]
    | succ k ih =>
      by_cases hk : k < ll.length
      · rw [zas hk]
        have := (hg _ (List.getElem_mem hk)).len
        simp only [zee, List.map_append, List.flatten_append, List.length_append, List.map_cons, List.map_nil, List.flatten_cons, List.flatten_nil, List.append_nil] at ih ⊢
        omega
      · rw [List.take_of_length_le (by omega)]
        rw [List.take_of_length_le (by omega)] at ih
        omega
  refine zw2 _ _ _ (fun i m => 0 ≤ i ∧ i ≤ ll.length ∧ JM (zee (ll.take i.toNat)) m) (fun i _ => ll.length - i.toNat)
    (fun i _ _ _ _ _ _ i' n18 f18 s18 x19 k m => i' = i ∧ 0 ≤ i ∧ ∃ hi : i.toNat < ll.length, s18 = sps ll[i.toNat].2.2 ∧ x19 = ll[i.toNat].2.2.length ∧ 0 ≤ k ∧ k ≤ x19 ∧ JM (zee (ll.take i.toNat) ++ ll[i.toNat].2.2.take k.toNat) m) (fun _ _ _ _ x19 k _ => (x19 - k).toNat)
    (fun m s r _ => ∃ (A : List Int) (R : List (Int × Bool)) (K : List Int), s = ixs A ∧ r = encJ R ∧ (A ++ R.map (·.1)).Perm K ∧ K.length < 4000000000 ∧ (∀ x, x ∈ K ↔ CutP (ll.map (·.2.2)) x)) (fun _ _ r _ => r.length) ?_
  unfold zmj
  refine ⟨fun kv hkv => (by cases hkv), ⟨rfl, Int.le_refl _, by omega, [(0, true)], rfl, by simp, by simp [zee], fun x => by simp [zee, zkq]⟩, ?_⟩
  rintro i _ ⟨i0, i1, M, rfl, hnd, hml, hmem⟩
  have hlc : (cutA ll).length = ll.length := by simp [cutA]
  refine iteD (fun hc => ?_) (fun hc => ?_)
  · simp only [decide_eq_true_eq, hlc] at hc
    have hi : i.toNat < ll.length := by omega
    have hw : IntKind.i64.wrap (i + 1) = i + 1 := zaa (by omega) (by omega)
    have hn : (i + 1).toNat = i.toNat + 1 := by omega
    have hgd : (cutA ll).getD i.toNat [] = [.sl ll[i.toNat].1 ll[i.toNat].2.1 (sps ll[i.toNat].2.2)] := zap hi
    have hgi := hg _ (List.getElem_mem hi)
    have hgl := hgi.len
    have hsl := hlen i.toNat
    refine ⟨zaj (enc := fun x : Bool × Bool × List Sp => [PV.sl x.1 x.2.1 (sps x.2.2)]) (fun _ => rfl) i0 hc, _, _, _, by rw [hgd]; rfl, ⟨rfl, rfl, i0, hi, rfl, by rw [zcn], Int.le_refl _, by rw [zcn]; omega, M, rfl, hnd, by simpa using hml, by simpa using hmem⟩, ?_⟩
    rintro i' n18 f18 _ _ k _ ⟨rfl, _, _, rfl, rfl, k0, k1, M, rfl, hnd, hml, hmem⟩
    rw [List.length_append, List.length_take] at hml
    refine iteD (fun hc2 => ?_) (fun hc2 => ?_)
    · simp only [decide_eq_true_eq] at hc2
      have hk : k.toNat < ll[i'.toNat].2.2.length := by omega
      have hwk : IntKind.i64.wrap (k + 1) = k + 1 := zaa (by omega) (by omega)
      have hnk : (k + 1).toNat = k.toNat + 1 := by omega
      have hgk : (sps ll[i'.toNat].2.2).getD k.toNat [] = encS ll[i'.toNat].2.2[k.toNat] := zap hk
      have hix : zam (sps ll[i'.toNat].2.2) k 4 := zaj zcw k0 (by omega)
      have hr := hgi.2 _ (List.getElem_mem hk)
      have hts : ll[i'.toNat].2.2.take (k.toNat + 1) = ll[i'.toNat].2.2.take k.toNat ++ [ll[i'.toNat].2.2[k.toNat]] := zas hk
      generalize ll[i'.toNat].2.2[k.toNat] = s at *
      have hwt : IntKind.i64.wrap (s.to + 1) = s.to + 1 := zaa (by omega) (by omega)
      have set1 := zb2 (ek := fun n => PV.int .i64 n) (ev := fun b => PV.bool b) (zg5 .i64) s.fr true M
      have set2 := zb2 (ek := fun n => PV.int .i64 n) (ev := fun b => PV.bool b) (zg5 .i64) (s.to + 1) true (aset s.fr true M)
      have fin : (JM (zee (ll.take i'.toNat) ++ ll[i'.toNat].2.2.take (k.toNat + 1)) (zai (.int .i64 (s.to + 1)) (.bool true) (zai (.int .i64 s.fr) (.bool true) (encJ M)))) := by
        refine ⟨aset (s.to + 1) true (aset s.fr true M), by rw [set1, set2], zod (zod hnd), ?_, fun x => ?_⟩
        · have e1 := ztp s.fr true M
          have e2 := ztp (s.to + 1) true (aset s.fr true M)
          rw [hts, List.length_append, List.length_append, List.length_take]
          simp only [List.length_cons, List.length_nil]
          omega
        · rw [zjl, zjl, hmem, hts, ← List.append_assoc, zvh]
          constructor
          · rintro ((h | h) | h)
            · exact h.elim .inl fun h => .inr (.inl h)
            · exact .inr (.inr (.inl h))
            · exact .inr (.inr (.inr h))
          · rintro (h | h | h | h)
            · exact .inl (.inl (.inl h))
            · exact .inl (.inl (.inr h))
            · exact .inl (.inr h)
            · exact .inr h
      have hk1 : zdo .i64 (zai (.int .i64 s.fr) (.bool true) (encJ M)) := by rw [set1]; exact zcx _
      refine ⟨hix, s.fr, by rw [hgk]; rfl, s.to, by rw [hgk]; rfl, s.a, by rw [hgk]; rfl, s.b, by rw [hgk]; rfl, ?_⟩
      rw [hwt, hwk]
      have hmu : ((ll[i'.toNat].2.2.length : Int) - (k + 1)).toNat < ((ll[i'.toNat].2.2.length : Int) - k).toNat := by omega
      rw [← hnk] at fin
      refine ⟨⟨?_, ?_⟩, ?_⟩ <;> exact ⟨zcx M, hk1, rfl, ⟨rfl, i0, hi, rfl, rfl, by omega, by omega, fin⟩, hmu⟩
    · simp only [decide_eq_true_eq] at hc2
      have htl : ll[i'.toNat].2.2.take k.toNat = ll[i'.toNat].2.2 := List.take_of_length_le (by omega)
      rw [htl] at hmem
      have hso : zee (ll.take (i' + 1).toNat) = zee (ll.take i'.toNat) ++ ll[i'.toNat].2.2 := by
        rw [hn, zas hi]; simp only [zee, List.map_append, List.map_cons, List.map_nil, List.flatten_append, List.flatten_cons, List.flatten_nil, List.append_nil]
      rw [hw]
      refine ⟨rfl, ⟨by omega, by omega, M, rfl, hnd, ?_, fun x => ?_⟩, by dsimp only; omega⟩
      · rw [hso, List.length_append]; omega
      · rw [hmem, hso]
  · simp only [decide_eq_true_eq, hlc] at hc
    rw [List.take_of_length_le (by omega)] at hmem hml
    have hM : M.length < 4000000000 := by
      have := hlen ll.length
      rw [List.take_of_length_le (Nat.le_refl _)] at this
      omega
    refine ⟨⟨rfl, [], M, M.map (·.1), rfl, rfl, List.Perm.refl _, by simpa using hM, fun x => ?_⟩, ?_⟩
    · rw [hmem]
      unfold CutP zkq zee
      simp only [List.mem_flatMap, List.mem_flatten, List.mem_cons, List.not_mem_nil, or_false]
      constructor
      · rintro (h | ⟨s, ⟨l, hl, hs⟩, h⟩)
        · exact .inl h
        · exact .inr ⟨l, hl, s, hs, h⟩
      · rintro (h | ⟨l, hl, s, hs, h⟩)
        · exact .inl h
        · exact .inr ⟨s, ⟨l, hl, hs⟩, h⟩
    · rintro m _ _ q ⟨A, R, K, rfl, rfl, hp, hKl, hKm⟩
      have hlen2 := hp.length_eq
      simp only [List.length_append, List.length_map] at hlen2
      refine ⟨fun hr => ?_, fun j k v hj => ?_⟩
      · have hR : R = [] := by cases R with | nil => rfl | cons => simp [encM] at hr
        subst hR
        simp only [List.map_nil, List.append_nil] at hp
        simp only [List.length_nil] at hlen2
        exact ⟨_, _, A, rfl, by omega, fun x => by rw [hp.mem_iff, hKm]⟩
      · obtain ⟨hjl, rfl, rfl, hpe, he⟩ := z3i hj
        refine ⟨R[j].1, rfl, R[j].2, rfl, _, rfl, _, rfl, ⟨fun e he => by simp at he; subst he; rfl, by rw [zfj]; omega⟩, rfl, ⟨A ++ [R[j].1], R.eraseIdx j, K, by simp [ixs], he, ?_, hKl, hKm⟩, ?_⟩
        · refine List.Perm.trans ?_ hp
          rw [List.append_assoc]
          refine List.Perm.append_left A ?_
          simpa using hpe.map (·.1)
        · dsimp only
          rw [he, zto, zto, List.length_eraseIdx_of_lt hjl]; omega
end Go.Eng



namespace Go.Eng
open Go Go.Proofs Go.Eng.Rows Go.Eng.Trie
theorem four {i : Int} (h0 : 0 ≤ i) (h1 : i < 4) : i = 0 ∨ i = 1 ∨ i = 2 ∨ i = 3 := by omega
def zdv (l0 l1 l2 l3 : List Sp) (i : Nat) : List Sp := [l0, l1, l2, l3].getD i []
theorem at4 (n0 f0 n1 f1 n2 f2 n3 f3 : Bool) (l0 l1 l2 l3 : List Sp) {i : Int} (h0 : 0 ≤ i) (h1 : i < 4) : ∃ n f, [PV.sl n0 f0 (sps l0), .sl n1 f1 (sps l1), .sl n2 f2 (sps l2), .sl n3 f3 (sps l3)].getD i.toNat .unit = .sl n f (sps (zdv l0 l1 l2 l3 i.toNat)) := by
  rcases four h0 h1 with rfl | rfl | rfl | rfl
  · exact ⟨n0, f0, rfl⟩
  · exact ⟨n1, f1, rfl⟩
  · exact ⟨n2, f2, rfl⟩
  · exact ⟨n3, f3, rfl⟩
theorem z4t (l0 l1 l2 l3 : List Sp) {i : Int} (h0 : 0 ≤ i) (h1 : i < 4) : ([l0, l1, l2, l3].take (i + 1).toNat) = ([l0, l1, l2, l3].take i.toNat) ++ [zdv l0 l1 l2 l3 i.toNat] := by
  rcases four h0 h1 with rfl | rfl | rfl | rfl <;> rfl
theorem mem4 (l0 l1 l2 l3 : List Sp) {i : Int} (h0 : 0 ≤ i) (h1 : i < 4) : zdv l0 l1 l2 l3 i.toNat ∈ [l0, l1, l2, l3] := by
  rcases four h0 h1 with rfl | rfl | rfl | rfl <;> simp [zdv]
theorem z4u (a last : Int) (n0 f0 n1 f1 n2 f2 n3 f3 : Bool) (l0 l1 l2 l3 : List Sp) (hg : ∀ l ∈ [l0, l1, l2, l3], Rows.Good l) :
    PCall Tryz.prog 58 [.int .i64 a, .int .i64 last, .agg [.sl n0 f0 (sps l0), .sl n1 f1 (sps l1), .sl n2 f2 (sps l2), .sl n3 f3 (sps l3)]] fun v => v = .int .i64 (zfp a last [l0, l1, l2, l3].flatten) := by
  refine zu7 _ _ _ _ _ _ _ _ _ _ _ _ _ _
    (fun x _ _ s0 _ _ s1 _ _ s2 _ _ s3 i => s0 = sps l0 ∧ s1 = sps l1 ∧ s2 = sps l2 ∧ s3 = sps l3 ∧ 0 ≤ i ∧ i ≤ 4 ∧ x = zfp a last ([l0, l1, l2, l3].take i.toNat).flatten) (fun _ _ _ _ _ _ _ _ _ _ _ _ _ i => (4 - i).toNat)
    (fun _ _ _ _ _ _ _ _ _ _ _ _ _ i _ _ _ _ _ x _ _ s0 _ _ s1 _ _ s2 _ _ s3 i' _ _ s15 x16 k => s0 = sps l0 ∧ s1 = sps l1 ∧ s2 = sps l2 ∧ s3 = sps l3 ∧ i = i' ∧ s15 = sps (zdv l0 l1 l2 l3 i.toNat) ∧ x16 = (zdv l0 l1 l2 l3 i.toNat).length ∧ 0 ≤ k ∧ k ≤ x16 ∧
      x = zfp a last (([l0, l1, l2, l3].take i.toNat).flatten ++ (zdv l0 l1 l2 l3 i.toNat).take k.toNat)) (fun _ _ _ _ _ _ _ _ _ _ _ _ _ _ _ _ _ x16 k => (x16 - k).toNat) ?_
  unfold zkj
  refine ⟨_, _, _, rfl, _, _, _, rfl, _, _, _, rfl, _, _, _, rfl, ⟨rfl, rfl, rfl, rfl, rfl, Int.le_refl _, by omega, rfl⟩, ?_⟩
  rintro _ n0 f0 _ n1 f1 _ n2 f2 _ n3 f3 _ i ⟨rfl, rfl, rfl, rfl, i0, i1, rfl⟩
  have hw : IntKind.i64.wrap (i + 1) = i + 1 := zaa (by omega) (by omega)
  refine iteD (fun hc => ?_) (fun hc => ?_)
  · simp only [decide_eq_true_eq] at hc
    obtain ⟨m, g, hat⟩ := at4 n0 f0 n1 f1 n2 f2 n3 f3 l0 l1 l2 l3 i0 hc
    have hgi := hg _ (mem4 l0 l1 l2 l3 i0 hc)
    have hgl := hgi.len
    refine ⟨⟨i0, hc, by simp; omega⟩, m, g, _, hat, ⟨rfl, rfl, rfl, rfl, rfl, rfl, rfl, by rw [zcn], Int.le_refl _, by rw [zcn]; omega, by simp⟩, ?_⟩
    rintro _ n0 f0 _ n1 f1 _ n2 f2 _ n3 f3 _ _ n15 f15 _ _ k ⟨rfl, rfl, rfl, rfl, rfl, rfl, rfl, k0, k1, rfl⟩
    have htk := z4t l0 l1 l2 l3 i0 hc
    refine iteD (fun hc2 => ?_) (fun hc2 => ?_)
    · simp only [decide_eq_true_eq] at hc2
      have hk : k.toNat < (zdv l0 l1 l2 l3 i.toNat).length := by omega
      have hwk : IntKind.i64.wrap (k + 1) = k + 1 := zaa (by omega) (by omega)
      have hnk : (k + 1).toNat = k.toNat + 1 := by omega
      have hgk : (sps (zdv l0 l1 l2 l3 i.toNat)).getD k.toNat [] = encS (zdv l0 l1 l2 l3 i.toNat)[k.toNat] := zap hk
      have hix : zam (sps (zdv l0 l1 l2 l3 i.toNat)) k 4 := zaj zcw k0 (by omega)
      have hr := hgi.2 _ (List.getElem_mem hk)
      have hts : (zdv l0 l1 l2 l3 i.toNat).take (k.toNat + 1) = (zdv l0 l1 l2 l3 i.toNat).take k.toNat ++ [(zdv l0 l1 l2 l3 i.toNat)[k.toNat]] := zas hk
      have hmu : (((zdv l0 l1 l2 l3 i.toNat).length : Int) - (k + 1)).toNat < (((zdv l0 l1 l2 l3 i.toNat).length : Int) - k).toNat := by omega
      refine ⟨hix, (zdv l0 l1 l2 l3 i.toNat)[k.toNat].fr, by rw [hgk]; rfl, (zdv l0 l1 l2 l3 i.toNat)[k.toNat].to, by rw [hgk]; rfl, (zdv l0 l1 l2 l3 i.toNat)[k.toNat].a, by rw [hgk]; rfl, (zdv l0 l1 l2 l3 i.toNat)[k.toNat].b, by rw [hgk]; rfl, ?_⟩
      rw [hwk]
      generalize (zdv l0 l1 l2 l3 i.toNat)[k.toNat] = s at *
      have hws : IntKind.i64.wrap (s.fr - 1) = s.fr - 1 := zaa (by omega) (by omega)
      rw [hws]
      have hstep : zfp a last (([l0, l1, l2, l3].take i.toNat).flatten ++ (zdv l0 l1 l2 l3 i.toNat).take (k + 1).toNat) = if s.fr > a ∧ s.fr ≤ zfp a last (([l0, l1, l2, l3].take i.toNat).flatten ++ (zdv l0 l1 l2 l3 i.toNat).take k.toNat) then s.fr - 1 else zfp a last (([l0, l1, l2, l3].take i.toNat).flatten ++ (zdv l0 l1 l2 l3 i.toNat).take k.toNat) := by
        rw [hnk, hts, ← List.append_assoc, zq6]; rfl
      refine iteD (fun h1 => iteD (fun h2 => ?_) (fun h2 => ?_)) (fun h1 => ?_)
      · simp only [decide_eq_true_eq] at h1 h2
        rw [if_pos ⟨h1, h2⟩] at hstep
        exact ⟨rfl, ⟨rfl, rfl, rfl, rfl, rfl, rfl, rfl, by omega, by omega, hstep.symm⟩, hmu⟩
      · simp only [decide_eq_true_eq] at h1 h2
        rw [if_neg (fun h => h2 h.2)] at hstep
        exact ⟨rfl, ⟨rfl, rfl, rfl, rfl, rfl, rfl, rfl, by omega, by omega, hstep.symm⟩, hmu⟩
      · simp only [decide_eq_true_eq] at h1
        rw [if_neg (fun h => h1 h.1)] at hstep
        exact ⟨rfl, ⟨rfl, rfl, rfl, rfl, rfl, rfl, rfl, by omega, by omega, hstep.symm⟩, hmu⟩
    · simp only [decide_eq_true_eq] at hc2
      have htl : (zdv l0 l1 l2 l3 i.toNat).take k.toNat = (zdv l0 l1 l2 l3 i.toNat) := List.take_of_length_le (by omega)
      rw [hw, htl]
      refine ⟨rfl, ⟨rfl, rfl, rfl, rfl, by omega, by omega, ?_⟩, by dsimp only; omega⟩
      rw [htk]; simp
  · simp only [decide_eq_true_eq] at hc
    have : i = 4 := by omega
    subst this
    rfl
end Go.Eng



namespace Go.Eng
open Go Go.Proofs Go.Eng.Rows Go.Eng.Trie
def kd (q : Nat) : Int := [5, 7, 8, 3].getD q 0
def k4 (rows : List Row) (q : Nat) : List Sp := ofL (kd q) rows
theorem zzt (rows : List Row) {i : Int} (h0 : 0 ≤ i) (h1 : i < 4) : zdv (ofL 5 rows) (ofL 7 rows) (ofL 8 rows) (ofL 3 rows) i.toNat = k4 rows i.toNat := by
  rcases four h0 h1 with rfl | rfl | rfl | rfl <;> rfl
def CellsK (rows : List Row) (i : Int) (c : List PV) : Prop := c.length = 4 ∧ ∀ q : Nat, (q : Int) < i → ∃ n f, c[q]? = some (.sl n f (sps (k4 rows q)))
def HasC (rows : List Row) (a i : Int) (c : List PV) : Prop := c.length = 4 ∧ ∀ q : Nat, (q : Int) < i → c[q]? = some (.bool (zhr rows (kd q) a))
theorem put4 {c : List PV} (hl : c.length = 4) {i : Int} (h0 : 0 ≤ i) (h1 : i < 4) (v : PV) : (spl c (0 + i.toNat * 1) [v]).length = 4 ∧ ∀ q : Nat, (spl c (0 + i.toNat * 1) [v])[q]? = if q = i.toNat then some v else c[q]? := by
  have hle : (0 + i.toNat * 1) + [v].length ≤ c.length := by simp; omega
  refine ⟨by rw [zc4 _ _ _ hle, hl], fun q => ?_⟩
  rw [zj4 _ _ _ hle]
  simp only [Nat.zero_add, Nat.mul_one, List.length_cons, List.length_nil]
  by_cases hq : q = i.toNat
  · subst hq; rw [if_pos (by omega), if_pos rfl]; simp
  · rw [if_neg (by omega), if_neg hq]
theorem CellsK.put {rows : List Row} {i : Int} {c : List PV} (h : CellsK rows i c) (h0 : 0 ≤ i) (h1 : i < 4) (n f : Bool) : CellsK rows (i + 1) (spl c (0 + i.toNat * 1) [.sl n f (sps (k4 rows i.toNat))]) := by
  obtain ⟨e1, e2⟩ := put4 h.1 h0 h1 (.sl n f (sps (k4 rows i.toNat)))
  refine ⟨e1, fun q hq => ?_⟩
  rw [e2]
  by_cases hqi : q = i.toNat
  · subst hqi; rw [if_pos rfl]; exact ⟨n, f, rfl⟩
  · rw [if_neg hqi]; exact h.2 q (by omega)
theorem HasC.put {rows : List Row} {a i : Int} {c : List PV} (h : HasC rows a i c) (h0 : 0 ≤ i) (h1 : i < 4) {b : Bool} (hb : b = zhr rows (kd i.toNat) a) : HasC rows a (i + 1) (spl c (0 + i.toNat * 1) [.bool b]) := by
  obtain ⟨e1, e2⟩ := put4 h.1 h0 h1 (.bool b)
  refine ⟨e1, fun q hq => ?_⟩
  rw [e2]
  by_cases hqi : q = i.toNat
  · subst hqi; rw [if_pos rfl, hb]
  · rw [if_neg hqi]; exact h.2 q (by omega)
theorem eq4 {c : List PV} {a0 a1 a2 a3 : PV} (hl : c.length = 4) (h0 : c[0]? = some a0) (h1 : c[1]? = some a1) (h2 : c[2]? = some a2) (h3 : c[3]? = some a3) : c = [a0, a1, a2, a3] := by
  match c, hl with
  | [b0, b1, b2, b3], _ => simp at h0 h1 h2 h3; rw [h0, h1, h2, h3]
theorem CellsK.all {rows : List Row} {c : List PV} (h : CellsK rows 4 c) : ∃ n0 f0 n1 f1 n2 f2 n3 f3, c = [.sl n0 f0 (sps (ofL 5 rows)), .sl n1 f1 (sps (ofL 7 rows)), .sl n2 f2 (sps (ofL 8 rows)), .sl n3 f3 (sps (ofL 3 rows))] := by
  obtain ⟨n0, f0, e0⟩ := h.2 0 (by omega)
  obtain ⟨n1, f1, e1⟩ := h.2 1 (by omega)
  obtain ⟨n2, f2, e2⟩ := h.2 2 (by omega)
  obtain ⟨n3, f3, e3⟩ := h.2 3 (by omega)
  exact ⟨n0, f0, n1, f1, n2, f2, n3, f3, eq4 h.1 e0 e1 e2 e3⟩
theorem HasC.all {rows : List Row} {a : Int} {c : List PV} (h : HasC rows a 4 c) : c = [.bool (ze3 rows a).1, .bool (ze3 rows a).2.1, .bool (ze3 rows a).2.2.1, .bool (ze3 rows a).2.2.2] :=
  eq4 h.1 (h.2 0 (by omega)) (h.2 1 (by omega)) (h.2 2 (by omega)) (h.2 3 (by omega))
theorem z4v {i : Int} (h0 : 0 ≤ i) (h1 : i < 4) : [PV.int .i64 5, .int .i64 7, .int .i64 8, .int .i64 3].getD i.toNat .unit = .int .i64 (kd i.toNat) := by
  rcases four h0 h1 with rfl | rfl | rfl | rfl <;> rfl
theorem zxi (rows : List Row) : ∀ l ∈ l4 rows, Rows.Good l := by
  intro l hl
  simp only [l4, List.mem_cons, List.not_mem_nil, or_false] at hl
  rcases hl with rfl | rfl | rfl | rfl <;> exact zf6 _ _
theorem z2j (rows : List Row) {i : Int} (h0 : 0 ≤ i) (h1 : i < 4) : (l4 rows).take (i + 1).toNat = (l4 rows).take i.toNat ++ [k4 rows i.toNat] := by
  rcases four h0 h1 with rfl | rfl | rfl | rfl <;> rfl
theorem z2k {rows : List Row} {x : Int} (h : CutP (l4 rows) x) : 0 ≤ x ∧ x ≤ 1114112 := by
  rcases h with rfl | ⟨l, hl, s, hs, h⟩
  · omega
  · have := (zxi rows l hl).2 s hs
    omega
def TrP (rows : List Row) (t : List Int) (i : Int) (s : List (List PV)) : Prop := ∃ P : List (Pc Fl), s = pcsF P ∧ (P.length : Int) ≤ i ∧ PiecesOK rows (t.take i.toNat) P
theorem z2l (n f : Bool) (rows : List Row) (hl : rows.length < 1000000) : PCall Tryz.prog 34 [.sl n f (rws rows)] fun v => TrieF 1114112 (ze3 rows) v := by
  refine zq0 _ _ _
    (fun a b c d i c0 => a = 5 ∧ b = 7 ∧ c = 8 ∧ d = 3 ∧ 0 ≤ i ∧ i ≤ 4 ∧ CellsK rows i c0) (fun _ _ _ _ i _ => (4 - i).toNat)
    (fun p4 _ _ s29 x30 i _ s => CellsK rows 4 p4 ∧ ∃ t, s29 = ixs t ∧ x30 = t.length ∧ t.length < 4000000000 ∧ (∀ x, x ∈ t ↔ CutP (l4 rows) x) ∧ 0 ≤ i ∧ i ≤ x30 ∧ TrP rows t i s) (fun _ _ _ _ x30 i _ _ => (x30 - i).toNat)
    (fun p4 a _ _ _ s29 x30 i _ _ _ _ _ _ _ _ _ _ _ _ _ _ s _ p4' a' x11 _ _ s29' x30' i' _ _ s0 _ _ s1 _ _ s2 _ _ s3 k _ s' c1 => p4 = p4' ∧ a = a' ∧ s29 = s29' ∧ x30 = x30' ∧ i = i' ∧ s = s' ∧ s0 = sps (ofL 5 rows) ∧ s1 = sps (ofL 7 rows) ∧ s2 = sps (ofL 8 rows) ∧ s3 = sps (ofL 3 rows) ∧
      0 ≤ k ∧ k ≤ 4 ∧ HasC rows a k c1 ∧ LastOK ((l4 rows).take k.toNat) a x11) (fun _ _ _ _ _ _ _ _ _ _ _ _ _ _ _ _ _ _ _ _ k _ _ _ => (4 - k).toNat) ?_
  unfold zg6
  refine ⟨⟨rfl, Nat.le_refl _⟩, _, rfl, _, rfl, _, rfl, _, rfl, ⟨rfl, rfl, rfl, rfl, rfl, Int.le_refl _, by omega, rfl, fun q hq => absurd hq (by omega)⟩, ?_⟩
  rintro _ _ _ _ i c0 ⟨rfl, rfl, rfl, rfl, i0, i1, hck⟩
  have hw : IntKind.i64.wrap (i + 1) = i + 1 := zaa (by omega) (by omega)
  refine iteD (fun hc => ?_) (fun hc => ?_)
  · simp only [decide_eq_true_eq] at hc
    refine ⟨⟨i0, hc, by simp; omega⟩, kd i.toNat, z4v i0 hc, ?_⟩
    refine (p29 _ _ rows (kd i.toNat) (by omega)).mono ?_
    rintro _ ⟨n1, f1, rfl⟩
    rw [hw]
    exact ⟨_, _, _, rfl, ⟨i0, hc⟩, ⟨rfl, by rw [hck.1]; omega⟩, rfl, ⟨rfl, rfl, rfl, rfl, by omega, by omega, hck.put i0 hc n1 f1⟩, by dsimp only; omega⟩
  · simp only [decide_eq_true_eq] at hc
    have : i = 4 := by omega
    subst this
    obtain ⟨n0, f0, n1, f1, n2, f2, n3, f3, rfl⟩ := hck.all
    refine ⟨⟨⟨by simp, by simp⟩, rfl⟩, ?_⟩
    refine (pCut false true [(n0, f0, ofL 5 rows), (n1, f1, ofL 7 rows), (n2, f2, ofL 8 rows), (n3, f3, ofL 3 rows)] (by simp) (fun x hx => ?_)).mono ?_
    · simp only [List.mem_cons, List.not_mem_nil, or_false] at hx
      rcases hx with rfl | rfl | rfl | rfl <;> exact zf6 _ _
    rintro _ ⟨n4, f4, t, rfl, htl, ht⟩
    refine ⟨_, _, _, rfl, ⟨rfl, hck, t, rfl, by rw [zfj], htl, ht, Int.le_refl _, by rw [zfj]; omega, [], rfl, Int.le_refl _, PiecesOK.nil rows⟩, ?_⟩
    clear ht htl
    rintro p4 n29 f29 _ _ i m _ ⟨hck, t, rfl, rfl, htl, ht, i0, i1, P, rfl, hPl, hP⟩
    have hw : IntKind.i64.wrap (i + 1) = i + 1 := zaa (by omega) (by omega)
    refine iteD (fun hc => ?_) (fun hc => ?_)
    · simp only [decide_eq_true_eq] at hc
      have hi : i.toNat < t.length := by omega
      have hn : (i + 1).toNat = i.toNat + 1 := by omega
      have hgd : (ixs t).getD i.toNat [] = [.int .i64 t[i.toNat]] := zap hi
      have hts : t.take (i.toNat + 1) = t.take i.toNat ++ [t[i.toNat]] := zas hi
      have hcut := (ht t[i.toNat]).1 (List.getElem_mem hi)
      have hrng := z2k hcut
      obtain ⟨n0, f0, n1, f1, n2, f2, n3, f3, rfl⟩ := hck.all
      refine ⟨zaj zf8 i0 (by omega), t[i.toNat], by rw [hgd]; rfl, _, _, _, rfl, _, _, _, rfl, _, _, _, rfl, _, _, _, rfl,
        ⟨rfl, rfl, rfl, rfl, rfl, rfl, rfl, rfl, rfl, rfl, rfl, Int.le_refl _, by omega, ⟨rfl, fun q hq => absurd hq (by omega)⟩, LastOK.nil _⟩, ?_⟩
      generalize t[i.toNat] = a at *
      rintro _ _ x11 n29 f29 _ _ _ n0 f0 _ n1 f1 _ n2 f2 _ n3 f3 _ k m' _ c1 ⟨rfl, rfl, rfl, rfl, rfl, rfl, rfl, rfl, rfl, rfl, k0, k1, hhas, hlast⟩
      have hwk : IntKind.i64.wrap (k + 1) = k + 1 := zaa (by omega) (by omega)
      refine iteD (fun hc2 => ?_) (fun hc2 => ?_)
      · simp only [decide_eq_true_eq] at hc2
        obtain ⟨n4, f4, hat⟩ := at4 n0 f0 n1 f1 n2 f2 n3 f3 (ofL 5 rows) (ofL 7 rows) (ofL 8 rows) (ofL 3 rows) k0 hc2
        rw [zzt rows k0 hc2] at hat
        refine ⟨⟨k0, hc2, by simp; omega⟩, n4, f4, _, hat, ?_⟩
        have hwa : IntKind.i32.wrap a = a := za6 (by omega) (by omega)
        rw [hwa]
        refine (p34 _ _ (k4 rows k.toNat) a (zf6 _ _) (by omega)).mono ?_
        rintro _ ⟨x, q, rfl, hq1, hq2⟩
        have htk := z2j rows k0 hc2
        have hmu : (4 - (k + 1)).toNat < (4 - k).toNat := by omega
        refine ⟨_, rfl, rfl, _, rfl, _, rfl, rfl, x.fr, rfl, x.to, rfl, x.a, rfl, x.b, rfl, _, rfl, q, rfl, ?_⟩
        rw [hwk]
        have hsz : ([PV.bool true].length : Nat) = 1 ∧ 0 + k.toNat * 1 + 1 ≤ c1.length := ⟨rfl, by rw [hhas.1]; omega⟩
        cases q with
        | true =>
          obtain ⟨hx1, hx2⟩ := hq1 rfl
          have hv : (x.a == 1) = zhr rows (kd k.toNat) a := by
            unfold zhr; rw [zis hx1 hx2]; rfl
          refine iteT rfl ⟨⟨k0, hc2⟩, hsz, iteT rfl ⟨rfl, ⟨rfl, rfl, rfl, rfl, rfl, rfl, rfl, rfl, rfl, rfl, by omega, by omega, hhas.put k0 hc2 hv, ?_⟩, hmu⟩⟩
          rw [htk]
          have := hlast.some hx1 hx2 (zf6 _ _)
          exact this
        | false =>
          obtain ⟨_, hno⟩ := hq2 rfl
          have hv : false = zhr rows (kd k.toNat) a := by
            unfold zhr; rw [zpo hno]
          refine iteF (by simp) ⟨⟨k0, hc2⟩, hsz, iteF (by simp) ⟨rfl, ⟨rfl, rfl, rfl, rfl, rfl, rfl, rfl, rfl, rfl, rfl, by omega, by omega, hhas.put k0 hc2 hv, ?_⟩, hmu⟩⟩
          rw [htk]
          exact hlast.none hno
      · simp only [decide_eq_true_eq] at hc2
        have : k = 4 := by omega
        subst this
        have hc1 := hhas.all
        subst hc1
        have hmu : ((t.length : Int) - (i + 1)).toNat < ((t.length : Int) - i).toNat := by omega
        refine ⟨_, rfl, _, rfl, _, rfl, _, rfl, ?_⟩
        rw [hw]
        refine iteD (fun hc3 => ?_) (fun hc3 => ?_)
        · refine ⟨_, _, _, rfl, _, _, _, rfl, _, _, _, rfl, _, _, _, rfl, ⟨by omega, by omega⟩, _, rfl, ⟨by omega, by omega⟩, _, rfl, ⟨by omega, by omega⟩, _, rfl, ⟨by omega, by omega⟩, _, rfl, ?_⟩
          refine (z4u a x11 _ _ _ _ _ _ _ _ (ofL 5 rows) (ofL 7 rows) (ofL 8 rows) (ofL 3 rows) (zxi rows)).mono ?_
          rintro _ rfl
          refine ⟨_, rfl, ⟨fun e he => by simp at he; subst he; rfl, by simp [pcsF]; omega⟩, rfl, ⟨hck, t, rfl, rfl, htl, ht, by omega, by omega, P ++ [⟨a, zfp a x11 (l4 rows).flatten, ze3 rows a⟩], ?_, by simp; omega, ?_⟩, hmu⟩
          · unfold pcsF; rw [List.map_append]; rfl
          · rw [hn, hts]; exact hP.put hrng.1 hrng.2 hlast
        · refine ⟨rfl, ⟨hck, t, rfl, rfl, htl, ht, by omega, by omega, P, rfl, by omega, ?_⟩, hmu⟩
          rw [hn, hts]
          refine hP.skip ?_
          revert hc3
          generalize ze3 rows a = fl
          obtain ⟨b0, b1, b2, b3⟩ := fl
          cases b0 <;> cases b1 <;> cases b2 <;> cases b3 <;> simp
    · simp only [decide_eq_true_eq] at hc
      rw [List.take_of_length_le (by omega)] at hP
      refine (p106 1114112 (false, false, false, false) _ _ P (by omega) (fun p hp => ?_) (by omega) (by omega)).mono fun v hv => hv.congr fun i h0 h1 => hP.val ht h0 (by omega)
      have := (hP.sound p hp).1
      omega
end Go.Eng



namespace Go.Eng.Rows
open Go Go.Eng Go.Eng.Trie
theorem zjr (k v p : PV) (M : List (PV × PV)) : zbu (zbq k M) p (zai k v M) = zai k p M ∧ zbq k M < (zai k v M).length := by
  unfold zbu zbq zai
  cases h : zax k M with
  | none => simp
  | some j =>
    have := zew h
    simp [this]
def zat (rows : List Row) : Prop := ∀ x ∈ rows, x.kind = 2 → (1 ≤ x.a ∧ x.a ≤ 1114111) ∧ 0 ≤ x.b ∧ x.b ≤ 1114111
theorem zdw {rows : List Row} {k r : Int} {p : Int × Int} (h : za0 rows k r = some p) : ∃ x ∈ rows, x.kind = k ∧ x.a = p.1 ∧ x.b = p.2 ∧ x.fr ≤ r ∧ r ≤ x.to ∧ 0 ≤ r ∧ r ≤ 1114111 := by
  unfold za0 at h
  split at h
  · rename_i hr
    unfold first at h
    cases hf : rows.find? (fun x => x.has k r) with
    | none => rw [hf] at h; cases h
    | some x =>
      rw [hf] at h; cases h
      have h1 := List.mem_of_find?_eq_some hf
      have h2 := List.find?_some hf
      simp only [Row.has, Bool.and_eq_true, decide_eq_true_eq] at h2
      exact ⟨x, h1, h2.1, rfl, rfl, h2.2.1, h2.2.2, hr.1, hr.2⟩
  · cases h
theorem ze7 {rows : List Row} (hp : zat rows) (r : Int) : (0 ≤ (zag rows r).1 ∧ (zag rows r).1 ≤ 1114111) ∧ 0 ≤ (zag rows r).2 ∧ (zag rows r).2 ≤ 1114111 := by
  unfold zag
  cases h : za0 rows 2 r with
  | none => simp
  | some p =>
    obtain ⟨x, h1, h2, h3, h4, _⟩ := zdw h
    have := hp x h1 h2
    simp only; omega
theorem zzu {rows : List Row} (hp : zat rows) {r : Int} {p : Int × Int} (h : za0 rows 2 r = some p) : zag rows r ≠ (0, 0) := by
  unfold zag
  rw [h]
  obtain ⟨x, h1, h2, h3, h4, _⟩ := zdw h
  have := hp x h1 h2
  intro e
  simp only at e
  rw [e] at h3
  simp only at h3
  omega
theorem zvi {rows : List Row} {r : Int} {s : Sp} (hs : s ∈ ofL 2 rows) (h : s.has r) : zag rows r = (s.a, s.b) := by
  unfold zag; rw [zis hs h]
theorem zzv {rows : List Row} {r : Int} (h : zag rows r ≠ (0, 0)) : ∃ s ∈ ofL 2 rows, s.has r := by
  cases hf : za0 rows 2 r with
  | none => unfold zag at h; rw [hf] at h; exact absurd rfl h
  | some p => obtain ⟨s, h1, h2, _⟩ := zsm hf; exact ⟨s, h1, h2⟩
theorem zt4 {rows : List Row} (hp : zat rows) {s : Sp} (hs : s ∈ ofL 2 rows) : (1 ≤ s.a ∧ s.a ≤ 1114111) ∧ 0 ≤ s.b ∧ s.b ≤ 1114111 := by
  have hg := (zf6 2 rows).2 s hs
  obtain ⟨x, h1, h2, h3, h4, _⟩ := zdw (zis hs (r := s.fr) ⟨Int.le_refl _, hg.2.1⟩)
  have := hp x h1 h2
  simp only at h3 h4
  omega
def zsn (rows : List Row) (r : Int) : Prop := zag rows r ≠ (0, 0) ∧ outG rows r = false
structure MadeOK (rows : List Row) (D : Int → Prop) (made : List ((Int × Int) × Int)) (sec : List (Int × Bool)) : Prop where
  m1 : ∀ p r, aget p made = some r → D r ∧ zsn rows r ∧ zag rows r = p ∧ ∀ r', D r' → zsn rows r' → zag rows r' = p → r ≤ r'
  m2 : ∀ p, aget p made = none → ∀ r', D r' → zsn rows r' → zag rows r' ≠ p
  s1 : ∀ b v, aget b sec = some v → v = true ∧ ∃ r, D r ∧ zsn rows r ∧ (zag rows r).2 = b
  s2 : ∀ b, aget b sec = none → ∀ r', D r' → zsn rows r' → (zag rows r').2 ≠ b
theorem MadeOK.nil (rows : List Row) : MadeOK rows (fun _ => False) [] [] := ⟨fun p r h => (by cases h), fun p _ r' h => h.elim, fun b v h => (by cases h), fun b _ r' h => h.elim⟩
theorem MadeOK.same {rows : List Row} {D D' : Int → Prop} {made : List ((Int × Int) × Int)} {sec : List (Int × Bool)} (h : MadeOK rows D made sec) (hd : ∀ r, zsn rows r → (D r ↔ D' r)) : MadeOK rows D' made sec :=
  ⟨fun p r hr => by
    obtain ⟨h1, h2, h3, h4⟩ := h.m1 p r hr
    exact ⟨(hd r h2).1 h1, h2, h3, fun r' q1 q2 q3 => h4 r' ((hd r' q2).2 q1) q2 q3⟩,
  fun p hr r' q1 q2 => h.m2 p hr r' ((hd r' q2).2 q1) q2,
  fun b v hb => by
    obtain ⟨h1, r, h2, h3, h4⟩ := h.s1 b v hb
    exact ⟨h1, r, (hd r h3).1 h2, h3, h4⟩,
  fun b hb r' q1 q2 => h.s2 b hb r' ((hd r' q2).2 q1) q2⟩
theorem MadeOK.known {rows : List Row} {D : Int → Prop} {made : List ((Int × Int) × Int)} {sec : List (Int × Bool)} (h : MadeOK rows D made sec) {x r0 : Int} (hx : ∀ r, D r → r < x) (hk : aget (zag rows x) made = some r0) : MadeOK rows (fun r => D r ∨ r = x) made sec := by
  obtain ⟨k1, k2, k3, k4⟩ := h.m1 _ _ hk
  refine ⟨fun p r hr => ?_, fun p hr r' q1 q2 => ?_, fun b v hb => ?_, fun b hb r' q1 q2 => ?_⟩
  · obtain ⟨h1, h2, h3, h4⟩ := h.m1 p r hr
    refine ⟨.inl h1, h2, h3, fun r' q1 q2 q3 => ?_⟩
    rcases q1 with q1 | rfl
    · exact h4 r' q1 q2 q3
    · exact Int.le_of_lt (hx r h1)
  · rcases q1 with q1 | rfl
    · exact h.m2 p hr r' q1 q2
    · intro e; rw [← e, hk] at hr; cases hr
  · obtain ⟨h1, r, h2, h3, h4⟩ := h.s1 b v hb
    exact ⟨h1, r, .inl h2, h3, h4⟩
  · rcases q1 with q1 | rfl
    · exact h.s2 b hb r' q1 q2
    · intro e
      exact h.s2 b hb r0 k1 k2 (by rw [k3, e])
theorem MadeOK.out {rows : List Row} {D : Int → Prop} {made : List ((Int × Int) × Int)} {sec : List (Int × Bool)} (h : MadeOK rows D made sec) {x : Int} (ho : outG rows x = true) : MadeOK rows (fun r => D r ∨ r = x) made sec :=
  h.same fun r hr => ⟨.inl, fun hd => hd.elim id fun e => by subst e; have := hr.2; rw [ho] at this; cases this⟩
theorem MadeOK.put {rows : List Row} {D : Int → Prop} {made : List ((Int × Int) × Int)} {sec : List (Int × Bool)} (h : MadeOK rows D made sec) {x : Int} (hx : ∀ r, D r → r < x) (hn : aget (zag rows x) made = none) (hg : zsn rows x) :
    MadeOK rows (fun r => D r ∨ r = x) (aset (zag rows x) x made) (aset (zag rows x).2 true sec) := by
  refine ⟨fun p r hr => ?_, fun p hr r' q1 q2 => ?_, fun b v hb => ?_, fun b hb r' q1 q2 => ?_⟩
  · rw [zex] at hr
    split at hr
    · rename_i hp; cases hr; subst hp
      refine ⟨.inr rfl, hg, rfl, fun r' q1 q2 q3 => ?_⟩
      rcases q1 with q1 | rfl
      · exact absurd q3 (h.m2 _ hn r' q1 q2)
      · exact Int.le_refl _
    · rename_i hp
      obtain ⟨h1, h2, h3, h4⟩ := h.m1 p r hr
      refine ⟨.inl h1, h2, h3, fun r' q1 q2 q3 => ?_⟩
      rcases q1 with q1 | rfl
      · exact h4 r' q1 q2 q3
      · exact Int.le_of_lt (hx r h1)
  · rw [zex] at hr
    split at hr
    · cases hr
    · rename_i hp
      rcases q1 with q1 | rfl
      · exact h.m2 p hr r' q1 q2
      · exact fun e => hp e.symm
  · rw [zex] at hb
    split at hb
    · rename_i hp; cases hb; exact ⟨rfl, x, .inr rfl, hg, hp.symm⟩
    · obtain ⟨h1, r, h2, h3, h4⟩ := h.s1 b v hb
      exact ⟨h1, r, .inl h2, h3, h4⟩
  · rw [zex] at hb
    split at hb
    · cases hb
    · rename_i hp
      rcases q1 with q1 | rfl
      · exact h.s2 b hb r' q1 q2
      · exact fun e => hp e.symm
end Go.Eng.Rows



namespace Go.Eng
open Go Go.Proofs Go.Eng.Rows Go.Eng.Trie
structure Tri (rows : List Row) (tc tg tj tf tp : PV) : Prop where
  c : TrieI 1114112 (numG rows 1) tc
  g : TrieI 1114112 (numG rows 4) tg
  j : TrieI 1114112 (numG rows 6) tj
  f : TrieF 1114112 (ze3 rows) tf
  p : TrieP 1114112 (zag rows) tp
theorem TrieI.ptr {sz : Int} {F : Int → Int} {v : PV} (h : TrieI sz F v) : ∃ ps, v = .ptr ps := by
  obtain ⟨n, f, n2, f2, idx, blk, rfl, _⟩ := h; exact ⟨_, rfl⟩
theorem TrieF.ptr {sz : Int} {F : Int → Fl} {v : PV} (h : TrieF sz F v) : ∃ ps, v = .ptr ps := by
  obtain ⟨n, f, n2, f2, idx, blk, rfl, _⟩ := h; exact ⟨_, rfl⟩
theorem TrieP.ptr {sz : Int} {F : Int → Int × Int} {v : PV} (h : TrieP sz F v) : ∃ ps, v = .ptr ps := by
  obtain ⟨n, f, n2, f2, idx, blk, rfl, _⟩ := h; exact ⟨_, rfl⟩
theorem zkr {rows : List Row} {k r : Int} (h : ¬ (0 ≤ r ∧ r < 1114112)) : za0 rows k r = none := by
  unfold za0; rw [if_neg (by omega)]
theorem z2m (rows : List Row) (k r : Int) : (if 0 ≤ r ∧ r < 1114112 then numG rows k r else 0) = numG rows k r := by
  split
  · rfl
  · rename_i h; unfold numG; rw [zkr h]
theorem zt5 (rows : List Row) (r : Int) : (if 0 ≤ r ∧ r < 1114112 then zag rows r else (0, 0)) = zag rows r := by
  split
  · rfl
  · rename_i h; unfold zag; rw [zkr h]
theorem zzw (rows : List Row) (r : Int) : (if 0 ≤ r ∧ r < 1114112 then ze3 rows r else (false, false, false, false)) = ze3 rows r := by
  split
  · rfl
  · rename_i h; unfold ze3 zhr; simp only [zkr h]
section
variable {rows : List Row} {tc tg tj tf tp : PV} (M S : List (PV × PV))
theorem zxj (ht : Tri rows tc tg tj tf tp) {r : Int} (hr : -2147483648 ≤ r ∧ r ≤ 2147483647) : PCall Tryz.prog 46 [.ptr [tc, tg, tj, tf, tp, .mp M, .mp S], .int .i32 r] fun v => v = .int .i64 (numG rows 1 r) := by
  refine zjm _ _ _ _ _ _ _ _ ?_
  unfold zdc
  obtain ⟨ps, rfl⟩ := ht.c.ptr
  refine .inl ⟨ps, rfl, ?_⟩
  have hw : IntKind.i64.wrap r = r := zaa (by omega) (by omega)
  rw [hw]
  refine (p115 ht.c r (by omega)).mono ?_
  rintro _ rfl
  exact ⟨_, rfl, by rw [z2m]⟩
theorem zxk (ht : Tri rows tc tg tj tf tp) {r : Int} (hr : -2147483648 ≤ r ∧ r ≤ 2147483647) : PCall Tryz.prog 68 [.ptr [tc, tg, tj, tf, tp, .mp M, .mp S], .int .i32 r] fun v =>
    v = .tup [.int .i32 (zag rows r).1, .int .i32 (zag rows r).2, .bool (!decide (zag rows r = (0, 0)))] := by
  refine zkk _ _ _ _ _ _ _ _ ?_
  unfold zdt
  obtain ⟨ps, rfl⟩ := ht.p.ptr
  refine .inl ⟨ps, rfl, ?_⟩
  have hw : IntKind.i64.wrap r = r := zaa (by omega) (by omega)
  rw [hw]
  refine (p84 ht.p r (by omega)).mono ?_
  rintro _ rfl
  rw [zt5]
  refine ⟨_, rfl, rfl, _, rfl, _, rfl, ?_⟩
  generalize zag rows r = p
  obtain ⟨a, b⟩ := p
  simp only [cond_false, Bool.and_true]
  congr 4
  by_cases h1 : a = 0 <;> by_cases h2 : b = 0 <;> simp [h1, h2]
theorem pOut (hp : zat rows) (ht : Tri rows tc tg tj tf tp) {r : Int} (hr : -2147483648 ≤ r ∧ r ≤ 2147483647) : PCall Tryz.prog 38 [.ptr [tc, tg, tj, tf, tp, .mp M, .mp S], .int .i32 r] fun v => v = .bool (outG rows r) := by
  refine zlg _ _ _ _ _ _ _ _ ?_
  unfold zeb
  refine (zxk M S ht hr).mono ?_
  rintro _ rfl
  have hrng := ze7 hp r
  have hf : zhr rows 3 r = (ze3 rows r).2.2.2 := rfl
  refine ⟨_, rfl, rfl, _, rfl, _, rfl, _, rfl, _, rfl, _, rfl, _, rfl, ?_⟩
  have hw : IntKind.i64.wrap r = r := zaa (by omega) (by omega)
  rw [hw]
  refine iteD (fun h1 => iteD (fun h2 => ?_) (fun h2 => ?_)) (fun h1 => ?_)
  · simp only [Bool.not_eq_true', decide_eq_false_iff_not] at h1
    simp only [beq_iff_eq] at h2
    unfold outG; simp [h1, h2]
  · simp only [Bool.not_eq_true', decide_eq_false_iff_not] at h1
    simp only [beq_iff_eq] at h2
    obtain ⟨ps, hps⟩ := ht.f.ptr
    refine .inl ⟨ps, by rw [hps], ?_⟩
    rw [← hps]
    refine (p111 ht.f r (by omega)).mono ?_
    rintro _ rfl
    rw [zzw]
    refine ⟨_, rfl, rfl, _, rfl, _, rfl, _, rfl, _, rfl, ?_⟩
    refine iteD (fun h3 => ?_) (fun h3 => ?_)
    · rw [← hf] at h3
      unfold outG; simp [h1, h2, h3]
    · rw [← hf] at h3
      refine (zxj M S ht hr).mono ?_
      rintro _ rfl
      refine ⟨_, rfl, ?_⟩
      refine iteD (fun h4 => ?_) (fun h4 => ?_)
      · simp only [bne_iff_ne, ne_eq] at h4
        unfold outG; simp [h1, h2, h4]
      · simp only [bne_iff_ne, ne_eq, Decidable.not_not] at h4
        refine (zxj M S ht (by omega)).mono ?_
        rintro _ rfl
        refine ⟨_, rfl, ?_⟩
        unfold outG
        simp only [Bool.not_eq_true] at h3
        simp only [h1, h2, h3, h4, decide_false, Bool.not_false, Bool.true_and, Bool.false_or, decide_true, Bool.not_true]
        rfl
  · simp only [Bool.not_eq_true', decide_eq_false_iff_not, Decidable.not_not] at h1
    unfold outG; simp [h1]
end
abbrev zcp (M : List ((Int × Int) × Int)) : List (PV × PV) := encM (fun p => .agg (encP p)) (fun n => .int .i32 n) M
abbrev zhb (S : List (Int × Bool)) : List (PV × PV) := encM (fun n => .int .i32 n) (fun b => .bool b) S
theorem z2n (p : Int × Int) : za1 Tryz.prog 63 (.agg (encP p)) = true := okEP p
theorem zxl (made : List ((Int × Int) × Int)) : zbk Tryz.prog 63 (zcp made) := by
  unfold zcp; exact EP.valsOk z2f z2g made
theorem z3z (made : List ((Int × Int) × Int)) (p : Int × Int) : zbc (.agg (encP p)) (zcp made) = (aget p made).map fun n => .int .i32 n := zdp (ek := fun p => PV.agg (encP p)) (ev := fun n => PV.int .i32 n) EP.valEq p made
end Go.Eng



namespace Go.Eng
open Go Go.Proofs Go.Eng.Rows Go.Eng.Trie
def zmy (rows : List Row) (v : PV) : Prop := ∃ tc tg tj tf tp made sec, v = .ptr [tc, tg, tj, tf, tp, .mp (zcp made), .mp (zhb sec)] ∧ Tri rows tc tg tj tf tp ∧ MadeOK rows (fun r => 0 ≤ r ∧ r ≤ 1114111) made sec
def toP (s : Sp) : Pc (Int × Int) := ⟨s.fr, s.to, (s.a, s.b)⟩
theorem zmz {v : PV} (h : ∃ ps, v = .ptr ps) : zhn v = true := by obtain ⟨ps, rfl⟩ := h; rfl
def zso (l : List Sp) (r : Int) : Prop := ∃ s ∈ l, s.has r
theorem z30 (n f : Bool) (rows : List Row) (hl : rows.length < 1000000) (hp : zat rows) : PCall Tryz.prog 10 [.sl n f (rws rows)] (zmy rows) := by
  have hg := zf6 2 rows
  have hlen := hg.len
  refine zsd _ _ _
    (fun _ _ s5 _ _ s28 x29 i h0 h1 h2 h3 _ s m2 m3 => s5 = sps (ofL 2 rows) ∧ s28 = sps (ofL 2 rows) ∧ x29 = (ofL 2 rows).length ∧ 0 ≤ i ∧ i ≤ x29 ∧ TrieI 1114112 (numG rows 1) h0 ∧ TrieI 1114112 (numG rows 4) h1 ∧ TrieI 1114112 (numG rows 6) h2 ∧ TrieF 1114112 (ze3 rows) h3 ∧
      s = pcsP (((ofL 2 rows).take i.toNat).map toP) ∧ m2 = [] ∧ m3 = []) (fun _ _ _ _ _ _ x29 i _ _ _ _ _ _ _ _ => (x29 - i).toNat)
    (fun _ _ s5 x29 i h0 h1 h2 h3 h4 m2 m3 => s5 = sps (ofL 2 rows) ∧ x29 = (ofL 2 rows).length ∧ 0 ≤ i ∧ i ≤ x29 ∧ Tri rows h0 h1 h2 h3 h4 ∧ ∃ made sec, m2 = zcp made ∧ m3 = zhb sec ∧ MadeOK rows (zso ((ofL 2 rows).take i.toNat)) made sec) (fun _ _ _ x29 i _ _ _ _ _ _ _ => (x29 - i).toNat)
    (fun _ _ _ _ _ i _ _ _ _ _ _ _ _ _ _ _ r _ _ s5 x29 i' h0 h1 h2 h3 h4 a b c d m2 m3 => s5 = sps (ofL 2 rows) ∧ x29 = (ofL 2 rows).length ∧ i = i' ∧ 0 ≤ i ∧ Tri rows h0 h1 h2 h3 h4 ∧ ∃ hi : i.toNat < (ofL 2 rows).length, a = (ofL 2 rows)[i.toNat].fr ∧ b = (ofL 2 rows)[i.toNat].to ∧ a ≤ r ∧ r ≤ b + 1 ∧
      ∃ made sec, m2 = zcp made ∧ m3 = zhb sec ∧ MadeOK rows (fun x => zso ((ofL 2 rows).take i.toNat) x ∨ (a ≤ x ∧ x < r)) made sec) (fun r _ _ _ _ _ _ _ _ _ _ _ b _ _ _ _ => (b + 1 - r).toNat) ?_
  unfold zii
  refine (zps _ _ rows 1 hl).mono fun v hv => (zps _ _ rows 4 hl).mono fun v1 hv1 => (zps _ _ rows 6 hl).mono fun v2 hv2 => (z2l _ _ rows hl).mono fun v3 hv3 => ⟨zmz hv.ptr, zmz hv1.ptr, zmz hv2.ptr, zmz hv3.ptr, ?_⟩
  refine (p29 _ _ rows 2 (by omega)).mono ?_
  rintro _ ⟨n1, f1, rfl⟩
  refine ⟨_, _, _, rfl, ⟨rfl, rfl, rfl, by rw [zcn], Int.le_refl _, by rw [zcn]; omega, hv, hv1, hv2, hv3, rfl, rfl, rfl⟩, ?_⟩
  clear hv hv1 hv2 hv3
  rintro n5 f5 _ n28 f28 _ _ i v v1 v2 v3 m _ _ _ ⟨rfl, rfl, rfl, i0, i1, hv, hv1, hv2, hv3, rfl, rfl, rfl⟩
  have hw : IntKind.i64.wrap (i + 1) = i + 1 := zaa (by omega) (by omega)
  refine iteD (fun hc => ?_) (fun hc => ?_)
  · simp only [decide_eq_true_eq] at hc
    have hi : i.toNat < (ofL 2 rows).length := by omega
    have hn : (i + 1).toNat = i.toNat + 1 := by omega
    have hgd : (sps (ofL 2 rows)).getD i.toNat [] = encS (ofL 2 rows)[i.toNat] := zap hi
    have hix : zam (sps (ofL 2 rows)) i 4 := zaj zcw i0 (by omega)
    have hsr := zt4 hp (List.getElem_mem hi)
    refine ⟨hix, (ofL 2 rows)[i.toNat].fr, by rw [hgd]; rfl, (ofL 2 rows)[i.toNat].to, by rw [hgd]; rfl, (ofL 2 rows)[i.toNat].a, by rw [hgd]; rfl, (ofL 2 rows)[i.toNat].b, by rw [hgd]; rfl, ⟨fun e he => by simp at he; subst he; rfl, by simp [pcsP]; omega⟩, rfl, ?_⟩
    have w1 : IntKind.i32.wrap (ofL 2 rows)[i.toNat].a = (ofL 2 rows)[i.toNat].a := za6 (by omega) (by omega)
    have w2 : IntKind.i32.wrap (ofL 2 rows)[i.toNat].b = (ofL 2 rows)[i.toNat].b := za6 (by omega) (by omega)
    rw [hw, w1, w2]
    refine ⟨⟨rfl, rfl, rfl, by omega, by omega, hv, hv1, hv2, hv3, ?_, rfl, rfl⟩, by dsimp only; omega⟩
    rw [hn, zas hi, List.map_append]
    unfold pcsP
    rw [List.map_append]
    rfl
  · simp only [decide_eq_true_eq] at hc
    rw [List.take_of_length_le (by omega)]
    refine (p83 1114112 (0, 0) _ _ ((ofL 2 rows).map toP) (by simp; omega) (fun p hp' => ?_) (by omega) (by omega)).mono fun v4 hv4 => ?_
    · obtain ⟨s, hs, rfl⟩ := List.mem_map.1 hp'
      have := hg.2 s hs
      simp only [toP]; omega
    have hv4 : TrieP 1114112 (zag rows) v4 := hv4.congr fun i h0 h1 => zxe rows i
    refine ⟨zmz hv4.ptr, ⟨rfl, rfl, by rw [zcn], Int.le_refl _, by rw [zcn]; omega, ⟨hv, hv1, hv2, hv3, hv4⟩, [], [], rfl, rfl, (MadeOK.nil rows).same fun r hr => ⟨False.elim, fun ⟨s, hs, _⟩ => by cases hs⟩⟩, ?_⟩
    clear hv hv1 hv2 hv3 hv4 hw hc i0 i1
    rintro n5 f5 _ _ i v v1 v2 v3 v4 _ _ ⟨rfl, rfl, i0, i1, htri, made, sec, rfl, rfl, hm⟩
    have hw : IntKind.i64.wrap (i + 1) = i + 1 := zaa (by omega) (by omega)
    refine iteD (fun hc => ?_) (fun hc => ?_)
    · simp only [decide_eq_true_eq] at hc
      have hi : i.toNat < (ofL 2 rows).length := by omega
      have hn : (i + 1).toNat = i.toNat + 1 := by omega
      have hgd : (sps (ofL 2 rows)).getD i.toNat [] = encS (ofL 2 rows)[i.toNat] := zap hi
      have hix : zam (sps (ofL 2 rows)) i 4 := zaj zcw i0 (by omega)
      have hsr := hg.2 _ (List.getElem_mem hi)
      have hts : (ofL 2 rows).take (i.toNat + 1) = (ofL 2 rows).take i.toNat ++ [(ofL 2 rows)[i.toNat]] := zas hi
      have hlt : ∀ x, zso ((ofL 2 rows).take i.toNat) x → x < (ofL 2 rows)[i.toNat].fr := fun x ⟨s, hs, hx⟩ => by
        obtain ⟨j, hj, rfl⟩ := List.getElem_of_mem hs
        rw [List.length_take] at hj
        rw [List.getElem_take] at hx
        have := (List.pairwise_iff_getElem.1 hg.1) j i.toNat (by omega) hi (by omega)
        unfold Sp.has at hx
        omega
      have w1 : IntKind.i32.wrap (ofL 2 rows)[i.toNat].fr = (ofL 2 rows)[i.toNat].fr := za6 (by omega) (by omega)
      refine ⟨hix, (ofL 2 rows)[i.toNat].fr, by rw [hgd]; rfl, (ofL 2 rows)[i.toNat].to, by rw [hgd]; rfl, (ofL 2 rows)[i.toNat].a, by rw [hgd]; rfl, (ofL 2 rows)[i.toNat].b, by rw [hgd]; rfl, ?_⟩
      rw [w1]
      refine ⟨⟨rfl, rfl, rfl, rfl, i0, htri, hi, rfl, rfl, Int.le_refl _, by omega, made, sec, rfl, rfl, hm.same fun r hr => ⟨.inl, fun h => h.elim id fun h => by omega⟩⟩, ?_⟩
      clear htri hm
      rintro r n5 f5 _ _ _ v v1 v2 v3 v4 _ _ c d _ _ ⟨rfl, rfl, rfl, _, htri, _, rfl, rfl, r0, r1, made, sec, rfl, rfl, hm⟩
      have hwr : IntKind.i64.wrap r = r := zaa (by omega) (by omega)
      have hwr1 : IntKind.i32.wrap (r + 1) = r + 1 := za6 (by omega) (by omega)
      rw [hwr]
      refine iteD (fun hc2 => ?_) (fun hc2 => ?_)
      · simp only [decide_eq_true_eq] at hc2
        have hhas : (ofL 2 rows)[i.toNat].has r := ⟨r0, hc2⟩
        have hpr := zvi (List.getElem_mem hi) hhas
        have hpne : zag rows r ≠ (0, 0) := by
          have := zt4 hp (List.getElem_mem hi)
          rw [hpr]; intro e; injection e with e1 e2; omega
        have hmax : ∀ x, (zso ((ofL 2 rows).take i.toNat) x ∨ ((ofL 2 rows)[i.toNat].fr ≤ x ∧ x < r)) → x < r := fun x hx => by
          rcases hx with hx | hx
          · have := hlt x hx; omega
          · exact hx.2
        have hD : ∀ x, ((zso ((ofL 2 rows).take i.toNat) x ∨ ((ofL 2 rows)[i.toNat].fr ≤ x ∧ x < r)) ∨ x = r) ↔ (zso ((ofL 2 rows).take i.toNat) x ∨ ((ofL 2 rows)[i.toNat].fr ≤ x ∧ x < r + 1)) := fun x => by
          constructor
          · rintro ((h | h) | h)
            · exact .inl h
            · exact .inr (by omega)
            · exact .inr (by omega)
          · rintro (h | h)
            · exact .inl (.inl h)
            · by_cases e : x = r
              · exact .inr e
              · exact .inl (.inr (by omega))
        have hmu : ((ofL 2 rows)[i.toNat].to + 1 - (r + 1)).toNat < ((ofL 2 rows)[i.toNat].to + 1 - r).toNat := by omega
        refine (p84 htri.p r (by omega)).mono ?_
        rintro _ rfl
        rw [zt5]
        refine ⟨_, rfl, rfl, _, rfl, _, rfl, zxl made, z2n (zag rows r), fun v7 hv7 => ?_, fun hv7 => ?_⟩
        · have hv7 : zbc (.agg (encP (zag rows r))) (zcp made) = some v7 := hv7
          rw [z3z] at hv7
          cases hk : aget (zag rows r) made with
          | none => rw [hk] at hv7; cases hv7
          | some q =>
            rw [hk] at hv7; cases hv7
            refine ⟨q, rfl, ?_⟩
            rw [hwr1]
            exact ⟨rfl, ⟨rfl, rfl, rfl, i0, htri, hi, rfl, rfl, by omega, by omega, made, sec, rfl, rfl, (hm.known hmax hk).same fun x hx => hD x⟩, hmu⟩
        · have hv7 : zbc (.agg (encP (zag rows r))) (zcp made) = none := hv7
          rw [z3z] at hv7
          have hk : aget (zag rows r) made = none := by cases h : aget (zag rows r) made with | none => rfl | some q => rw [h] at hv7; cases hv7
          refine (pOut _ _ hp htri (by omega)).mono ?_
          rintro _ rfl
          refine ⟨_, rfl, rfl, ?_⟩
          rw [hwr1]
          refine iteD (fun ho => ?_) (fun ho => ?_)
          · simp only [Bool.not_eq_true'] at ho
            have hm' := (hm.put hmax hk ⟨hpne, ho⟩).same fun x hx => hD x
            obtain ⟨e1, e2⟩ := zjr (.agg (encP (zag rows r))) (za3 (.agg (encP (zag rows r))) (.int .i32 0) (zcp made)) (.int .i32 r) (zcp made)
            obtain ⟨e3, e4⟩ := zjr (.int .i32 (zag rows r).2) (za3 (.int .i32 (zag rows r).2) (.bool false) (zhb sec)) (.bool true) (zhb sec)
            have e1 := e1.trans (zb2 (ek := fun p => PV.agg (encP p)) (ev := fun n => PV.int .i32 n) EP.valEq (zag rows r) r made)
            have e3 := e3.trans (zb2 (ek := fun n => PV.int .i32 n) (ev := fun b => PV.bool b) (zg5 .i32) (zag rows r).2 true sec)
            have b1 : (0 : Int) ≤ (zbq (.agg (encP (zag rows r))) (zcp made) : Nat) ∧ ((zbq (.agg (encP (zag rows r))) (zcp made) : Nat) : Int).toNat < (zai (.agg (encP (zag rows r))) (za3 (.agg (encP (zag rows r))) (.int .i32 0) (zcp made)) (zcp made)).length := ⟨by omega, by rw [Int.toNat_natCast]; exact e2⟩
            have b2 : (0 : Int) ≤ (zbq (.int .i32 (zag rows r).2) (zhb sec) : Nat) ∧ ((zbq (.int .i32 (zag rows r).2) (zhb sec) : Nat) : Int).toNat < (zai (.int .i32 (zag rows r).2) (za3 (.int .i32 (zag rows r).2) (.bool false) (zhb sec)) (zhb sec)).length := ⟨by omega, by rw [Int.toNat_natCast]; exact e4⟩
            refine ⟨⟨zxl made, z2n _, b1, zcx sec, b2, ?_⟩, zxl made, z2n _, ⟨b1, zcx sec, b2, ?_⟩, b1, zcx sec, b2, ?_⟩
            all_goals exact ⟨rfl, ⟨rfl, rfl, rfl, i0, htri, hi, rfl, rfl, by omega, by omega, aset (zag rows r) r made, aset (zag rows r).2 true sec, e1, e3, hm'⟩, hmu⟩
          · simp only [Bool.not_eq_true', Bool.not_eq_false] at ho
            exact ⟨rfl, ⟨rfl, rfl, rfl, i0, htri, hi, rfl, rfl, by omega, by omega, made, sec, rfl, rfl, (hm.out ho).same fun x hx => hD x⟩, hmu⟩
      · simp only [decide_eq_true_eq] at hc2
        rw [hw]
        refine ⟨rfl, ⟨rfl, rfl, by omega, by omega, htri, made, sec, rfl, rfl, ?_⟩, by dsimp only; omega⟩
        rw [hn, hts]
        refine hm.same fun x hx => ?_
        unfold zso
        constructor
        · rintro (⟨s, hs, h⟩ | h)
          · exact ⟨s, List.mem_append_left _ hs, h⟩
          · exact ⟨_, List.mem_append_right _ (List.mem_singleton.2 rfl), by unfold Sp.has; omega⟩
        · rintro ⟨s, hs, h⟩
          rcases List.mem_append.1 hs with hs | hs
          · exact .inl ⟨s, hs, h⟩
          · simp only [List.mem_singleton] at hs; subst hs
            unfold Sp.has at h; exact .inr (by omega)
    · simp only [decide_eq_true_eq] at hc
      rw [List.take_of_length_le (by omega)] at hm
      refine ⟨v, v1, v2, v3, v4, made, sec, rfl, htri, hm.same fun r hr => ?_⟩
      constructor
      · rintro ⟨s, hs, h⟩
        have := hg.2 s hs
        unfold Sp.has at h
        omega
      · intro _
        exact zzv hr.1
end Go.Eng



namespace Go.Eng.Rows
open Go Go.Eng Go.Eng.Trie
def sylB (r : Int) : Bool := decide (44032 ≤ r) && decide (r ≤ 55203)
def zcu (r : Int) : List Int :=
  if (r - 44032) % 28 = 0 then [4352 + (r - 44032) / 588, 4449 + (r - 44032) / 28 % 21]
  else [4352 + (r - 44032) / 588, 4449 + (r - 44032) / 28 % 21, 4519 + (r - 44032) % 28]
def hsec (r : Int) : Bool := (decide (4449 ≤ r) && decide (r ≤ 4469)) || (decide (4520 ≤ r) && decide (r ≤ 4546))
def zak (rows : List Row) : Nat → Int → List Int
  | 0, r => if sylB r then zcu r else [r]
  | d + 1, r => if sylB r then zcu r else if zag rows r = (0, 0) then [r] else zak rows d (zag rows r).1 ++ (if (zag rows r).2 = 0 then [] else zak rows d (zag rows r).2)
def sec4 (rows : List Row) (r : Int) : Bool := rows.any fun x => decide (x.kind = 2) && (decide (x.b = r) && (!decide (r = 0) && !outG rows x.fr))
def ofQ (rows : List Row) (r : Int) : Int := if outG rows r then 1 else if sec4 rows r || hsec r then 2 else 0
def z31 (rows : List Row) (r : Int) : Int := (zak rows 8 r).headD 0
def z2o (rows : List Row) (r : Int) : Bool := (decide (numG rows 1 r = 0) && decide (ofQ rows r = 0)) && (decide (numG rows 1 (z31 rows r) = 0) && decide (ofQ rows (z31 rows r) = 0))
theorem zb1 {rows : List Row} {d : Nat} {r : Int} (h : sylB r = true) : zak rows d r = zcu r := by cases d <;> simp [zak, h]
theorem zga {rows : List Row} {d : Nat} {r : Int} (h : sylB r = false) (h2 : zag rows r = (0, 0)) : zak rows d r = [r] := by cases d <;> simp [zak, h, h2]
theorem zer (r : Int) : (zcu r).length ≤ 3 := by unfold zcu; split <;> simp
theorem zcv (rows : List Row) : ∀ (d : Nat) (r : Int), (zak rows d r).length ≤ 3 * 2 ^ d
  | 0, r => by
    unfold zak; split
    · have := zer r; simp; omega
    · simp
  | d + 1, r => by
    unfold zak
    have h2 : 2 ^ (d + 1) = 2 * 2 ^ d := by rw [Nat.pow_succ]; omega
    have h3 : 1 ≤ 2 ^ d := Nat.one_le_two_pow
    split
    · have := zer r; omega
    · split
      · simp; omega
      · have e1 := zcv rows d (zag rows r).1
        rw [List.length_append]
        split
        · simp; omega
        · have e2 := zcv rows d (zag rows r).2; omega
theorem zoj {r : Int} (h : sylB r = true) : ∀ x ∈ zcu r, 0 ≤ x ∧ x ≤ 1114111 := by
  simp only [sylB, Bool.and_eq_true, decide_eq_true_eq] at h
  intro x hx
  unfold zcu at hx
  split at hx <;> simp only [List.mem_cons, List.not_mem_nil, or_false] at hx
  · rcases hx with rfl | rfl <;> omega
  · rcases hx with rfl | rfl | rfl <;> omega
theorem zrh (r : Int) : zcu r ≠ [] := by unfold zcu; split <;> simp
theorem zt6 (rows : List Row) : ∀ (d : Nat) (r : Int), zak rows d r ≠ []
  | 0, r => by unfold zak; split; exact zrh r; simp
  | d + 1, r => by
    unfold zak
    split
    · exact zrh r
    · split
      · simp
      · intro e; exact zt6 rows d _ (List.append_eq_nil_iff.1 e).1
theorem zjs {rows : List Row} (hp : zat rows) : ∀ (d : Nat) (r : Int), ∀ x ∈ zak rows d r, x = r ∨ (0 ≤ x ∧ x ≤ 1114111)
  | 0, r => fun x hx => by
    unfold zak at hx
    split at hx
    · rename_i h; exact .inr (zoj h x hx)
    · simp at hx; exact .inl hx
  | d + 1, r => fun x hx => by
    unfold zak at hx
    have hg := ze7 hp r
    split at hx
    · rename_i h; exact .inr (zoj h x hx)
    · split at hx
      · simp at hx; exact .inl hx
      · rcases List.mem_append.1 hx with hx | hx
        · rcases zjs hp d _ x hx with rfl | h
          · exact .inr hg.1
          · exact .inr h
        · split at hx
          · cases hx
          · rcases zjs hp d _ x hx with rfl | h
            · exact .inr hg.2
            · exact .inr h
def zce (rows : List Row) : Prop := ∀ x ∈ rows, x.kind = 2 → x.fr = x.to ∧ (0 ≤ x.fr ∧ x.fr ≤ 1114111) ∧ first rows 2 x.fr = some (x.a, x.b)
end Go.Eng.Rows



namespace Go.Eng
open Go Go.Proofs Go.Eng.Rows Go.Eng.Trie
theorem zd1 (a b : List Int) : i32s (a ++ b) = i32s a ++ i32s b := by simp [i32s]
theorem zcf (a : List Int) : szOK (i32s a) 1 := zln (enc := fun n => [PV.int .i32 n]) (fun _ => rfl) a
def R32 (l : List Int) : Prop := ∀ x ∈ l, -2147483648 ≤ x ∧ x ≤ 2147483647
theorem zxm (x : Int) : ([PV.int .i32 x] : List PV).length = 1 := rfl
theorem zh5 {l : List Int} {i : Int} (h0 : 0 ≤ i) (hi : i.toNat < l.length) : zam (i32s l) i 1 ∧ (i32s l).getD i.toNat [] = [.int .i32 l[i.toNat]] :=
  ⟨zaj zxm h0 (by omega), zap hi⟩
theorem pSyl (r : Int) : PCall Tryz.prog 117 [.int .i32 r] fun v => v = .bool (sylB r) := by
  refine zkg _ ?_; unfold zdq
  unfold sylB
  by_cases h1 : 44032 ≤ r <;> by_cases h2 : r ≤ 55203 <;> simp [h1, h2] <;> omega
theorem pIs (r : Int) : PCall Tryz.prog 72 [.int .i32 r] fun v => v = .bool (sylB r) := by
  refine zkh _ ?_; unfold zdr
  unfold sylB
  by_cases h1 : 44032 ≤ r <;> by_cases h2 : r ≤ 55203 <;> simp [h1, h2]
theorem zri {r : Int} (h : sylB r = true) : (44032 ≤ r ∧ r ≤ 55203) ∧ IntKind.i32.wrap (r - 44032) = r - 44032 ∧ IntKind.i32.wrap (4352 + IntKind.i32.wrap ((r - 44032).tdiv 588)) = 4352 + (r - 44032) / 588 ∧
    IntKind.i32.wrap (4449 + (IntKind.i32.wrap ((r - 44032).tdiv 28)).tmod 21) = 4449 + (r - 44032) / 28 % 21 ∧ IntKind.i32.wrap (4519 + (r - 44032).tmod 28) = 4519 + (r - 44032) % 28 := by
  simp only [sylB, Bool.and_eq_true, decide_eq_true_eq] at h
  have e1 : (r - 44032).tdiv 588 = (r - 44032) / 588 := Int.tdiv_eq_ediv_of_nonneg (by omega)
  have e2 : (r - 44032).tdiv 28 = (r - 44032) / 28 := Int.tdiv_eq_ediv_of_nonneg (by omega)
  have e3 : (r - 44032).tmod 28 = (r - 44032) % 28 := Int.tmod_eq_emod_of_nonneg (by omega)
  have w1 : IntKind.i32.wrap ((r - 44032) / 588) = (r - 44032) / 588 := za6 (by omega) (by omega)
  have w2 : IntKind.i32.wrap ((r - 44032) / 28) = (r - 44032) / 28 := za6 (by omega) (by omega)
  have e4 : ((r - 44032) / 28).tmod 21 = (r - 44032) / 28 % 21 := Int.tmod_eq_emod_of_nonneg (by omega)
  rw [e1, e2, e3, w1, w2, e4]
  exact ⟨h, za6 (by omega) (by omega), za6 (by omega) (by omega), za6 (by omega) (by omega), za6 (by omega) (by omega)⟩
theorem zt7 (r : Int) : PCall Tryz.prog 96 [.int .i32 r] fun v => if sylB r then v = .sl false true (i32s (zcu r)) else v = .sl true true [] := by
  refine znk _ ?_; unfold zfi
  refine (pSyl r).mono ?_
  rintro _ rfl
  refine ⟨_, rfl, ?_⟩
  cases h : sylB r with
  | false => exact iteT rfl rfl
  | true =>
    obtain ⟨hr, a1, a2, a3, a4⟩ := zri h
    refine iteF (by simp) ?_
    rw [a1, a2, a3, a4]
    refine ⟨⟨rfl, by omega⟩, ⟨by omega, by omega⟩, _, rfl, ?_⟩
    by_cases hc : (r - 44032) % 28 = 0
    · refine iteT (by simp; omega) ⟨⟨by unfold slOK; simp, rfl⟩, ?_⟩
      simp [zcu, hc, i32s]
    · refine iteF (by simp; omega) ⟨⟨by unfold slOK; simp, rfl⟩, ?_⟩
      simp [zcu, hc, i32s]
def z2p (L : List Int) (r1 : LV) (h' : Hp) : Prop := (∃ nl, r1 = .own 0 ∧ h' = [.sl (21, 1) true nl (i32s L)]) ∨ (r1 = .pv (.sl false true (i32s L)) ∧ h' = [])
def FullR (L : List Int) (r1 : LV) (h' : Hp) : Prop := (∃ m nl, r1 = .own 0 ∧ h' = [.sl (21, 1) m nl (i32s L)]) ∨ (r1 = .pv (.sl false true (i32s L)) ∧ h' = [])
theorem FullR.mark {f : Nat} {args : List LV} {L : List Int} (h : ACall Tryz.prog f args [] (FullR L)) : ACall Tryz.prog f args [] (z2p L) := by
  refine ACall.mark 0 [] h ?_
  rintro r h' (⟨m, nl, rfl, rfl⟩ | ⟨rfl, rfl⟩)
  · exact .inl ⟨nl, rfl, rfl⟩
  · exact .inr ⟨rfl, rfl⟩
theorem zsp {r : Int} (hs : sylB r = true) : ACall Tryz.prog 73 [.pv (.int .i32 r)] [] (z2p (zcu r)) := by
  refine FullR.mark (zeg _ ?_); unfold zbm
  refine (pIs r).mono ?_
  rintro _ rfl
  refine ⟨_, rfl, ?_⟩
  rw [hs]
  refine iteF (by simp) ?_
  obtain ⟨hr, a1, a2, a3, a4⟩ := zri hs
  have w0 : IntKind.i64.wrap r = r := zaa (by omega) (by omega)
  have w1 : IntKind.i64.wrap (r - 44032) = r - 44032 := zaa (by omega) (by omega)
  have e1 : (r - 44032).tdiv 588 = (r - 44032) / 588 := Int.tdiv_eq_ediv_of_nonneg (by omega)
  have e2 : (r - 44032).tdiv 28 = (r - 44032) / 28 := Int.tdiv_eq_ediv_of_nonneg (by omega)
  have e3 : (r - 44032).tmod 28 = (r - 44032) % 28 := Int.tmod_eq_emod_of_nonneg (by omega)
  have w2 : IntKind.i64.wrap ((r - 44032) / 588) = (r - 44032) / 588 := zaa (by omega) (by omega)
  have w3 : IntKind.i64.wrap ((r - 44032) / 28) = (r - 44032) / 28 := zaa (by omega) (by omega)
  have e4 : ((r - 44032) / 28).tmod 21 = (r - 44032) / 28 % 21 := Int.tmod_eq_emod_of_nonneg (by omega)
  rw [w0, w1, e1, e2, e3, w2, w3, e4]
  have w4 : IntKind.i64.wrap (4352 + (r - 44032) / 588) = 4352 + (r - 44032) / 588 := zaa (by omega) (by omega)
  have w5 : IntKind.i64.wrap (4449 + (r - 44032) / 28 % 21) = 4449 + (r - 44032) / 28 % 21 := zaa (by omega) (by omega)
  have w6 : IntKind.i64.wrap (4519 + (r - 44032) % 28) = 4519 + (r - 44032) % 28 := zaa (by omega) (by omega)
  rw [w4, w5, w6]
  have w7 : IntKind.i32.wrap (4352 + (r - 44032) / 588) = 4352 + (r - 44032) / 588 := za6 (by omega) (by omega)
  have w8 : IntKind.i32.wrap (4449 + (r - 44032) / 28 % 21) = 4449 + (r - 44032) / 28 % 21 := za6 (by omega) (by omega)
  have w9 : IntKind.i32.wrap (4519 + (r - 44032) % 28) = 4519 + (r - 44032) % 28 := za6 (by omega) (by omega)
  rw [w7, w8, w9]
  by_cases hc : (r - 44032) % 28 = 0
  · refine iteF (by simp [hc]) (.inr ⟨by simp [zcu, hc, i32s], rfl⟩)
  · refine iteT (by simp [hc]) ⟨?_, .inl ⟨false, false, rfl, by simp [zcu, hc, i32s]⟩⟩
    exact ⟨rfl, .inr (by simp), zcf [_, _], zcf [_], by simp⟩
section
variable {rows : List Row}
theorem pA (n f : Bool) (k r : Int) (hl : rows.length < 1000000) (hr : -9223372036854775808 ≤ r ∧ r ≤ 9223372036854775807) : PCall Tryz.prog 120 [.sl n f (rws rows), .int .i64 k, .int .i64 r] fun v => v = .int .i64 (numG rows k r) := by
  refine zlf _ _ _ _ _ ?_; unfold zea
  refine (p33 n f rows k r (by omega)).mono ?_
  rintro _ ⟨m, rfl, hm⟩
  refine ⟨m, rfl, ?_⟩
  rcases hm with ⟨rfl, hn⟩ | ⟨m0, hm, hr2, hf⟩
  · refine iteT (by simp) ?_
    unfold numG za0
    split
    · rename_i p hp
      split at hp
      · rename_i hr2; rw [hn hr2.1 hr2.2] at hp; cases hp
      · cases hp
    · rfl
  · refine iteF (by simp; omega) ?_
    have hg : (rws rows).getD m.toNat [] = encR rows[m.toNat] := zap hm
    refine ⟨zaj zhl m0 (by omega), rows[m.toNat].a, by rw [hg]; rfl, ?_⟩
    unfold numG za0
    rw [if_pos hr2, hf]
theorem pOf4 (n f : Bool) (k r : Int) (hl : rows.length < 1000000) (hr : -2147483648 ≤ r ∧ r ≤ 2147483647) : PCall Tryz.prog 102 [.sl n f (rws rows), .int .i64 k, .int .i32 r] fun v => v = .int .i64 (numG rows k r) := by
  refine zki _ _ _ _ _ ?_; unfold zds
  have hw : IntKind.i64.wrap r = r := zaa (by omega) (by omega)
  rw [hw]
  refine (pA n f k r hl (by omega)).mono ?_
  rintro _ rfl
  exact ⟨_, rfl, rfl⟩
theorem zpt (n f : Bool) (r : Int) (hl : rows.length < 1000000) (hr : -2147483648 ≤ r ∧ r ≤ 2147483647) : PCall Tryz.prog 75 [.sl n f (rws rows), .int .i32 r] fun v => v = .int .i64 (numG rows 1 r) := by
  refine zhq _ _ _ _ ?_; unfold zcl
  refine (pOf4 n f 1 r hl hr).mono ?_
  rintro _ rfl
  exact ⟨_, rfl, rfl⟩
theorem zt8 (hp : zat rows) (n f : Bool) (r : Int) (hl : rows.length < 1000000) (hr : -2147483648 ≤ r ∧ r ≤ 2147483647) : PCall Tryz.prog 74 [.sl n f (rws rows), .int .i32 r] fun v =>
    v = .tup [.int .i32 (zag rows r).1, .int .i32 (zag rows r).2, .bool (!decide (zag rows r = (0, 0)))] := by
  refine zih _ _ _ _ ?_; unfold zcy
  have hw : IntKind.i64.wrap r = r := zaa (by omega) (by omega)
  rw [hw]
  refine (p33 n f rows 2 r (by omega)).mono ?_
  rintro _ ⟨m, rfl, hm⟩
  refine ⟨m, rfl, ?_⟩
  rcases hm with ⟨rfl, hn⟩ | ⟨m0, hm, hr2, hf⟩
  · refine iteT (by simp) ?_
    have : zag rows r = (0, 0) := by
      unfold zag za0
      split
      · rename_i p hp
        split at hp
        · rename_i hr2; rw [hn hr2.1 hr2.2] at hp; cases hp
        · cases hp
      · rfl
    rw [this]; rfl
  · refine iteF (by simp; omega) ?_
    have hg : (rws rows).getD m.toNat [] = encR rows[m.toNat] := zap hm
    have hfg : za0 rows 2 r = some (rows[m.toNat].a, rows[m.toNat].b) := by unfold za0; rw [if_pos hr2]; exact hf
    have hne := zzu hp hfg
    have hpg : zag rows r = (rows[m.toNat].a, rows[m.toNat].b) := by unfold zag; rw [hfg]
    have hrng := ze7 hp r
    obtain ⟨y, hy, hk, ha, hb2, _⟩ := zdw hfg
    have hya := hp y hy hk
    rw [hpg] at hrng hne ⊢
    simp only at hrng ha hb2
    have w1 : IntKind.i32.wrap rows[m.toNat].a = rows[m.toNat].a := za6 (by omega) (by omega)
    have w2 : IntKind.i32.wrap rows[m.toNat].b = rows[m.toNat].b := za6 (by omega) (by omega)
    have hix : zam (rws rows) m 5 := zaj zhl m0 (by omega)
    refine ⟨hix, rows[m.toNat].a, by rw [hg]; rfl, ?_⟩
    refine iteF (by simp; omega) ⟨hix, rows[m.toNat].a, by rw [hg]; rfl, hix, rows[m.toNat].b, by rw [hg]; rfl, ?_⟩
    rw [w1, w2]
    simp [hne]
end
end Go.Eng



namespace Go.Eng
open Go Go.Proofs Go.Eng.Rows Go.Eng.Trie
section
variable {rows : List Row}
theorem z32 (hp : zat rows) (n f : Bool) (hl : rows.length < 1000000) : ∀ (d : Nat) (r : Int), d ≤ 8 → (-2147483648 ≤ r ∧ r ≤ 2147483647) →
    ACall Tryz.prog 42 [.pv (.sl n f (rws rows)), .pv (.int .i32 r), .pv (.int .i64 d)] [] (z2p (zak rows d r)) := by
  intro d
  induction d with
  | zero =>
    intro r hd hr
    refine FullR.mark (ze0 _ _ _ _ _ ?_); unfold zbx
    refine (pIs r).mono ?_
    rintro _ rfl
    refine ⟨_, rfl, ?_⟩
    refine iteD (fun hs => ?_) (fun hs => ?_)
    · rw [zb1 hs]
      refine (zsp hs).mono ?_
      rintro r1 h' (⟨nl, rfl, rfl⟩ | ⟨rfl, rfl⟩)
      · exact .inl ⟨(nl, _), ⟨rfl, rfl⟩, trivial, .inl ⟨true, nl, rfl, rfl⟩⟩
      · exact .inr ⟨_, ⟨rfl, rfl⟩, trivial, .inr ⟨rfl, rfl⟩⟩
    · simp only [Bool.not_eq_true] at hs
      refine (zt8 hp n f r hl hr).mono ?_
      rintro _ rfl
      refine ⟨_, rfl, rfl, _, rfl, _, rfl, _, rfl, _, rfl, _, rfl, _, rfl, ?_⟩
      refine iteT (by simp) (.inr ⟨?_, rfl⟩)
      simp [zak, hs, i32s]
  | succ d ih =>
    intro r hd hr
    have hg := ze7 hp r
    have hw : IntKind.i64.wrap (((d + 1 : Nat) : Int) - 1) = (d : Int) := by rw [show (((d + 1 : Nat) : Int) - 1) = (d : Int) by omega]; exact zaa (by omega) (by omega)
    refine FullR.mark (ze0 _ _ _ _ _ ?_); unfold zbx
    rw [hw]
    refine (pIs r).mono ?_
    rintro _ rfl
    refine ⟨_, rfl, ?_⟩
    refine iteD (fun hs => ?_) (fun hs => ?_)
    · rw [zb1 hs]
      refine (zsp hs).mono ?_
      rintro r1 h' (⟨nl, rfl, rfl⟩ | ⟨rfl, rfl⟩)
      · exact .inl ⟨(nl, _), ⟨rfl, rfl⟩, trivial, .inl ⟨true, nl, rfl, rfl⟩⟩
      · exact .inr ⟨_, ⟨rfl, rfl⟩, trivial, .inr ⟨rfl, rfl⟩⟩
    · simp only [Bool.not_eq_true] at hs
      refine (zt8 hp n f r hl hr).mono ?_
      rintro _ rfl
      refine ⟨_, rfl, rfl, _, rfl, _, rfl, _, rfl, _, rfl, _, rfl, _, rfl, ?_⟩
      by_cases h0 : zag rows r = (0, 0)
      · refine iteT (by simp [h0]) (.inr ⟨?_, rfl⟩)
        rw [zga hs h0]; rfl
      · refine iteF (by simp [h0]; omega) ?_
        have hpow : 2 ^ d ≤ 2 ^ 8 := Nat.pow_le_pow_right (by omega) (by omega)
        have ea := zcv rows d (zag rows r).1
        have eb := zcv rows d (zag rows r).2
        have na := zt6 rows d (zag rows r).2
        have heq : zak rows (d + 1) r = zak rows d (zag rows r).1 ++ (if (zag rows r).2 = 0 then [] else zak rows d (zag rows r).2) := by
          rw [zak]; simp [hs, h0]
        rw [heq]
        refine (ih (zag rows r).1 (by omega) (by omega)).mono ?_
        have second : ∀ (K : LV → Hp → Prop), (zag rows r).2 ≠ 0 → (∀ nl, K (.own 0) [.sl (21, 1) true nl (i32s (zak rows d (zag rows r).2))]) → K (.pv (.sl false true (i32s (zak rows d (zag rows r).2)))) [] → ACall Tryz.prog 42 [.pv (.sl n f (rws rows)), .pv (.int .i32 (zag rows r).2), .pv (.int .i64 d)] [] K := fun K _ k1 k2 => by
          refine (ih (zag rows r).2 (by omega) (by omega)).mono ?_
          rintro r1 h' (⟨nl, rfl, rfl⟩ | ⟨rfl, rfl⟩)
          · exact k1 nl
          · exact k2
        have sz : ∀ L : List Int, L.length ≤ 768 → ((i32s (zak rows d (zag rows r).1)).length + (i32s L).length) * 4 ≤ 140737488355328 := fun L h => by simp only [zac]; omega
        rintro r1 h' (⟨nl, rfl, rfl⟩ | ⟨rfl, rfl⟩)
        · refine .inl ⟨(nl, _), ⟨rfl, rfl⟩, trivial, iteD (fun hb => ?_) (fun hb => ?_)⟩
          · simp only [bne_iff_ne, ne_eq] at hb
            rw [if_neg hb]
            refine second _ hb (fun nl2 => .inl ⟨(nl2, _), ⟨rfl, rfl⟩, trivial, ⟨zcf _, sz _ (by omega)⟩, .inl ⟨true, _, rfl, by rw [zd1]; rfl⟩⟩) (.inr ⟨_, ⟨rfl, rfl⟩, trivial, ⟨zcf _, sz _ (by omega)⟩, .inl ⟨true, _, rfl, by rw [zd1]; rfl⟩⟩)
          · simp only [bne_iff_ne, ne_eq, Decidable.not_not] at hb
            rw [if_pos hb, List.append_nil]
            exact .inl ⟨true, nl, rfl, rfl⟩
        · refine .inr ⟨_, ⟨rfl, rfl⟩, trivial, iteD (fun hb => ?_) (fun hb => ?_)⟩
          · simp only [bne_iff_ne, ne_eq] at hb
            rw [if_neg hb]
            have ap : ApOK true (i32s (zak rows d (zag rows r).1)) (i32s (zak rows d (zag rows r).2)) 1 4 := ⟨rfl, .inr (by simpa [i32s] using na), zcf _, zcf _, sz _ (by omega)⟩
            refine second _ hb (fun nl2 => .inl ⟨(nl2, _), ⟨rfl, rfl⟩, trivial, ap, .inl ⟨false, _, rfl, by rw [zd1]; rfl⟩⟩) (.inr ⟨_, ⟨rfl, rfl⟩, trivial, ap, .inl ⟨false, _, rfl, by rw [zd1]⟩⟩)
          · simp only [bne_iff_ne, ne_eq, Decidable.not_not] at hb
            rw [if_pos hb, List.append_nil]
            exact .inr ⟨rfl, rfl⟩
end
end Go.Eng


