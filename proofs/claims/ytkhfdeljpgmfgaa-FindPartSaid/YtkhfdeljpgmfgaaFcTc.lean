/- Abstract states run over the code; what each function gives, printed by program and checked by the kernel; and what follows of it. -/
import Derived.Test.YtkhfdeljpgmfgaaFcTb
set_option linter.unusedVariables false
set_option linter.unusedSimpArgs false
set_option maxRecDepth 100000
set_option linter.constructorNameAsVariable false
namespace Go.Eng
open Go Go.Proofs Go.Eng.Rows Go.Eng.Trie
section
variable {rows : List Row} {tc tg tj tf tp : PV} (M S : List (PV × PV))
def zF (T : PV) (L : List Int) (r1 : LV) (h' : Hp) : Prop := ∃ nl, r1 = .tup [] ∧ h' = [.box [.pv T, .own 1], .sl (21, 1) true nl (aA L)]
theorem zfh (hp : dA rows) (ht : iY rows tc tg tj tf tp) : ∀ (d : Nat) (r : Int) (nl : Bool) (pre : List Int), d ≤ 8 → (-2147483648 ≤ r ∧ r ≤ 2147483647) → pre.length + 3 * 2 ^ d ≤ 1000000000 →
    ACall Try.prog 43 [.box 0 0, .pv (.int .i32 r), .pv (.int .i64 d)] [.box [.pv (.ptr [tc, tg, tj, tf, tp, .mp M, .mp S]), .own 1], .sl (21, 1) false nl (aA pre)] (zF (.ptr [tc, tg, tj, tf, tp, .mp M, .mp S]) (pre ++ aN rows d r)) := by
  intro d
  induction d with
  | zero =>
    intro r nl pre hd hr hb
    refine zdr _ _ _ _ _ _ _ _ _ _ _ ?_; unfold rX
    refine (sK r).mono ?_
    intro v hv
    by_cases hs : bV r = true
    · rw [if_pos hs] at hv; subst hv
      refine ⟨_, _, _, rfl, bN (by simp) ⟨⟨dE _, ?_⟩, _, rfl, by rw [gH hs, iZ]⟩⟩
      have := mP r
      simp only [bG]; omega
    · rw [if_neg hs] at hv; subst hv
      simp only [Bool.not_eq_true] at hs
      refine ⟨_, _, _, rfl, bO (by simp) ?_⟩
      refine (pB M S ht hr).mono ?_
      rintro _ rfl
      refine ⟨_, rfl, rfl, _, rfl, _, rfl, _, rfl, _, rfl, _, rfl, _, rfl, bN (by simp) ⟨⟨dE [_], ?_⟩, nl && false, rfl, ?_⟩⟩
      · simp only [bG]; omega
      · have : aN rows 0 r = [r] := by simp [aN, hs]
        rw [this, iZ]; rfl
  | succ d ih =>
    intro r nl pre hd hr hb
    have hg := mN hp r
    have hw : IntKind.i64.wrap (((d + 1 : Nat) : Int) - 1) = (d : Int) := by rw [show (((d + 1 : Nat) : Int) - 1) = (d : Int) by omega]; exact aD (by omega) (by omega)
    have h2 : 2 ^ (d + 1) = 2 * 2 ^ d := by rw [Nat.pow_succ]; omega
    have h3 : 1 ≤ 2 ^ d := Nat.one_le_two_pow
    refine zdr _ _ _ _ _ _ _ _ _ _ _ ?_; unfold rX
    rw [hw]
    refine (sK r).mono ?_
    intro v hv
    by_cases hs : bV r = true
    · rw [if_pos hs] at hv; subst hv
      refine ⟨_, _, _, rfl, bN (by simp) ⟨⟨dE _, ?_⟩, _, rfl, by rw [gH hs, iZ]⟩⟩
      have := mP r
      simp only [bG]; omega
    · rw [if_neg hs] at hv; subst hv
      simp only [Bool.not_eq_true] at hs
      refine ⟨_, _, _, rfl, bO (by simp) ?_⟩
      refine (pB M S ht hr).mono ?_
      rintro _ rfl
      refine ⟨_, rfl, rfl, _, rfl, _, rfl, _, rfl, _, rfl, _, rfl, _, rfl, ?_⟩
      by_cases h0 : aF rows r = (0, 0)
      · refine bN (by simp [h0]) ⟨⟨dE [_], ?_⟩, nl && false, rfl, ?_⟩
        · simp only [bG]; omega
        · rw [mO hs h0, iZ]; rfl
      · refine bO (by simp [h0]; omega) ?_
        have ea := hE rows d (aF rows r).1
        have heq : aN rows (d + 1) r = aN rows d (aF rows r).1 ++ (if (aF rows r).2 = 0 then [] else aN rows d (aF rows r).2) := by
          rw [aN]; simp [hs, h0]
        rw [heq]
        refine (ih (aF rows r).1 nl pre (by omega) (by omega) (by omega)).mono ?_
        rintro r1 h' ⟨nl1, rfl, rfl⟩
        refine ⟨(nl1, _), ⟨rfl, rfl⟩, ⟨trivial, trivial, trivial⟩, aI (fun hb2 => ?_) (fun hb2 => ?_)⟩
        · simp only [bne_iff_ne, ne_eq] at hb2
          rw [if_neg hb2]
          refine (ih (aF rows r).2 nl1 (pre ++ aN rows d (aF rows r).1) (by omega) (by omega) (by rw [List.length_append]; omega)).mono ?_
          rintro r2 h2 ⟨nl2, rfl, rfl⟩
          exact ⟨(nl2, _), ⟨rfl, rfl⟩, ⟨trivial, trivial, trivial⟩, nl2, rfl, by rw [← List.append_assoc]; rfl⟩
        · simp only [bne_iff_ne, ne_eq, Decidable.not_not] at hb2
          rw [if_pos hb2, List.append_nil]
          exact ⟨nl1, rfl, rfl⟩
theorem znk (hp : dA rows) (ht : iY rows tc tg tj tf tp) : ∀ (d : Nat) (r : Int), d ≤ 8 → (-2147483648 ≤ r ∧ r ≤ 2147483647) →
    ACall Try.prog 43 [.box 0 0, .pv (.int .i32 r), .pv (.int .i64 d)] [.box [.pv (.ptr [tc, tg, tj, tf, tp, .mp M, .mp S]), .pv (.sl true true [])]] (zF (.ptr [tc, tg, tj, tf, tp, .mp M, .mp S]) (aN rows d r)) := by
  intro d
  have mk : ∀ {L : List Int} {args : List LV} {h : Hp}, ACall Try.prog 43 args h (fun r1 h' => ∃ m nl, r1 = .tup [] ∧ h' = [.box [.pv (.ptr [tc, tg, tj, tf, tp, .mp M, .mp S]), .own 1], .sl (21, 1) m nl (aA L)]) → ACall Try.prog 43 args h (zF (.ptr [tc, tg, tj, tf, tp, .mp M, .mp S]) L) := fun {L args h} hc => by
    refine ACall.mark 0 [] hc ?_
    rintro r h' ⟨m, nl, rfl, rfl⟩
    exact ⟨nl, rfl, rfl⟩
  have base : ∀ (L : List Int), L.length ≤ 768 → fY true [] (aA L) 1 4 := fun L hL => ⟨rfl, .inl rfl, fun e he => (by cases he), dE L, by simp only [List.length_nil, bG]; omega⟩
  induction d with
  | zero =>
    intro r hd hr
    refine mk (zds _ _ _ _ _ _ _ _ _ ?_); unfold rY
    refine (sK r).mono ?_
    intro v hv
    by_cases hs : bV r = true
    · rw [if_pos hs] at hv; subst hv
      have := mP r
      exact ⟨_, _, _, rfl, bN (by simp) ⟨base _ (by omega), _, _, rfl, by rw [gH hs]; rfl⟩⟩
    · rw [if_neg hs] at hv; subst hv
      simp only [Bool.not_eq_true] at hs
      refine ⟨_, _, _, rfl, bO (by simp) ?_⟩
      refine (pB M S ht hr).mono ?_
      rintro _ rfl
      refine ⟨_, rfl, rfl, _, rfl, _, rfl, _, rfl, _, rfl, _, rfl, _, rfl, bN (by simp) ⟨base [_] (by simp), false, false, rfl, ?_⟩⟩
      have : aN rows 0 r = [r] := by simp [aN, hs]
      rw [this]; rfl
  | succ d ih =>
    intro r hd hr
    have hg := mN hp r
    have hw : IntKind.i64.wrap (((d + 1 : Nat) : Int) - 1) = (d : Int) := by rw [show (((d + 1 : Nat) : Int) - 1) = (d : Int) by omega]; exact aD (by omega) (by omega)
    have hpow : 2 ^ d ≤ 2 ^ 8 := Nat.pow_le_pow_right (by omega) (by omega)
    refine mk (zds _ _ _ _ _ _ _ _ _ ?_); unfold rY
    rw [hw]
    refine (sK r).mono ?_
    intro v hv
    by_cases hs : bV r = true
    · rw [if_pos hs] at hv; subst hv
      have := mP r
      exact ⟨_, _, _, rfl, bN (by simp) ⟨base _ (by omega), _, _, rfl, by rw [gH hs]; rfl⟩⟩
    · rw [if_neg hs] at hv; subst hv
      simp only [Bool.not_eq_true] at hs
      refine ⟨_, _, _, rfl, bO (by simp) ?_⟩
      refine (pB M S ht hr).mono ?_
      rintro _ rfl
      refine ⟨_, rfl, rfl, _, rfl, _, rfl, _, rfl, _, rfl, _, rfl, _, rfl, ?_⟩
      by_cases h0 : aF rows r = (0, 0)
      · refine bN (by simp [h0]) ⟨base [_] (by simp), false, false, rfl, ?_⟩
        rw [mO hs h0]; rfl
      · refine bO (by simp [h0]; omega) ?_
        have ea := hE rows d (aF rows r).1
        have heq : aN rows (d + 1) r = aN rows d (aF rows r).1 ++ (if (aF rows r).2 = 0 then [] else aN rows d (aF rows r).2) := by
          rw [aN]; simp [hs, h0]
        rw [heq]
        refine (ih (aF rows r).1 (by omega) (by omega)).mono ?_
        rintro r1 h' ⟨nl1, rfl, rfl⟩
        refine ⟨(nl1, _), ⟨rfl, rfl⟩, ⟨trivial, trivial⟩, aI (fun hb2 => ?_) (fun hb2 => ?_)⟩
        · simp only [bne_iff_ne, ne_eq] at hb2
          rw [if_neg hb2]
          refine (zfh M S hp ht d (aF rows r).2 nl1 (aN rows d (aF rows r).1) (by omega) (by omega) (by omega)).mono ?_
          rintro r2 h2 ⟨nl2, rfl, rfl⟩
          exact ⟨(nl2, _), ⟨rfl, rfl⟩, ⟨trivial, trivial, trivial⟩, true, nl2, rfl, rfl⟩
        · simp only [bne_iff_ne, ne_eq, Decidable.not_not] at hb2
          rw [if_pos hb2, List.append_nil]
          exact ⟨true, nl1, rfl, rfl⟩
theorem znl (hp : dA rows) (ht : iY rows tc tg tj tf tp) {r : Int} (hr : -2147483648 ≤ r ∧ r ≤ 2147483647) : PCall Try.prog 47 [.ptr [tc, tg, tj, tf, tp, .mp M, .mp S], .int .i32 r] fun v => ∃ nl, v = .sl nl false (aA (aN rows 8 r)) := by
  refine zj4 _ _ _ _ _ _ _ _ ?_; unfold wC
  refine ⟨rfl, ?_⟩
  refine (znk M S hp ht 8 r (by omega) hr).mono ?_
  rintro r1 h' ⟨nl, rfl, rfl⟩
  exact ⟨(nl, _), ⟨rfl, rfl⟩, ⟨trivial, trivial⟩, nl, rfl⟩
end
end Go.Eng



namespace Go.Eng.Srt
open Go Go.Eng
section
variable {α : Type} (key : α → Int)
def Srtd (l : List α) : Prop := l.Pairwise fun x y => key x ≤ key y
def Stab (l r : List α) : Prop := l.Perm r ∧ ∀ c, l.filter (fun x => decide (key x = c)) = r.filter (fun x => decide (key x = c))
variable {key}
theorem Stab.refl (l : List α) : Stab key l l := ⟨List.Perm.refl _, fun _ => rfl⟩
theorem Stab.trans {a b c : List α} (h : Stab key a b) (k : Stab key b c) : Stab key a c := ⟨h.1.trans k.1, fun x => (h.2 x).trans (k.2 x)⟩
theorem Stab.symm {a b : List α} (h : Stab key a b) : Stab key b a := ⟨h.1.symm, fun x => (h.2 x).symm⟩
theorem Stab.app {a b c d : List α} (h : Stab key a b) (k : Stab key c d) : Stab key (a ++ c) (b ++ d) := ⟨h.1.append k.1, fun x => by rw [List.filter_append, List.filter_append, h.2, k.2]⟩
theorem Stab.len {a b : List α} (h : Stab key a b) : a.length = b.length := h.1.length_eq
theorem Stab.mem {a b : List α} (h : Stab key a b) {x : α} : x ∈ a ↔ x ∈ b := h.1.mem_iff
theorem Stab.rot {a b : List α} (h : ∀ x ∈ a, ∀ y ∈ b, key x ≠ key y) : Stab key (a ++ b) (b ++ a) := by
  refine ⟨List.perm_append_comm, fun c => ?_⟩
  rw [List.filter_append, List.filter_append]
  by_cases hc : ∃ x ∈ a, key x = c
  · obtain ⟨x, hx, hxc⟩ := hc
    have : b.filter (fun x => decide (key x = c)) = [] := List.filter_eq_nil_iff.2 fun y hy => by
      simp only [decide_eq_true_eq]; intro e; exact h x hx y hy (hxc.trans e.symm)
    rw [this]; simp
  · have : a.filter (fun x => decide (key x = c)) = [] := List.filter_eq_nil_iff.2 fun y hy => by
      simp only [decide_eq_true_eq]; intro e; exact hc ⟨y, hy, e⟩
    rw [this]; simp
theorem Stab.rot1 {u v : List α} {a b : List α} (h : ∀ x ∈ a, ∀ y ∈ b, key x ≠ key y) : Stab key (u ++ (a ++ b) ++ v) (u ++ (b ++ a) ++ v) := ((Stab.refl u).app (.rot h)).app (.refl v)
theorem Stab.uniq : ∀ {l r : List α}, Srtd key l → Srtd key r → Stab key l r → l = r
  | [], r, _, _, h => by have := h.len; cases r with | nil => rfl | cons => simp at this
  | x :: l, [], _, _, h => by have := h.len; simp at this
  | x :: l, y :: r, hl, hr, h => by
    have hk : key x = key y := by
      have h1 : key x ≤ key y := by
        rcases List.mem_cons.1 (h.mem.2 List.mem_cons_self : y ∈ x :: l) with e | e
        · rw [e]; exact Int.le_refl _
        · exact (List.pairwise_cons.1 hl).1 y e
      have h2 : key y ≤ key x := by
        rcases List.mem_cons.1 (h.mem.1 List.mem_cons_self : x ∈ y :: r) with e | e
        · rw [e]; exact Int.le_refl _
        · exact (List.pairwise_cons.1 hr).1 x e
      omega
    have hxy : x = y := by
      have := h.2 (key x)
      rw [List.filter_cons, List.filter_cons, if_pos (by simp), if_pos (by simp [hk])] at this
      exact (List.cons.inj this).1
    subst hxy
    have ht : Stab key l r := ⟨(List.perm_cons x).1 h.1, fun c => by
      have := h.2 c
      rw [List.filter_cons, List.filter_cons] at this
      split at this
      · exact (List.cons.inj this).2
      · exact this⟩
    rw [Stab.uniq (List.pairwise_cons.1 hl).2 (List.pairwise_cons.1 hr).2 ht]
theorem gJ {a b : List α} : Srtd key (a ++ b) ↔ Srtd key a ∧ Srtd key b ∧ ∀ x ∈ a, ∀ y ∈ b, key x ≤ key y := List.pairwise_append
end
section
variable {α : Type}
theorem mQ (u v : List α) (x : α) : (u ++ x :: v)[u.length]? = some x := by simp
theorem pD (u v : List α) (x y : α) : (u ++ x :: v).set u.length y = u ++ y :: v := by simp
theorem znm (u v w : List α) (x y : α) : ((u ++ x :: (v ++ y :: w)).set u.length y).set (u.length + 1 + v.length) x = u ++ y :: (v ++ x :: w) := by
  rw [pD]
  have e : u ++ y :: (v ++ y :: w) = (u ++ y :: v) ++ y :: w := by simp
  have e2 : u.length + 1 + v.length = (u ++ y :: v).length := by simp; omega
  rw [e, e2, pD]
  simp
theorem zfi (u w : List α) (x y : α) : ((u ++ x :: y :: w).set (u.length + 1) x).set u.length y = u ++ y :: x :: w := by
  have e : u ++ x :: y :: w = (u ++ [x]) ++ y :: w := by simp
  have e2 : u.length + 1 = (u ++ [x]).length := by simp
  rw [e, e2, pD]
  have e3 : (u ++ [x]) ++ x :: w = u ++ x :: (x :: w) := by simp
  rw [e3, pD]
theorem znn (u w : List α) (x y : α) : ((u ++ x :: y :: w).set u.length y).set (u.length + 1) x = u ++ y :: x :: w := by
  simp
end
end Go.Eng.Srt



namespace Go.Eng
open Go Go.Proofs Go.Eng.Rows Go.Eng.Srt
def iA (T : PV) (key : Int → Int) : Prop := ∀ a b : Int, (-2147483648 ≤ a ∧ a ≤ 2147483647) → (-2147483648 ≤ b ∧ b ≤ 2147483647) → PCall Try.prog 74 [.int .i32 a, .int .i32 b, .ptr [T]] fun v => ∃ n : Int, v = .int .i64 n ∧ (n < 0 ↔ key a < key b)
theorem cO {D : List Int} {k : Nat} {v : Int} (h : D[k]? = some v) : (aA D).getD k [] = [.int .i32 v] := by
  simp [aA, List.getD, h]
theorem zfj (D : List Int) (k : Nat) (v : Int) : (aA D).set k [.int .i32 v] = aA (D.set k v) := by simp [aA, List.map_set]
theorem j8 {D : List Int} (h : R32 D) {k : Nat} {v : Int} (hv : D[k]? = some v) : -2147483648 ≤ v ∧ v ≤ 2147483647 := h v (List.mem_of_getElem? hv)
theorem sL (D : List Int) {i j : Nat} {x y : Int} (hi : D[i]? = some x) (hj : D[j]? = some y) (hij : i ≠ j) (p q : Int) :
    ((aA D).set i (.int .i32 p :: List.append._f [] PUnit.unit (List.drop 1 ((aA D).getD i [])))).set j (.int .i32 q :: List.append._f [] PUnit.unit (List.drop 1 (((aA D).set i (.int .i32 p :: List.append._f [] PUnit.unit (List.drop 1 ((aA D).getD i [])))).getD j []))) = aA ((D.set i p).set j q) ∧
    ((aA D).getD i []).length = 1 ∧ ((aA D).getD j []).length = 1 ∧ (((aA D).set i (.int .i32 p :: List.append._f [] PUnit.unit (List.drop 1 ((aA D).getD i [])))).getD j []).length = 1 := by
  rw [cO hi, cO hj]
  have e1 : (aA D).set i (.int .i32 p :: List.append._f [] PUnit.unit (List.drop 1 [PV.int .i32 x])) = aA (D.set i p) := zfj D i p
  have hj2 : (D.set i p)[j]? = some y := by rw [List.getElem?_set_ne hij]; exact hj
  rw [e1, cO hj2]
  exact ⟨zfj _ _ _, rfl, rfl, rfl⟩
def zno (key : Int → Int) (nl : Bool) (T : PV) (P S R : List Int) (r : LV) (h' : Hp) : Prop := ∃ S' : List Int, r = .tup [] ∧ h' = [.sl (21, 1) false nl (aA (P ++ S' ++ R)), .box [.pv T]] ∧ Srtd key S' ∧ Stab key S S'
section
variable {key : Int → Int} {T : PV}
theorem zfk (hc : iA T key) (lo hi : Nat) (nl : Bool) (P S R : List Int) (a b : Int) (ha : 0 ≤ a) (hP : P.length = lo + a.toNat) (hb : b = a + S.length) (hhi : (lo : Int) + b ≤ hi) (hr : R32 (P ++ S ++ R)) (hlen : hi < 1000000000000) :
    ACall Try.prog 111 [.sub 0 lo hi, .pv (.int .i64 a), .pv (.int .i64 b), .fn 74 [.box 1 0]] [.sl (21, 1) false nl (aA (P ++ S ++ R)), .box [.pv T]] (zno key nl T P S R) := by
  refine zjr _ _ _ _ _ _ _
    (fun i s => ∃ A B, s = aA (P ++ (A ++ B) ++ R) ∧ Srtd key A ∧ Stab key S (A ++ B) ∧ (i ≤ b → (A.length : Int) = i - a) ∧ a < i ∧ (b < i → S = [])) (fun i _ => (b + 1 - i).toNat)
    (fun i _ _ i' j s => i = i' ∧ ∃ A x B C, s = aA (P ++ (A ++ x :: (B ++ C)) ++ R) ∧ (A.length : Int) = j - a ∧ (B.length : Int) = i - j ∧ Srtd key (A ++ B) ∧ (∀ y ∈ B, key x < key y) ∧ Stab key S (A ++ x :: (B ++ C)) ∧ a ≤ j) (fun _ j _ => (j - a).toNat) ?_
  unfold vN
  have hwa : IntKind.i64.wrap (a + 1) = a + 1 := aD (by omega) (by omega)
  rw [hwa]
  refine ⟨⟨rfl, S.take 1, S.drop 1, by rw [List.take_append_drop], ?_, by rw [List.take_append_drop]; exact .refl _, fun h => ?_, by omega, fun h => ?_⟩, ?_⟩
  · cases S with
    | nil => exact List.Pairwise.nil
    | cons x l => exact List.pairwise_singleton _ _
  · cases S with
    | nil => simp at hb; omega
    | cons x l => simp; omega
  · cases S with
    | nil => rfl
    | cons x l => simp at hb; omega
  rintro i _ ⟨A, B, rfl, hA, hst, hAB, hi0, hi1⟩
  refine aI (fun hc1 => ?_) (fun hc1 => ?_)
  · simp only [decide_eq_true_eq] at hc1
    have hlAB := hst.len
    rw [List.length_append] at hlAB
    have hiw : IntKind.i64.wrap (i + 1) = i + 1 := aD (by omega) (by omega)
    cases B with
    | nil =>
      have := hAB (by omega)
      simp at hlAB; omega
    | cons x C =>
      have hAl := hAB (by omega)
      refine ⟨⟨rfl, rfl, A, x, [], C, rfl, hAl, by simp, by simpa using hA, fun y hy => (by cases hy), hst, by omega⟩, ?_⟩
      clear hst hlAB hA hAl hAB
      rintro _ j _ ⟨rfl, A, x, B, C, rfl, hAl, hBl, hAB, hxB, hst, hja⟩
      have hR : R32 (P ++ (A ++ x :: (B ++ C)) ++ R) := fun y hy => hr y (by
        simp only [List.mem_append] at hy ⊢
        rcases hy with (hy | hy) | hy
        · exact .inl (.inl hy)
        · exact .inl (.inr (hst.mem.2 (by simpa using hy)))
        · exact .inr hy)
      have hlen2 := hst.len
      simp only [List.length_append, List.length_cons] at hlen2
      have fin : (∀ y ∈ A, key y ≤ key x) → ∃ A' B', aA (P ++ (A ++ x :: (B ++ C)) ++ R) = aA (P ++ (A' ++ B') ++ R) ∧ Srtd key A' ∧ Stab key S (A' ++ B') ∧ (i + 1 ≤ b → (A'.length : Int) = i + 1 - a) ∧ a < i + 1 ∧ (b < i + 1 → S = []) := fun hAx => by
        refine ⟨A ++ x :: B, C, by simp, ?_, by simpa using hst, fun _ => by simp; omega, by omega, fun h => by omega⟩
        obtain ⟨s1, s2, s3⟩ := gJ.1 hAB
        refine gJ.2 ⟨s1, List.pairwise_cons.2 ⟨fun y hy => Int.le_of_lt (hxB y hy), s2⟩, fun y hy z hz => ?_⟩
        rcases List.mem_cons.1 hz with rfl | hz
        · exact hAx y hy
        · exact s3 y hy z hz
      have hmu1 : (b + 1 - (i + 1)).toNat < (b + 1 - i).toNat := by omega
      refine aI (fun hc2 => ?_) (fun hc2 => ?_)
      · simp only [decide_eq_true_eq, gt_iff_lt] at hc2
        have hwj : IntKind.i64.wrap (j - 1) = j - 1 := aD (by omega) (by omega)
        rw [hwj]
        obtain ⟨A0, y, rfl⟩ : ∃ A0 y, A = A0 ++ [y] := by
          rcases List.eq_nil_or_concat A with h | ⟨A0, y, h⟩
          · subst h; simp at hAl; omega
          · exact ⟨A0, y, by simpa using h⟩
        simp only [List.length_append, List.length_cons, List.length_nil] at hAl
        have hD : P ++ (A0 ++ [y] ++ x :: (B ++ C)) ++ R = (P ++ A0) ++ y :: x :: (B ++ C ++ R) := by simp
        have hk : lo + (j - 1).toNat = (P ++ A0).length := by simp; omega
        have hk1 : lo + j.toNat = (P ++ A0).length + 1 := by simp; omega
        have gy : (P ++ (A0 ++ [y] ++ x :: (B ++ C)) ++ R)[lo + (j - 1).toNat]? = some y := by rw [hD, hk]; simp
        have gx : (P ++ (A0 ++ [y] ++ x :: (B ++ C)) ++ R)[lo + j.toNat]? = some x := by
          rw [hD, hk1, List.getElem?_append_right (by omega)]; simp
        obtain ⟨t1, t2, t3, t4⟩ := sL _ gx gy (by omega) y x
        have hsw : ((P ++ (A0 ++ [y] ++ x :: (B ++ C)) ++ R).set (lo + j.toNat) y).set (lo + (j - 1).toNat) x = P ++ (A0 ++ x :: ((y :: B) ++ C)) ++ R := by
          rw [hD, hk, hk1, zfi]; simp
        rw [hsw] at t1
        refine ⟨⟨by omega, by omega, t2⟩, x, by rw [cO gx]; rfl, ⟨by omega, by omega, t3⟩, y, by rw [cO gy]; rfl, ?_⟩
        refine (hc x y (j8 hR gx) (j8 hR gy)).mono ?_
        rintro _ ⟨n2, rfl, hn2⟩
        refine ⟨n2, rfl, rfl, aI (fun hlt => ?_) (fun hlt => ?_)⟩
        · simp only [decide_eq_true_eq] at hlt
          have hkey := hn2.1 hlt
          refine ⟨⟨by omega, by omega, t3⟩, y, by rw [cO gy]; rfl, ⟨by omega, by omega, t2⟩, x, by rw [cO gx]; rfl, ⟨by omega, by omega, t2⟩, ?_⟩
          have hsrt : Srtd key (A0 ++ y :: B) := by simpa using hAB
          have hst2 : Stab key S (A0 ++ x :: ((y :: B) ++ C)) := by
            refine hst.trans ?_
            have := Stab.rot1 (key := key) (u := A0) (v := B ++ C) (a := [y]) (b := [x]) (fun p hp q hq => by simp at hp hq; subst hp; subst hq; omega)
            simpa using this
          have hle1 : 1 ≤ ((aA (P ++ (A0 ++ [y] ++ x :: (B ++ C)) ++ R)).getD (lo + j.toNat) []).length := by rw [t2]; exact Nat.le_refl _
          refine ⟨?_, ?_⟩
          all_goals
            refine ⟨⟨rfl, hle1⟩, ⟨by omega, by omega, t4⟩, ⟨rfl, by rw [t4]; exact Nat.le_refl _⟩, ?_⟩
            exact ⟨rfl, ⟨rfl, A0, x, y :: B, C, t1, by omega, by rw [List.length_cons]; omega, hsrt, fun z hz => (by rcases List.mem_cons.1 hz with rfl | hz; exact hkey; exact hxB z hz), hst2, by omega⟩, by dsimp only; omega⟩
        · simp only [decide_eq_true_eq] at hlt
          have hkey : ¬ key x < key y := fun h => hlt (hn2.2 h)
          rw [hiw]
          refine ⟨rfl, fin fun z hz => ?_, hmu1⟩
          rcases List.mem_append.1 hz with hz | hz
          · have := (gJ.1 (gJ.1 hAB).1).2.2 z hz y (by simp)
            omega
          · simp only [List.mem_singleton] at hz; subst hz; omega
      · simp only [decide_eq_true_eq, gt_iff_lt] at hc2
        have hA0 : A = [] := List.length_eq_zero_iff.1 (by omega)
        subst hA0
        rw [hiw]
        exact ⟨rfl, fin fun z hz => (by cases hz), hmu1⟩
  · simp only [decide_eq_true_eq] at hc1
    have hB : B = [] := by
      by_cases hib : i ≤ b
      · have h1 := hAB hib
        have h2 := hst.len
        rw [List.length_append] at h2
        exact List.length_eq_zero_iff.1 (by omega)
      · have h0 := hi1 (by omega)
        subst h0
        have h2 := hst.len
        rw [List.length_append] at h2
        exact List.length_eq_zero_iff.1 (by simp at h2; omega)
    subst hB
    exact ⟨A, rfl, by simp, hA, by simpa using hst⟩
end
end Go.Eng



namespace Go.Eng
open Go Go.Proofs Go.Eng.Rows Go.Eng.Srt
section
variable {T : PV}
theorem zG (lo hi : Nat) (nl : Bool) (P X Q Y R : List Int) (a b n : Int) (ha : 0 ≤ a) (hP : P.length = lo + a.toNat) (hX : (X.length : Int) = n) (hY : (Y.length : Int) = n) (hQ : b = a + n + Q.length) (hhi : (lo : Int) + b + n ≤ hi) (hlen : hi < 1000000000000) :
    ACall Try.prog 123 [.sub 0 lo hi, .pv (.int .i64 a), .pv (.int .i64 b), .pv (.int .i64 n), .fn 74 [.box 1 0]] [.sl (21, 1) false nl (aA (P ++ (X ++ (Q ++ (Y ++ R))))), .box [.pv T]]
      fun r h' => r = .tup [] ∧ h' = [.sl (21, 1) false nl (aA (P ++ (Y ++ (Q ++ (X ++ R))))), .box [.pv T]] := by
  refine zjs _ _ _ _ _ _ _ _
    (fun i s => 0 ≤ i ∧ i ≤ n ∧ s = aA (P ++ (Y.take i.toNat ++ (X.drop i.toNat ++ (Q ++ (X.take i.toNat ++ (Y.drop i.toNat ++ R))))))) (fun i _ => (n - i).toNat) ?_
  unfold vO
  refine ⟨⟨rfl, Int.le_refl _, by omega, by simp⟩, ?_⟩
  rintro i _ ⟨i0, i1, rfl⟩
  refine aI (fun hc => ?_) (fun hc => ?_)
  · simp only [decide_eq_true_eq] at hc
    have hix : i.toNat < X.length := by omega
    have hiy : i.toNat < Y.length := by omega
    have wb : IntKind.i64.wrap (b + i) = b + i := aD (by omega) (by omega)
    have wa : IntKind.i64.wrap (a + i) = a + i := aD (by omega) (by omega)
    have wi : IntKind.i64.wrap (i + 1) = i + 1 := aD (by omega) (by omega)
    have hn : (i + 1).toNat = i.toNat + 1 := by omega
    rw [wb, wa, wi]
    have lt : (Y.take i.toNat).length = i.toNat := by rw [List.length_take]; omega
    have ltx : (X.take i.toNat).length = i.toNat := by rw [List.length_take]; omega
    have dx : X.drop i.toNat = X[i.toNat] :: X.drop (i.toNat + 1) := List.drop_eq_getElem_cons hix
    have dy : Y.drop i.toNat = Y[i.toNat] :: Y.drop (i.toNat + 1) := List.drop_eq_getElem_cons hiy
    have tx : X.take (i.toNat + 1) = X.take i.toNat ++ [X[i.toNat]] := cZ hix
    have ty : Y.take (i.toNat + 1) = Y.take i.toNat ++ [Y[i.toNat]] := cZ hiy
    have ldx : (X.drop (i.toNat + 1)).length = X.length - (i.toNat + 1) := List.length_drop
    obtain ⟨D, hDe⟩ : ∃ D, D = P ++ (Y.take i.toNat ++ (X.drop i.toNat ++ (Q ++ (X.take i.toNat ++ (Y.drop i.toNat ++ R))))) := ⟨_, rfl⟩
    rw [← hDe]
    have hD : D = (P ++ Y.take i.toNat) ++ X[i.toNat] :: ((X.drop (i.toNat + 1) ++ Q ++ X.take i.toNat) ++ Y[i.toNat] :: (Y.drop (i.toNat + 1) ++ R)) := by rw [hDe, dx, dy]; simp only [List.append_assoc, List.cons_append, List.nil_append]
    have hka : lo + (a + i).toNat = (P ++ Y.take i.toNat).length := by rw [List.length_append, lt]; omega
    have hkb : lo + (b + i).toNat = (P ++ Y.take i.toNat).length + 1 + (X.drop (i.toNat + 1) ++ Q ++ X.take i.toNat).length := by simp only [List.length_append, lt, ltx, ldx]; omega
    have hsw : (D.set (lo + (a + i).toNat) Y[i.toNat]).set (lo + (b + i).toNat) X[i.toNat] = P ++ (Y.take (i + 1).toNat ++ (X.drop (i + 1).toNat ++ (Q ++ (X.take (i + 1).toNat ++ (Y.drop (i + 1).toNat ++ R))))) := by
      rw [hD, hka, hkb, znm, hn, tx, ty]; simp only [List.append_assoc, List.cons_append, List.nil_append]
    have gx : D[lo + (a + i).toNat]? = some X[i.toNat] := by rw [hD, hka, mQ]
    have gy : D[lo + (b + i).toNat]? = some Y[i.toNat] := by
      have e : ∀ (u v w : List Int) (x y : Int), u ++ x :: (v ++ y :: w) = (u ++ x :: v) ++ y :: w := fun u v w x y => by simp
      have e2 : ∀ (u v : List Int) (x : Int), u.length + 1 + v.length = (u ++ x :: v).length := fun u v x => by simp; omega
      rw [hD, hkb, e, e2 _ _ X[i.toNat], mQ]
    obtain ⟨t1, t2, t3, t4⟩ := sL _ gx gy (by omega) Y[i.toNat] X[i.toNat]
    rw [hsw] at t1
    have hla : 1 ≤ ((aA D).getD (lo + (a + i).toNat) []).length := by rw [t2]; exact Nat.le_refl _
    refine ⟨⟨by omega, by omega, t3⟩, Y[i.toNat], by rw [cO gy]; rfl, ⟨by omega, by omega, t2⟩, X[i.toNat], by rw [cO gx]; rfl, ⟨by omega, by omega, t2⟩, ?_⟩
    refine ⟨?_, ?_⟩
    all_goals exact ⟨⟨rfl, hla⟩, ⟨by omega, by omega, t4⟩, ⟨rfl, by rw [t4]; exact Nat.le_refl _⟩, rfl, ⟨by omega, by omega, t1⟩, by dsimp only; omega⟩
  · simp only [decide_eq_true_eq] at hc
    have hi : i = n := by omega
    subst hi
    rw [List.take_of_length_le (by omega), List.take_of_length_le (by omega), List.drop_of_length_le (by omega), List.drop_of_length_le (by omega)]
    exact ⟨rfl, by simp⟩
theorem znp (lo hi : Nat) (nl : Bool) (P X Y R : List Int) (a m b : Int) (ha : 0 ≤ a) (hP : P.length = lo + a.toNat) (hX : m = a + X.length) (hY : b = m + Y.length) (hx : X ≠ []) (hy : Y ≠ []) (hhi : (lo : Int) + b ≤ hi) (hlen : hi < 1000000000000) :
    ACall Try.prog 120 [.sub 0 lo hi, .pv (.int .i64 a), .pv (.int .i64 m), .pv (.int .i64 b), .fn 74 [.box 1 0]] [.sl (21, 1) false nl (aA (P ++ (X ++ (Y ++ R)))), .box [.pv T]]
      fun r h' => r = .tup [] ∧ h' = [.sl (21, 1) false nl (aA (P ++ (Y ++ (X ++ R)))), .box [.pv T]] := by
  have hxl := List.length_pos_iff.2 hx
  have hyl := List.length_pos_iff.2 hy
  refine zjt _ _ _ _ _ _ _ _
    (fun i j s => 0 < i ∧ 0 < j ∧ i + j ≤ b - a ∧ ∃ P1 U V R1 : List Int, s = aA (P1 ++ (U ++ (V ++ R1))) ∧ P1 ++ (V ++ (U ++ R1)) = P ++ (Y ++ (X ++ R)) ∧ (U.length : Int) = i ∧ (V.length : Int) = j ∧ ((P1.length : Int) + i = lo + m) ∧ (lo : Int) + a ≤ P1.length ∧ m + j ≤ b) (fun i j _ => (i + j).toNat) ?_
  unfold vP
  have w1 : IntKind.i64.wrap (m - a) = X.length := by rw [aD (by omega) (by omega)]; omega
  have w2 : IntKind.i64.wrap (b - m) = Y.length := by rw [aD (by omega) (by omega)]; omega
  rw [w1, w2]
  refine ⟨⟨rfl, by omega, by omega, by omega, P, X, Y, R, rfl, rfl, rfl, rfl, by omega, by omega, by omega⟩, ?_⟩
  rintro i j _ ⟨i0, j0, hij, P1, U, V, R1, rfl, he, hU, hV, hP1, hPa, hmj⟩
  have wmi : IntKind.i64.wrap (m - i) = m - i := aD (by omega) (by omega)
  rw [wmi]
  have lens : ∀ (s t : List Int), s.length = t.length → (aA s).length = (aA t).length := fun s t h => by simp [h]
  refine aI (fun hne => ?_) (fun hne => ?_)
  · simp only [bne_iff_ne, ne_eq] at hne
    refine aI (fun hgt => ?_) (fun hgt => ?_)
    · simp only [decide_eq_true_eq, gt_iff_lt] at hgt
      have w3 : IntKind.i64.wrap (i - j) = i - j := aD (by omega) (by omega)
      rw [w3]
      obtain ⟨U1, U2, rfl, hU1⟩ : ∃ U1 U2, U = U1 ++ U2 ∧ (U1.length : Int) = j := ⟨U.take j.toNat, U.drop j.toNat, by rw [List.take_append_drop], by rw [List.length_take]; omega⟩
      rw [List.length_append] at hU
      have := zG (T := T) lo hi nl P1 U1 U2 V R1 (m - i) m j (by omega) (by omega) hU1 hV (by omega) (by omega) hlen
      rw [show P1 ++ (U1 ++ U2 ++ (V ++ R1)) = P1 ++ (U1 ++ (U2 ++ (V ++ R1))) by simp]
      refine this.mono ?_
      rintro r h' ⟨rfl, rfl⟩
      refine ⟨_, ⟨rfl, rfl⟩, ⟨trivial, ⟨rfl, rfl, lens _ _ (by simp only [List.length_append]; omega)⟩, trivial⟩, rfl, ⟨by omega, by omega, by omega, P1 ++ V, U2, U1, R1, by simp, by rw [← he]; simp, by omega, hU1, by rw [List.length_append]; omega, by rw [List.length_append]; omega, by omega⟩, by dsimp only; omega⟩
    · simp only [decide_eq_true_eq, gt_iff_lt] at hgt
      have w3 : IntKind.i64.wrap (j - i) = j - i := aD (by omega) (by omega)
      have w4 : IntKind.i64.wrap (m + j) = m + j := aD (by omega) (by omega)
      have w5 : IntKind.i64.wrap (m + j - i) = m + j - i := aD (by omega) (by omega)
      rw [w4, w5, w3]
      obtain ⟨V1, V2, rfl, hV1⟩ : ∃ V1 V2, V = V1 ++ V2 ∧ (V1.length : Int) = j - i := ⟨V.take (j - i).toNat, V.drop (j - i).toNat, by rw [List.take_append_drop], by rw [List.length_take]; omega⟩
      rw [List.length_append] at hV
      have := zG (T := T) lo hi nl P1 U V1 V2 R1 (m - i) (m + j - i) i (by omega) (by omega) hU (by omega) (by omega) (by omega) hlen
      rw [show P1 ++ (U ++ (V1 ++ V2 ++ R1)) = P1 ++ (U ++ (V1 ++ (V2 ++ R1))) by simp]
      refine this.mono ?_
      rintro r h' ⟨rfl, rfl⟩
      refine ⟨_, ⟨rfl, rfl⟩, ⟨trivial, ⟨rfl, rfl, lens _ _ (by simp only [List.length_append]; omega)⟩, trivial⟩, rfl, ⟨by omega, by omega, by omega, P1, V2, V1, U ++ R1, by simp, by rw [← he]; simp, by omega, hV1, by omega, by omega, by omega⟩, by dsimp only; omega⟩
  · simp only [bne_iff_ne, ne_eq, Decidable.not_not] at hne
    have := zG (T := T) lo hi nl P1 U [] V R1 (m - i) m i (by omega) (by omega) hU (by omega) (by simp) (by omega) hlen
    refine ACall.mono (by simpa using this) ?_
    rintro r h' ⟨rfl, rfl⟩
    refine ⟨_, ⟨rfl, rfl⟩, ⟨trivial, ⟨rfl, rfl, lens _ _ (by simp only [List.length_append]; omega)⟩, trivial⟩, rfl, ?_⟩
    rw [← he]
end
end Go.Eng



namespace Go.Eng.Srt
open Go Go.Eng
variable {key : Int → Int}
theorem Srtd.get {l : List Int} (h : Srtd key l) {i j : Nat} (hij : i ≤ j) (hj : j < l.length) : key (l.getD i 0) ≤ key (l.getD j 0) := by
  have hi : i < l.length := by omega
  simp only [List.getD, List.getElem?_eq_getElem hi, List.getElem?_eq_getElem hj, Option.getD_some]
  rcases Nat.lt_or_ge i j with h1 | h1
  · exact (List.pairwise_iff_getElem.1 h) i j hi hj h1
  · have : i = j := by omega
    subst this; exact Int.le_refl _
theorem j9 {l : List Int} {x : Int} (h : x ∈ l) : ∃ i, i < l.length ∧ l.getD i 0 = x := by
  obtain ⟨i, hi, rfl⟩ := List.getElem_of_mem h
  exact ⟨i, hi, by simp [List.getD, hi]⟩
theorem pE {l : List Int} {i : Nat} (h : i < l.length) : l[i]? = some (l.getD i 0) := by simp [List.getD, h]
theorem Srtd.sub {l m : List Int} (h : Srtd key l) (hs : m.Sublist l) : Srtd key m := List.Pairwise.sublist hs h
theorem zfl {x : Int} {A B : List Int} (hs : Srtd key (A ++ B)) (h1 : ∀ y ∈ A, key y ≤ key x) (h2 : ∀ y ∈ B, key x ≤ key y) : Srtd key (A ++ x :: B) := by
  obtain ⟨s1, s2, s3⟩ := gJ.1 hs
  refine gJ.2 ⟨s1, List.pairwise_cons.2 ⟨h2, s2⟩, fun y hy z hz => ?_⟩
  rcases List.mem_cons.1 hz with rfl | hz
  · exact h1 y hy
  · exact s3 y hy z hz
theorem znq {X1 X2 Y1 Y2 S1 S2 : List Int} (hX : Srtd key (X1 ++ X2)) (hY : Srtd key (Y1 ++ Y2)) (f1 : ∀ x ∈ X2, ∀ y ∈ Y1, key y < key x) (f2 : ∀ x ∈ X1, ∀ y ∈ Y2, key x ≤ key y)
    (h1 : Srtd key S1) (k1 : Stab key (X1 ++ Y1) S1) (h2 : Srtd key S2) (k2 : Stab key (X2 ++ Y2) S2) : Srtd key (S1 ++ S2) ∧ Stab key ((X1 ++ X2) ++ (Y1 ++ Y2)) (S1 ++ S2) := by
  obtain ⟨_, _, x3⟩ := gJ.1 hX
  obtain ⟨_, _, y3⟩ := gJ.1 hY
  refine ⟨gJ.2 ⟨h1, h2, fun x hx y hy => ?_⟩, ?_⟩
  · rcases List.mem_append.1 (k1.mem.2 hx) with hx | hx <;> rcases List.mem_append.1 (k2.mem.2 hy) with hy | hy
    · exact x3 x hx y hy
    · exact f2 x hx y hy
    · exact Int.le_of_lt (f1 y hy x hx)
    · exact y3 x hx y hy
  · refine Stab.trans ?_ (k1.app k2)
    have := Stab.rot1 (key := key) (u := X1) (v := Y2) (a := X2) (b := Y1) (fun x hx y hy => by have := f1 x hx y hy; omega)
    simpa using this
end Go.Eng.Srt



namespace Go.Eng
open Go Go.Proofs Go.Eng.Rows Go.Eng.Srt
def iB (key : Int → Int) (nl : Bool) (T : PV) (P S R : List Int) (r : LV) (h' : Hp) : Prop := ∃ S' : List Int, r = .tup [] ∧ h' = [.sl (21, 1) false nl (aA (P ++ (S' ++ R))), .box [.pv T]] ∧ Srtd key S' ∧ Stab key S S'
section
variable {key : Int → Int} {T : PV}
theorem pF {i j : Int} (h0 : 0 ≤ i) (h1 : i ≤ j) (h2 : j ≤ 1000000000000) : IntKind.i64.wrap ((IntKind.u64.wrap (IntKind.i64.wrap (i + j))).fdiv (2 ^ 1)) = (i + j) / 2 := zd2 h0 h1 (by omega)
theorem znr (hc : iA T key) (lo hi : Nat) (nl : Bool) (P Y R : List Int) (x : Int) (a m b : Int) (ha : 0 ≤ a) (hP : P.length = lo + a.toNat) (hm : m = a + 1) (hb : b = m + Y.length) (hhi : (lo : Int) + b ≤ hi) (hr : R32 (P ++ ([x] ++ (Y ++ R)))) (hlen : hi < 1000000000000) (hY : Srtd key Y) :
    ACall Try.prog 112 [.sub 0 lo hi, .pv (.int .i64 a), .pv (.int .i64 m), .pv (.int .i64 b), .fn 74 [.box 1 0]] [.sl (21, 1) false nl (aA (P ++ ([x] ++ (Y ++ R)))), .box [.pv T]] (iB key nl T P ([x] ++ Y) R) := by
  have hat : ∀ h : Int, m ≤ h → h < b → (P ++ ([x] ++ (Y ++ R)))[lo + h.toNat]? = some (Y.getD (h - m).toNat 0) := fun h h1 h2 => by
    have e : P ++ ([x] ++ (Y ++ R)) = (P ++ [x]) ++ (Y ++ R) := by simp
    rw [e, List.getElem?_append_right (by simp; omega), show lo + h.toNat - (P ++ [x]).length = (h - m).toNat by simp; omega, List.getElem?_append_left (by omega)]
    exact pE (by omega)
  have hax : (P ++ ([x] ++ (Y ++ R)))[lo + a.toNat]? = some x := by rw [← hP]; exact mQ P (Y ++ R) x
  refine vQ _ _ _ _ _ _ _ _
    (fun i j s => s = aA (P ++ ([x] ++ (Y ++ R))) ∧ m ≤ i ∧ i ≤ j ∧ j ≤ b ∧ (∀ h, m ≤ h → h < i → key (Y.getD (h - m).toNat 0) < key x) ∧ (∀ h, j ≤ h → h < b → ¬ key (Y.getD (h - m).toNat 0) < key x)) (fun i j _ => (j - i).toNat)
    (fun i k s => m ≤ i ∧ i ≤ b ∧ (∀ h, m ≤ h → h < i → key (Y.getD (h - m).toNat 0) < key x) ∧ (∀ h, i ≤ h → h < b → ¬ key (Y.getD (h - m).toNat 0) < key x) ∧ a ≤ k ∧ k ≤ i - 1 ∧ s = aA (P ++ (Y.take (k - a).toNat ++ (x :: (Y.drop (k - a).toNat ++ R))))) (fun i k _ => (i - 1 - k).toNat)
    (fun _ _ _ => True) (fun _ _ _ => 0) (fun _ _ _ => True) (fun _ _ _ => 0) (fun _ _ _ => True) (fun _ _ _ => 0) ?_
  unfold oT
  have w1 : IntKind.i64.wrap (m - a) = 1 := by rw [aD (by omega) (by omega)]; omega
  refine bN (by rw [w1]; rfl) ⟨⟨rfl, rfl, Int.le_refl _, by omega, Int.le_refl _, fun h h1 h2 => by omega, fun h h1 h2 => by omega⟩, ?_⟩
  rintro i j _ ⟨rfl, i0, hij, hjb, hlt, hge⟩
  refine aI (fun hc1 => ?_) (fun hc1 => ?_)
  · simp only [decide_eq_true_eq] at hc1
    rw [pF (by omega) (by omega) (by omega)]
    obtain ⟨h, hh⟩ : ∃ h, h = (i + j) / 2 := ⟨_, rfl⟩
    rw [← hh]
    have b1 : i ≤ h ∧ h < j := by omega
    have gy := hat h (by omega) (by omega)
    have wh : IntKind.i64.wrap (h + 1) = h + 1 := aD (by omega) (by omega)
    rw [wh]
    refine ⟨⟨by omega, by omega, by rw [cO gy]; rfl⟩, _, by rw [cO gy]; rfl, ⟨by omega, by omega, by rw [cO hax]; rfl⟩, x, by rw [cO hax]; rfl, ?_⟩
    refine (hc _ x (j8 hr gy) (j8 hr hax)).mono ?_
    rintro _ ⟨n2, rfl, hn2⟩
    refine ⟨n2, rfl, rfl, aI (fun hl => ?_) (fun hl => ?_)⟩
    · simp only [decide_eq_true_eq] at hl
      have hk := hn2.1 hl
      refine ⟨rfl, ⟨rfl, by omega, by omega, by omega, fun q q1 q2 => ?_, hge⟩, by dsimp only; omega⟩
      have := hY.get (i := (q - m).toNat) (j := (h - m).toNat) (by omega) (by omega)
      omega
    · simp only [decide_eq_true_eq] at hl
      have hk : ¬ key (Y.getD (h - m).toNat 0) < key x := fun h => hl (hn2.2 h)
      refine ⟨rfl, ⟨rfl, by omega, by omega, by omega, hlt, fun q q1 q2 => ?_⟩, by dsimp only; omega⟩
      have := hY.get (i := (h - m).toNat) (j := (q - m).toNat) (by omega) (by omega)
      omega
  · simp only [decide_eq_true_eq] at hc1
    have : i = j := by omega
    subst this
    refine ⟨⟨rfl, i0, hjb, hlt, hge, Int.le_refl _, by omega, by simp⟩, ?_⟩
    clear hc1 hij hjb hlt hge i0
    rintro i k _ ⟨i0, ib, hlt, hge, k0, k1, rfl⟩
    have wi : IntKind.i64.wrap (i - 1) = i - 1 := aD (by omega) (by omega)
    rw [wi]
    refine aI (fun hc2 => ?_) (fun hc2 => ?_)
    · simp only [decide_eq_true_eq] at hc2
      have wk : IntKind.i64.wrap (k + 1) = k + 1 := aD (by omega) (by omega)
      rw [wk]
      have hlk : (k - a).toNat < Y.length := by omega
      have hn : (k + 1 - a).toNat = (k - a).toNat + 1 := by omega
      have dy : Y.drop (k - a).toNat = Y[(k - a).toNat] :: Y.drop ((k - a).toNat + 1) := List.drop_eq_getElem_cons hlk
      have ty : Y.take ((k - a).toNat + 1) = Y.take (k - a).toNat ++ [Y[(k - a).toNat]] := cZ hlk
      have lt : (Y.take (k - a).toNat).length = (k - a).toNat := by rw [List.length_take]; omega
      obtain ⟨D, hDe⟩ : ∃ D, D = P ++ (Y.take (k - a).toNat ++ (x :: (Y.drop (k - a).toNat ++ R))) := ⟨_, rfl⟩
      have hRD : R32 D := fun y hy => hr y (by
        rw [hDe] at hy
        simp only [List.mem_append, List.mem_cons] at hy ⊢
        rcases hy with hy | hy | hy | hy | hy
        · exact .inl hy
        · exact .inr (.inr (.inl (List.mem_of_mem_take hy)))
        · exact .inr (.inl (by simp [hy]))
        · exact .inr (.inr (.inl (List.mem_of_mem_drop hy)))
        · exact .inr (.inr (.inr hy)))
      rw [← hDe]
      have hD : D = (P ++ Y.take (k - a).toNat) ++ x :: Y[(k - a).toNat] :: (Y.drop ((k - a).toNat + 1) ++ R) := by rw [hDe, dy]; simp only [List.append_assoc, List.cons_append, List.nil_append]
      have hk0 : lo + k.toNat = (P ++ Y.take (k - a).toNat).length := by rw [List.length_append, lt]; omega
      have hk1 : lo + (k + 1).toNat = (P ++ Y.take (k - a).toNat).length + 1 := by rw [List.length_append, lt]; omega
      have gx : D[lo + k.toNat]? = some x := by rw [hD, hk0, mQ]
      have gy : D[lo + (k + 1).toNat]? = some Y[(k - a).toNat] := by rw [hD, hk1, List.getElem?_append_right (by omega)]; simp
      have hsw : (D.set (lo + k.toNat) Y[(k - a).toNat]).set (lo + (k + 1).toNat) x = P ++ (Y.take (k + 1 - a).toNat ++ (x :: (Y.drop (k + 1 - a).toNat ++ R))) := by
        rw [hD, hk0, hk1, znn, hn, ty]; simp only [List.append_assoc, List.cons_append, List.nil_append]
      obtain ⟨t1, t2, t3, t4⟩ := sL D gx gy (by omega) Y[(k - a).toNat] x
      rw [hsw] at t1
      have hla : 1 ≤ ((aA D).getD (lo + k.toNat) []).length := by rw [t2]; exact Nat.le_refl _
      refine ⟨⟨by omega, by omega, t3⟩, Y[(k - a).toNat], by rw [cO gy]; rfl, ⟨by omega, by omega, t2⟩, x, by rw [cO gx]; rfl, ⟨by omega, by omega, t2⟩, ?_⟩
      refine ⟨?_, ?_⟩
      all_goals exact ⟨⟨rfl, hla⟩, ⟨by omega, by omega, t4⟩, ⟨rfl, by rw [t4]; exact Nat.le_refl _⟩, rfl, ⟨i0, ib, hlt, hge, by omega, by omega, t1⟩, by dsimp only; omega⟩
    · simp only [decide_eq_true_eq] at hc2
      have hk : (k - a).toNat = (i - m).toNat := by omega
      rw [hk]
      have h1 : ∀ y ∈ Y.take (i - m).toNat, key y < key x := fun y hy => by
        obtain ⟨q, hq, rfl⟩ := j9 hy
        rw [List.length_take] at hq
        have e : (Y.take (i - m).toNat).getD q 0 = Y.getD q 0 := by simp only [List.getD]; rw [List.getElem?_take_of_lt (by omega)]
        rw [e]
        have := hlt (m + q) (by omega) (by omega)
        rwa [show (m + (q : Int) - m).toNat = q by omega] at this
      have h2 : ∀ y ∈ Y.drop (i - m).toNat, key x ≤ key y := fun y hy => by
        obtain ⟨q, hq, rfl⟩ := j9 hy
        rw [List.length_drop] at hq
        have e : (Y.drop (i - m).toNat).getD q 0 = Y.getD ((i - m).toNat + q) 0 := by simp only [List.getD, List.getElem?_drop]
        rw [e]
        have := hge (i + q) (by omega) (by omega)
        rw [show (i + (q : Int) - m).toNat = (i - m).toNat + q by omega] at this
        omega
      have hYs : Srtd key (Y.take (i - m).toNat ++ Y.drop (i - m).toNat) := by rw [List.take_append_drop]; exact hY
      refine ⟨Y.take (i - m).toNat ++ x :: Y.drop (i - m).toNat, rfl, by simp, zfl hYs (fun y hy => Int.le_of_lt (h1 y hy)) h2, ?_⟩
      have := Stab.rot1 (key := key) (u := []) (v := Y.drop (i - m).toNat) (a := [x]) (b := Y.take (i - m).toNat) (fun p hp q hq => by simp at hp; subst hp; have := h1 q hq; omega)
      simpa using this
end
end Go.Eng



namespace Go.Eng
open Go Go.Proofs Go.Eng.Rows Go.Eng.Srt
section
variable {key : Int → Int} {T : PV}
theorem zns (hc : iA T key) (lo hi : Nat) (nl : Bool) (P X R : List Int) (y : Int) (a m b : Int) (ha : 0 ≤ a) (hP : P.length = lo + a.toNat) (hm : m = a + X.length) (hX1 : X.length ≠ 1) (hb : b = m + 1) (hhi : (lo : Int) + b ≤ hi) (hr : R32 (P ++ (X ++ ([y] ++ R)))) (hlen : hi < 1000000000000) (hX : Srtd key X) :
    ACall Try.prog 112 [.sub 0 lo hi, .pv (.int .i64 a), .pv (.int .i64 m), .pv (.int .i64 b), .fn 74 [.box 1 0]] [.sl (21, 1) false nl (aA (P ++ (X ++ ([y] ++ R)))), .box [.pv T]] (iB key nl T P (X ++ [y]) R) := by
  have hat : ∀ h : Int, a ≤ h → h < m → (P ++ (X ++ ([y] ++ R)))[lo + h.toNat]? = some (X.getD (h - a).toNat 0) := fun h h1 h2 => by
    rw [List.getElem?_append_right (by omega), show lo + h.toNat - P.length = (h - a).toNat by omega, List.getElem?_append_left (by omega)]
    exact pE (by omega)
  have hay : (P ++ (X ++ ([y] ++ R)))[lo + m.toNat]? = some y := by
    have e : P ++ (X ++ ([y] ++ R)) = (P ++ X) ++ y :: R := by simp
    rw [e, show lo + m.toNat = (P ++ X).length by simp; omega, mQ]
  refine vQ _ _ _ _ _ _ _ _
    (fun _ _ _ => True) (fun _ _ _ => 0) (fun _ _ _ => True) (fun _ _ _ => 0)
    (fun i j s => s = aA (P ++ (X ++ ([y] ++ R))) ∧ a ≤ i ∧ i ≤ j ∧ j ≤ m ∧ (∀ h, a ≤ h → h < i → ¬ key y < key (X.getD (h - a).toNat 0)) ∧ (∀ h, j ≤ h → h < m → key y < key (X.getD (h - a).toNat 0))) (fun i j _ => (j - i).toNat)
    (fun i k s => a ≤ i ∧ i ≤ m ∧ (∀ h, a ≤ h → h < i → ¬ key y < key (X.getD (h - a).toNat 0)) ∧ (∀ h, i ≤ h → h < m → key y < key (X.getD (h - a).toNat 0)) ∧ i ≤ k ∧ k ≤ m ∧ s = aA (P ++ (X.take (k - a).toNat ++ (y :: (X.drop (k - a).toNat ++ R))))) (fun i k _ => (k - i).toNat)
    (fun _ _ _ => True) (fun _ _ _ => 0) ?_
  unfold oT
  have w1 : IntKind.i64.wrap (m - a) = X.length := by rw [aD (by omega) (by omega)]; omega
  have w2 : IntKind.i64.wrap (b - m) = 1 := by rw [aD (by omega) (by omega)]; omega
  refine bO (by rw [w1]; simp; omega) (bN (by rw [w2]; rfl) ⟨⟨rfl, rfl, Int.le_refl _, by omega, Int.le_refl _, fun h h1 h2 => by omega, fun h h1 h2 => by omega⟩, ?_⟩)
  rintro i j _ ⟨rfl, i0, hij, hjb, hlt, hge⟩
  refine aI (fun hc1 => ?_) (fun hc1 => ?_)
  · simp only [decide_eq_true_eq] at hc1
    rw [pF (by omega) (by omega) (by omega)]
    obtain ⟨h, hh⟩ : ∃ h, h = (i + j) / 2 := ⟨_, rfl⟩
    rw [← hh]
    have b1 : i ≤ h ∧ h < j := by omega
    have gx := hat h (by omega) (by omega)
    have wh : IntKind.i64.wrap (h + 1) = h + 1 := aD (by omega) (by omega)
    rw [wh]
    refine ⟨⟨by omega, by omega, by rw [cO hay]; rfl⟩, y, by rw [cO hay]; rfl, ⟨by omega, by omega, by rw [cO gx]; rfl⟩, _, by rw [cO gx]; rfl, ?_⟩
    refine (hc y _ (j8 hr hay) (j8 hr gx)).mono ?_
    rintro _ ⟨n2, rfl, hn2⟩
    refine ⟨n2, rfl, rfl, aI (fun hl => ?_) (fun hl => ?_)⟩
    · simp only [Bool.not_eq_true', decide_eq_false_iff_not] at hl
      have hk : ¬ key y < key (X.getD (h - a).toNat 0) := fun h => hl (hn2.2 h)
      refine ⟨rfl, ⟨rfl, by omega, by omega, by omega, fun q q1 q2 => ?_, hge⟩, by dsimp only; omega⟩
      have := hX.get (i := (q - a).toNat) (j := (h - a).toNat) (by omega) (by omega)
      omega
    · simp only [Bool.not_eq_true', decide_eq_false_iff_not, Decidable.not_not] at hl
      have hk := hn2.1 hl
      refine ⟨rfl, ⟨rfl, by omega, by omega, by omega, hlt, fun q q1 q2 => ?_⟩, by dsimp only; omega⟩
      have := hX.get (i := (h - a).toNat) (j := (q - a).toNat) (by omega) (by omega)
      omega
  · simp only [decide_eq_true_eq] at hc1
    have : i = j := by omega
    subst this
    have hml : (m - a).toNat = X.length := by omega
    refine ⟨⟨rfl, i0, hjb, hlt, hge, by omega, Int.le_refl _, by rw [hml]; simp⟩, ?_⟩
    clear hc1 hij hjb hlt hge i0
    rintro i k _ ⟨i0, ib, hlt, hge, k0, k1, rfl⟩
    refine aI (fun hc2 => ?_) (fun hc2 => ?_)
    · simp only [decide_eq_true_eq, gt_iff_lt] at hc2
      have wk : IntKind.i64.wrap (k - 1) = k - 1 := aD (by omega) (by omega)
      rw [wk]
      have hlk : (k - 1 - a).toNat < X.length := by omega
      have hn : (k - a).toNat = (k - 1 - a).toNat + 1 := by omega
      have dx : X.drop (k - 1 - a).toNat = X[(k - 1 - a).toNat] :: X.drop ((k - 1 - a).toNat + 1) := List.drop_eq_getElem_cons hlk
      have tx : X.take ((k - 1 - a).toNat + 1) = X.take (k - 1 - a).toNat ++ [X[(k - 1 - a).toNat]] := cZ hlk
      have lt : (X.take (k - 1 - a).toNat).length = (k - 1 - a).toNat := by rw [List.length_take]; omega
      obtain ⟨D, hDe⟩ : ∃ D, D = P ++ (X.take (k - a).toNat ++ (y :: (X.drop (k - a).toNat ++ R))) := ⟨_, rfl⟩
      have hRD : R32 D := fun z hz => hr z (by
        rw [hDe] at hz
        simp only [List.mem_append, List.mem_cons] at hz ⊢
        rcases hz with hz | hz | hz | hz | hz
        · exact .inl hz
        · exact .inr (.inl (List.mem_of_mem_take hz))
        · exact .inr (.inr (.inl (by simp [hz])))
        · exact .inr (.inl (List.mem_of_mem_drop hz))
        · exact .inr (.inr (.inr hz)))
      rw [← hDe]
      have hD : D = (P ++ X.take (k - 1 - a).toNat) ++ X[(k - 1 - a).toNat] :: y :: (X.drop ((k - 1 - a).toNat + 1) ++ R) := by rw [hDe, hn, tx]; simp only [List.append_assoc, List.cons_append, List.nil_append]
      have hk0 : lo + (k - 1).toNat = (P ++ X.take (k - 1 - a).toNat).length := by rw [List.length_append, lt]; omega
      have hk1 : lo + k.toNat = (P ++ X.take (k - 1 - a).toNat).length + 1 := by rw [List.length_append, lt]; omega
      have gx : D[lo + (k - 1).toNat]? = some X[(k - 1 - a).toNat] := by rw [hD, hk0, mQ]
      have gy : D[lo + k.toNat]? = some y := by rw [hD, hk1, List.getElem?_append_right (by omega)]; simp
      have hsw : (D.set (lo + k.toNat) X[(k - 1 - a).toNat]).set (lo + (k - 1).toNat) y = P ++ (X.take (k - 1 - a).toNat ++ (y :: (X.drop (k - 1 - a).toNat ++ R))) := by
        rw [hD, hk0, hk1, zfi, dx]; simp only [List.append_assoc, List.cons_append, List.nil_append]
      obtain ⟨t1, t2, t3, t4⟩ := sL D gy gx (by omega) X[(k - 1 - a).toNat] y
      rw [hsw] at t1
      have hla : 1 ≤ ((aA D).getD (lo + k.toNat) []).length := by rw [t2]; exact Nat.le_refl _
      refine ⟨⟨by omega, by omega, t3⟩, X[(k - 1 - a).toNat], by rw [cO gx]; rfl, ⟨by omega, by omega, t2⟩, y, by rw [cO gy]; rfl, ⟨by omega, by omega, t2⟩, ?_⟩
      refine ⟨?_, ?_⟩
      all_goals exact ⟨⟨rfl, hla⟩, ⟨by omega, by omega, t4⟩, ⟨rfl, by rw [t4]; exact Nat.le_refl _⟩, rfl, ⟨i0, ib, hlt, hge, by omega, by omega, t1⟩, by dsimp only; omega⟩
    · simp only [decide_eq_true_eq, gt_iff_lt] at hc2
      have hk : k = i := by omega
      subst hk
      have h1 : ∀ z ∈ X.take (k - a).toNat, key z ≤ key y := fun z hz => by
        obtain ⟨q, hq, rfl⟩ := j9 hz
        rw [List.length_take] at hq
        have e : (X.take (k - a).toNat).getD q 0 = X.getD q 0 := by simp only [List.getD]; rw [List.getElem?_take_of_lt (by omega)]
        rw [e]
        have := hlt (a + q) (by omega) (by omega)
        rw [show (a + (q : Int) - a).toNat = q by omega] at this
        omega
      have h2 : ∀ z ∈ X.drop (k - a).toNat, key y < key z := fun z hz => by
        obtain ⟨q, hq, rfl⟩ := j9 hz
        rw [List.length_drop] at hq
        have e : (X.drop (k - a).toNat).getD q 0 = X.getD ((k - a).toNat + q) 0 := by simp only [List.getD, List.getElem?_drop]
        rw [e]
        have := hge (k + q) (by omega) (by omega)
        rwa [show (k + (q : Int) - a).toNat = (k - a).toNat + q by omega] at this
      have hXs : Srtd key (X.take (k - a).toNat ++ X.drop (k - a).toNat) := by rw [List.take_append_drop]; exact hX
      refine ⟨X.take (k - a).toNat ++ y :: X.drop (k - a).toNat, rfl, by simp, zfl hXs h1 (fun z hz => Int.le_of_lt (h2 z hz)), ?_⟩
      have := Stab.rot1 (key := key) (u := X.take (k - a).toNat) (v := []) (a := X.drop (k - a).toNat) (b := [y]) (fun p hp q hq => by simp at hq; subst hq; have := h2 p hp; omega)
      rw [← List.append_assoc, List.take_append_drop] at this
      simpa using this
end
end Go.Eng



namespace Go.Eng
open Go Go.Proofs Go.Eng.Rows Go.Eng.Srt
section
variable {key : Int → Int} {T : PV} (lo hi : Nat) (nl : Bool)
abbrev iC (nl : Bool) (T : PV) (t : List (List PV)) : Hp := [.sl (21, 1) false nl t, .box [.pv T]]
abbrev zH (nl : Bool) (T : PV) (t : List (List PV)) (K : List (List PV) → Prop) : LV → Hp → Prop := fun r h' => ∃ t1, (r = .tup [] ∧ h' = iC nl T t1) ∧ (True ∧ ((21, 1) = (21, 1) ∧ nl = nl ∧ t.length = t1.length) ∧ True) ∧ K t1
def sM (T : PV) (mid e b : Int) (Q : LV → Hp → Prop) (t : List (List PV)) : Prop :=
  if (decide (mid < e) && decide (e < b)) = true then ACall Try.prog 112 [.sub 0 lo hi, .pv (.int .i64 mid), .pv (.int .i64 e), .pv (.int .i64 b), .fn 74 [.box 1 0]] (iC nl T t) (zH nl T t fun t1 => Q (.tup []) (iC nl T t1)) else Q (.tup []) (iC nl T t)
def sN (T : PV) (a s mid e b : Int) (Q : LV → Hp → Prop) (t : List (List PV)) : Prop :=
  if (decide (a < s) && decide (s < mid)) = true then ACall Try.prog 112 [.sub 0 lo hi, .pv (.int .i64 a), .pv (.int .i64 s), .pv (.int .i64 mid), .fn 74 [.box 1 0]] (iC nl T t) (zH nl T t (sM lo hi nl T mid e b Q)) else sM lo hi nl T mid e b Q t
def zI (T : PV) (a s m mid e b : Int) (Q : LV → Hp → Prop) (t : List (List PV)) : Prop :=
  if (decide (s < m) && decide (m < e)) = true then ACall Try.prog 120 [.sub 0 lo hi, .pv (.int .i64 s), .pv (.int .i64 m), .pv (.int .i64 e), .fn 74 [.box 1 0]] (iC nl T t) (zH nl T t (sN lo hi nl T a s mid e b Q)) else sN lo hi nl T a s mid e b Q t
theorem R32.of {l m : List Int} (h : R32 l) (hm : ∀ x ∈ m, x ∈ l) : R32 m := fun x hx => h x (hm x hx)
def zfm (T : PV) (key : Int → Int) (N : Int) : Prop := ∀ (P X Y R : List Int) (a m b : Int), 0 ≤ a → P.length = lo + a.toNat → m = a + X.length → b = m + Y.length → X ≠ [] → Y ≠ [] → (lo : Int) + b ≤ hi → R32 (P ++ (X ++ (Y ++ R))) → Srtd key X → Srtd key Y → b - a < N →
  ACall Try.prog 112 [.sub 0 lo hi, .pv (.int .i64 a), .pv (.int .i64 m), .pv (.int .i64 b), .fn 74 [.box 1 0]] (iC nl T (aA (P ++ (X ++ (Y ++ R))))) (iB key nl T P (X ++ Y) R)
theorem znt {N : Int} (ih : zfm lo hi nl T key N) (hlen : hi < 1000000000000) (P X1 X2 Y1 Y2 R : List Int) (a s m mid e b : Int) (ha : 0 ≤ a) (hP : P.length = lo + a.toNat) (h1 : s = a + X1.length) (h2 : m = s + X2.length) (h3 : e = m + Y1.length) (h4 : b = e + Y2.length) (h5 : mid = s + Y1.length)
    (hhi : (lo : Int) + b ≤ hi) (hr : R32 (P ++ (X1 ++ (X2 ++ (Y1 ++ (Y2 ++ R)))))) (hX : Srtd key (X1 ++ X2)) (hY : Srtd key (Y1 ++ Y2)) (f1 : ∀ x ∈ X2, ∀ y ∈ Y1, key y < key x) (f2 : ∀ x ∈ X1, ∀ y ∈ Y2, key x ≤ key y) (n1 : mid - a < N) (n2 : b - mid < N) :
    zI lo hi nl T a s m mid e b (iB key nl T P ((X1 ++ X2) ++ (Y1 ++ Y2)) R) (aA (P ++ (X1 ++ (X2 ++ (Y1 ++ (Y2 ++ R)))))) := by
  have hl1 : ∀ {u v : List Int}, u.length = v.length → (aA u).length = (aA v).length := fun h => by simp [h]
  obtain ⟨x1, x2, x3⟩ := gJ.1 hX
  obtain ⟨y1, y2, y3⟩ := gJ.1 hY
  have t3 : ∀ S1 : List Int, Srtd key S1 → Stab key (X1 ++ Y1) S1 → sM lo hi nl T mid e b (iB key nl T P ((X1 ++ X2) ++ (Y1 ++ Y2)) R) (aA (P ++ (S1 ++ (X2 ++ (Y2 ++ R))))) := fun S1 s1 k1 => by
    have kl := k1.len
    rw [List.length_append] at kl
    have fin : ∀ S2 : List Int, Srtd key S2 → Stab key (X2 ++ Y2) S2 → iB key nl T P ((X1 ++ X2) ++ (Y1 ++ Y2)) R (.tup []) (iC nl T (aA (P ++ (S1 ++ (S2 ++ R))))) := fun S2 s2 k2 => by
      obtain ⟨c1, c2⟩ := znq hX hY f1 f2 s1 k1 s2 k2
      exact ⟨S1 ++ S2, rfl, by simp, c1, c2⟩
    unfold sM
    refine aI (fun hc => ?_) (fun hc => ?_)
    · simp only [Bool.and_eq_true, decide_eq_true_eq] at hc
      have nx : X2 ≠ [] := fun h => by subst h; simp at h2; omega
      have ny : Y2 ≠ [] := fun h => by subst h; simp at h4; omega
      have := ih (P ++ S1) X2 Y2 R mid e b (by omega) (by rw [List.length_append]; omega) (by omega) h4 nx ny hhi (hr.of fun x hx => by
        simp only [List.mem_append] at hx ⊢
        rcases hx with (hx | hx) | hx | hx | hx
        · exact .inl hx
        · rcases List.mem_append.1 (k1.mem.2 hx) with hx | hx
          · exact .inr (.inl hx)
          · exact .inr (.inr (.inr (.inl hx)))
        · exact .inr (.inr (.inl hx))
        · exact .inr (.inr (.inr (.inr (.inl hx))))
        · exact .inr (.inr (.inr (.inr (.inr hx))))) x2 y2 n2
      rw [show P ++ (S1 ++ (X2 ++ (Y2 ++ R))) = (P ++ S1) ++ (X2 ++ (Y2 ++ R)) by simp]
      refine this.mono ?_
      rintro r h' ⟨S2, rfl, rfl, s2, k2⟩
      refine ⟨_, ⟨rfl, rfl⟩, ⟨trivial, ⟨rfl, rfl, hl1 ?_⟩, trivial⟩, ?_⟩
      · have := k2.len
        simp only [List.length_append] at this ⊢; omega
      · have := fin S2 s2 k2
        rw [← List.append_assoc P] at this
        exact this
    · simp only [Bool.and_eq_true, decide_eq_true_eq] at hc
      have hz : X2 = [] ∨ Y2 = [] := by
        rcases Nat.eq_zero_or_pos X2.length with h | h
        · exact .inl (List.length_eq_zero_iff.1 h)
        · exact .inr (List.length_eq_zero_iff.1 (by omega))
      have s2 : Srtd key (X2 ++ Y2) := by
        rcases hz with h | h
        · subst h; exact y2
        · subst h; simpa using x2
      have := fin (X2 ++ Y2) s2 (.refl _)
      rw [List.append_assoc X2 Y2] at this
      exact this
  have t2 : sN lo hi nl T a s mid e b (iB key nl T P ((X1 ++ X2) ++ (Y1 ++ Y2)) R) (aA (P ++ (X1 ++ (Y1 ++ (X2 ++ (Y2 ++ R)))))) := by
    unfold sN
    refine aI (fun hc => ?_) (fun hc => ?_)
    · simp only [Bool.and_eq_true, decide_eq_true_eq] at hc
      have nx : X1 ≠ [] := fun h => by subst h; simp at h1; omega
      have ny : Y1 ≠ [] := fun h => by subst h; simp at h5; omega
      refine (ih P X1 Y1 (X2 ++ (Y2 ++ R)) a s mid ha hP h1 h5 nx ny (by omega) (hr.of fun x hx => by
        simp only [List.mem_append] at hx ⊢
        rcases hx with hx | hx | hx | hx | hx | hx
        · exact .inl hx
        · exact .inr (.inl hx)
        · exact .inr (.inr (.inr (.inl hx)))
        · exact .inr (.inr (.inl hx))
        · exact .inr (.inr (.inr (.inr (.inl hx))))
        · exact .inr (.inr (.inr (.inr (.inr hx))))) x1 y1 n1).mono ?_
      rintro r h' ⟨S1, rfl, rfl, s1, k1⟩
      refine ⟨_, ⟨rfl, rfl⟩, ⟨trivial, ⟨rfl, rfl, hl1 ?_⟩, trivial⟩, t3 S1 s1 k1⟩
      have := k1.len
      simp only [List.length_append] at this ⊢; omega
    · simp only [Bool.and_eq_true, decide_eq_true_eq] at hc
      have hz : X1 = [] ∨ Y1 = [] := by
        rcases Nat.eq_zero_or_pos X1.length with h | h
        · exact .inl (List.length_eq_zero_iff.1 h)
        · exact .inr (List.length_eq_zero_iff.1 (by omega))
      have s2 : Srtd key (X1 ++ Y1) := by
        rcases hz with h | h
        · subst h; exact y1
        · subst h; simpa using x1
      have := t3 (X1 ++ Y1) s2 (.refl _)
      rw [List.append_assoc X1 Y1] at this
      exact this
  unfold zI
  refine aI (fun hc => ?_) (fun hc => ?_)
  · simp only [Bool.and_eq_true, decide_eq_true_eq] at hc
    have nx : X2 ≠ [] := fun h => by subst h; simp at h2; omega
    have ny : Y1 ≠ [] := fun h => by subst h; simp at h3; omega
    have := znp (T := T) lo hi nl (P ++ X1) X2 Y1 (Y2 ++ R) s m e (by omega) (by rw [List.length_append]; omega) h2 h3 nx ny (by omega) hlen
    rw [show P ++ (X1 ++ (X2 ++ (Y1 ++ (Y2 ++ R)))) = (P ++ X1) ++ (X2 ++ (Y1 ++ (Y2 ++ R))) by simp]
    refine this.mono ?_
    rintro r h' ⟨rfl, rfl⟩
    refine ⟨_, ⟨rfl, rfl⟩, ⟨trivial, ⟨rfl, rfl, hl1 ?_⟩, trivial⟩, ?_⟩
    · simp only [List.length_append]; omega
    · rw [List.append_assoc P]; exact t2
  · simp only [Bool.and_eq_true, decide_eq_true_eq] at hc
    have hz : X2 = [] ∨ Y1 = [] := by
      rcases Nat.eq_zero_or_pos X2.length with h | h
      · exact .inl (List.length_eq_zero_iff.1 h)
      · exact .inr (List.length_eq_zero_iff.1 (by omega))
    have e : P ++ (X1 ++ (X2 ++ (Y1 ++ (Y2 ++ R)))) = P ++ (X1 ++ (Y1 ++ (X2 ++ (Y2 ++ R)))) := by
      rcases hz with h | h <;> subst h <;> simp
    rw [e]; exact t2
end
end Go.Eng



namespace Go.Eng
open Go Go.Proofs Go.Eng.Rows Go.Eng.Srt
section
variable {key : Int → Int} {T : PV}
theorem zfn (hc : iA T key) (lo hi : Nat) (nl : Bool) (hlen : hi < 1000000000000) : ∀ N : Nat, zfm lo hi nl T key N := by
  intro N
  induction N with
  | zero =>
    intro P X Y R a m b ha hP hm hb hx hy hhi hr hX hY hN
    omega
  | succ N ih =>
    intro P X Y R a m b ha hP hm hb hx hy hhi hr hX hY hN
    have hxl := List.length_pos_iff.2 hx
    have hyl := List.length_pos_iff.2 hy
    by_cases hx1 : X.length = 1
    · obtain ⟨x, rfl⟩ := List.length_eq_one_iff.1 hx1
      exact znr hc lo hi nl P Y R x a m b ha hP (by simpa using hm) hb hhi hr hlen hY
    by_cases hy1 : Y.length = 1
    · obtain ⟨y, rfl⟩ := List.length_eq_one_iff.1 hy1
      exact zns hc lo hi nl P X R y a m b ha hP hm hx1 (by simpa using hb) hhi hr hlen hX
    obtain ⟨mid, hmid⟩ : ∃ mid, mid = (a + b) / 2 := ⟨_, rfl⟩
    have hat : ∀ h : Int, a ≤ h → h < m → (P ++ (X ++ (Y ++ R)))[lo + h.toNat]? = some (X.getD (h - a).toNat 0) := fun h h1 h2 => by
      rw [List.getElem?_append_right (by omega), show lo + h.toNat - P.length = (h - a).toNat by omega, List.getElem?_append_left (by omega)]
      exact pE (by omega)
    have hbt : ∀ h : Int, m ≤ h → h < b → (P ++ (X ++ (Y ++ R)))[lo + h.toNat]? = some (Y.getD (h - m).toNat 0) := fun h h1 h2 => by
      rw [← List.append_assoc, List.getElem?_append_right (by rw [List.length_append]; omega), show lo + h.toNat - (P ++ X).length = (h - m).toNat by rw [List.length_append]; omega, List.getElem?_append_left (by omega)]
      exact pE (by omega)
    obtain ⟨s0, hs0⟩ : ∃ s0, s0 = if m > mid then mid + m - b else a := ⟨_, rfl⟩
    obtain ⟨r0, hr0⟩ : ∃ r0, r0 = if m > mid then mid else m := ⟨_, rfl⟩
    have rng : a ≤ s0 ∧ s0 ≤ r0 ∧ r0 ≤ m ∧ mid + m - s0 ≤ b ∧ m ≤ mid + m - r0 := by
      rw [hs0, hr0]; split <;> omega
    refine vQ _ _ _ _ _ _ _ _
      (fun _ _ _ => True) (fun _ _ _ => 0) (fun _ _ _ => True) (fun _ _ _ => 0) (fun _ _ _ => True) (fun _ _ _ => 0) (fun _ _ _ => True) (fun _ _ _ => 0)
      (fun i j s => s = aA (P ++ (X ++ (Y ++ R))) ∧ s0 ≤ i ∧ i ≤ j ∧ j ≤ r0 ∧ (∀ c, s0 ≤ c → c < i → ¬ key (Y.getD (mid - 1 - c).toNat 0) < key (X.getD (c - a).toNat 0)) ∧ (∀ c, j ≤ c → c < r0 → key (Y.getD (mid - 1 - c).toNat 0) < key (X.getD (c - a).toNat 0))) (fun i j _ => (j - i).toNat) ?_
    unfold oT
    have w1 : IntKind.i64.wrap (m - a) = X.length := by rw [aD (by omega) (by omega)]; omega
    have w2 : IntKind.i64.wrap (b - m) = Y.length := by rw [aD (by omega) (by omega)]; omega
    have w3 : IntKind.i64.wrap (mid + m) = mid + m := aD (by omega) (by omega)
    have w4 : IntKind.i64.wrap (mid + m - b) = mid + m - b := aD (by omega) (by omega)
    have w5 : IntKind.i64.wrap (mid + m - 1) = mid + m - 1 := aD (by omega) (by omega)
    rw [w1, w2, pF ha (by omega) (by omega), ← hmid, w3, w4, w5]
    -- what the loop is, and what follows it
    have body : ∀ (x20 x21 : Int) (s : List (List PV)), (s = aA (P ++ (X ++ (Y ++ R))) ∧ s0 ≤ x20 ∧ x20 ≤ x21 ∧ x21 ≤ r0 ∧ (∀ c, s0 ≤ c → c < x20 → ¬ key (Y.getD (mid - 1 - c).toNat 0) < key (X.getD (c - a).toNat 0)) ∧ (∀ c, x21 ≤ c → c < r0 → key (Y.getD (mid - 1 - c).toNat 0) < key (X.getD (c - a).toNat 0))) →
        (x20 < x21 → ∃ h, h = (x20 + x21) / 2 ∧ IntKind.i64.wrap (mid + m - 1 - h) = mid + m - 1 - h ∧ IntKind.i64.wrap (h + 1) = h + 1 ∧ (0 ≤ mid + m - 1 - h ∧ mid + m - 1 - h < (hi : Int) - lo ∧ (s.getD (lo + (mid + m - 1 - h).toNat) []).length = 1) ∧ (0 ≤ h ∧ h < (hi : Int) - lo ∧ (s.getD (lo + h.toNat) []).length = 1) ∧
          ∃ n n1, (List.drop 0 (s.getD (lo + (mid + m - 1 - h).toNat) [])).head? = some (PV.int .i32 n) ∧ (List.drop 0 (s.getD (lo + h.toNat) [])).head? = some (PV.int .i32 n1) ∧ (-2147483648 ≤ n ∧ n ≤ 2147483647) ∧ (-2147483648 ≤ n1 ∧ n1 ≤ 2147483647) ∧
          (¬ key n < key n1 → (s = aA (P ++ (X ++ (Y ++ R))) ∧ s0 ≤ h + 1 ∧ h + 1 ≤ x21 ∧ x21 ≤ r0 ∧ (∀ c, s0 ≤ c → c < h + 1 → ¬ key (Y.getD (mid - 1 - c).toNat 0) < key (X.getD (c - a).toNat 0)) ∧ (∀ c, x21 ≤ c → c < r0 → key (Y.getD (mid - 1 - c).toNat 0) < key (X.getD (c - a).toNat 0))) ∧ (x21 - (h + 1)).toNat < (x21 - x20).toNat) ∧
          (key n < key n1 → (s = aA (P ++ (X ++ (Y ++ R))) ∧ s0 ≤ x20 ∧ x20 ≤ h ∧ h ≤ r0 ∧ (∀ c, s0 ≤ c → c < x20 → ¬ key (Y.getD (mid - 1 - c).toNat 0) < key (X.getD (c - a).toNat 0)) ∧ (∀ c, h ≤ c → c < r0 → key (Y.getD (mid - 1 - c).toNat 0) < key (X.getD (c - a).toNat 0))) ∧ (h - x20).toNat < (x21 - x20).toNat)) ∧
        (¬ x20 < x21 → IntKind.i64.wrap (mid + m - x20) = mid + m - x20 ∧ zI lo hi nl T a x20 m mid (mid + m - x20) b (iB key nl T P (X ++ Y) R) s) := by
      rintro i j _ ⟨rfl, i0, hij, hjr, hge, hlt⟩
      refine ⟨fun hc1 => ?_, fun hc1 => ?_⟩
      · obtain ⟨h, hh⟩ : ∃ h, h = (i + j) / 2 := ⟨_, rfl⟩
        have b1 : i ≤ h ∧ h < j := by omega
        have gx := hat h (by omega) (by omega)
        have gy := hbt (mid + m - 1 - h) (by omega) (by omega)
        rw [show (mid + m - 1 - h - m).toNat = (mid - 1 - h).toNat by omega] at gy
        refine ⟨h, hh, aD (by omega) (by omega), aD (by omega) (by omega), ⟨by omega, by omega, by rw [cO gy]; rfl⟩, ⟨by omega, by omega, by rw [cO gx]; rfl⟩, _, _, by rw [cO gy]; rfl, by rw [cO gx]; rfl, j8 hr gy, j8 hr gx, fun hk => ?_, fun hk => ?_⟩
        · refine ⟨⟨rfl, by omega, by omega, hjr, fun c c1 c2 => ?_, hlt⟩, by omega⟩
          have u := hX.get (i := (c - a).toNat) (j := (h - a).toNat) (by omega) (by omega)
          have v := hY.get (i := (mid - 1 - h).toNat) (j := (mid - 1 - c).toNat) (by omega) (by omega)
          omega
        · refine ⟨⟨rfl, i0, by omega, by omega, hge, fun c c1 c2 => ?_⟩, by omega⟩
          have u := hX.get (i := (h - a).toNat) (j := (c - a).toNat) (by omega) (by omega)
          have v := hY.get (i := (mid - 1 - c).toNat) (j := (mid - 1 - h).toNat) (by omega) (by omega)
          omega
      · have hij2 : i = j := by omega
        subst hij2
        refine ⟨aD (by omega) (by omega), ?_⟩
        have l1 : (X.take (i - a).toNat).length = (i - a).toNat := by rw [List.length_take]; omega
        have l2 : (X.drop (i - a).toNat).length = X.length - (i - a).toNat := List.length_drop
        have l3 : (Y.take (mid - i).toNat).length = (mid - i).toNat := by rw [List.length_take]; omega
        have l4 : (Y.drop (mid - i).toNat).length = Y.length - (mid - i).toNat := List.length_drop
        have eX : X.take (i - a).toNat ++ X.drop (i - a).toNat = X := List.take_append_drop _ _
        have eY : Y.take (mid - i).toNat ++ Y.drop (mid - i).toNat = Y := List.take_append_drop _ _
        have tk : ∀ (L : List Int) (k q : Nat), q < k → (L.take k).getD q 0 = L.getD q 0 := fun L k q h => by simp only [List.getD]; rw [List.getElem?_take_of_lt h]
        have dk : ∀ (L : List Int) (k q : Nat), (L.drop k).getD q 0 = L.getD (k + q) 0 := fun L k q => by simp only [List.getD, List.getElem?_drop]
        have f1 : ∀ x ∈ X.drop (i - a).toNat, ∀ y ∈ Y.take (mid - i).toNat, key y < key x := fun x hx y hy => by
          obtain ⟨q, hq, rfl⟩ := j9 hx
          obtain ⟨p, hp, rfl⟩ := j9 hy
          rw [l2] at hq
          rw [l3] at hp
          rw [tk _ _ _ hp, dk]
          have hir : i < r0 := by rw [hr0]; split <;> omega
          have k0 := hlt i (Int.le_refl _) hir
          have u := hX.get (i := (i - a).toNat) (j := (i - a).toNat + q) (by omega) (by omega)
          have v := hY.get (i := p) (j := (mid - 1 - i).toNat) (by omega) (by omega)
          omega
        have f2 : ∀ x ∈ X.take (i - a).toNat, ∀ y ∈ Y.drop (mid - i).toNat, key x ≤ key y := fun x hx y hy => by
          obtain ⟨q, hq, rfl⟩ := j9 hx
          obtain ⟨p, hp, rfl⟩ := j9 hy
          rw [l1] at hq
          rw [l4] at hp
          rw [tk _ _ _ hq, dk]
          have his : s0 ≤ i - 1 := by rw [hs0]; split <;> omega
          have k0 := hge (i - 1) his (by omega)
          rw [show (mid - 1 - (i - 1)).toNat = (mid - i).toNat by omega] at k0
          have u := hX.get (i := q) (j := (i - 1 - a).toNat) (by omega) (by omega)
          have v := hY.get (i := (mid - i).toNat) (j := (mid - i).toNat + p) (by omega) (by omega)
          omega
        have := znt lo hi nl (N := N) ih hlen P (X.take (i - a).toNat) (X.drop (i - a).toNat) (Y.take (mid - i).toNat) (Y.drop (mid - i).toNat) R a i m mid (mid + m - i) b ha hP (by omega) (by omega) (by omega) (by omega) (by omega) hhi
          (by rw [← List.append_assoc (Y.take _), eY, ← List.append_assoc (X.take _), eX]; exact hr) (by rw [eX]; exact hX) (by rw [eY]; exact hY) f1 f2 (by omega) (by omega)
        rw [← List.append_assoc (Y.take _) _ R, eY, ← List.append_assoc (X.take _) _ (Y ++ R), eX] at this
        exact this
    refine bO (by simp; omega) (bO (by simp; omega) ?_)
    refine aI (fun hm2 => ?_) (fun hm2 => ?_)
    · simp only [decide_eq_true_eq] at hm2
      rw [if_pos hm2] at hs0 hr0
      refine ⟨⟨rfl, rfl, by omega, by omega, by omega, fun c c1 c2 => by omega, fun c c1 c2 => by omega⟩, ?_⟩
      rintro i j s hJ
      obtain ⟨b1, b2⟩ := body i j s hJ
      refine aI (fun hc1 => ?_) (fun hc1 => ?_)
      · simp only [decide_eq_true_eq] at hc1
        obtain ⟨h, hh, e1, e2, e3, e4, n, n1, g1, g2, r1, r2, k1, k2⟩ := b1 hc1
        rw [pF (by omega) (by omega) (by omega), ← hh, e1, e2]
        refine ⟨e3, n, g1, e4, n1, g2, ?_⟩
        refine (hc n n1 r1 r2).mono ?_
        rintro _ ⟨n2, rfl, hn2⟩
        refine ⟨n2, rfl, rfl, aI (fun hl => ?_) (fun hl => ?_)⟩
        · simp only [Bool.not_eq_true', decide_eq_false_iff_not] at hl
          obtain ⟨q1, q2⟩ := k1 fun h => hl (hn2.2 h)
          exact ⟨rfl, q1, q2⟩
        · simp only [Bool.not_eq_true', decide_eq_false_iff_not, Decidable.not_not] at hl
          obtain ⟨q1, q2⟩ := k2 (hn2.1 hl)
          exact ⟨rfl, q1, q2⟩
      · simp only [decide_eq_true_eq] at hc1
        obtain ⟨e1, e2⟩ := b2 hc1
        rw [e1]
        exact e2
    · simp only [decide_eq_true_eq] at hm2
      rw [if_neg hm2] at hs0 hr0
      refine ⟨⟨rfl, rfl, by omega, by omega, by omega, fun c c1 c2 => by omega, fun c c1 c2 => by omega⟩, ?_⟩
      rintro i j s hJ
      obtain ⟨b1, b2⟩ := body i j s hJ
      refine aI (fun hc1 => ?_) (fun hc1 => ?_)
      · simp only [decide_eq_true_eq] at hc1
        obtain ⟨h, hh, e1, e2, e3, e4, n, n1, g1, g2, r1, r2, k1, k2⟩ := b1 hc1
        rw [pF (by omega) (by omega) (by omega), ← hh, e1, e2]
        refine ⟨e3, n, g1, e4, n1, g2, ?_⟩
        refine (hc n n1 r1 r2).mono ?_
        rintro _ ⟨n2, rfl, hn2⟩
        refine ⟨n2, rfl, rfl, aI (fun hl => ?_) (fun hl => ?_)⟩
        · simp only [Bool.not_eq_true', decide_eq_false_iff_not] at hl
          obtain ⟨q1, q2⟩ := k1 fun h => hl (hn2.2 h)
          exact ⟨rfl, q1, q2⟩
        · simp only [Bool.not_eq_true', decide_eq_false_iff_not, Decidable.not_not] at hl
          obtain ⟨q1, q2⟩ := k2 (hn2.1 hl)
          exact ⟨rfl, q1, q2⟩
      · simp only [decide_eq_true_eq] at hc1
        obtain ⟨e1, e2⟩ := b2 hc1
        rw [e1]
        exact e2
end
end Go.Eng



namespace Go.Eng
open Go Go.Proofs Go.Eng.Rows Go.Eng.Srt
section
variable {key : Int → Int} {T : PV}
def lK (key : Int → Int) (k : Nat) (Bs : List (List Int)) : Prop := ∀ B ∈ Bs, B.length = k ∧ Srtd key B
theorem zJ {k : Nat} : ∀ {Bs : List (List Int)}, lK key k Bs → Bs.flatten.length = k * Bs.length
  | [], _ => by simp
  | B :: Bs, h => by
    rw [List.flatten_cons, List.length_append, (h B List.mem_cons_self).1, zJ (Bs := Bs) fun C hC => h C (List.mem_cons_of_mem _ hC), List.length_cons, Nat.mul_add]; omega
theorem sO (Bs : List (List Int)) : Bs = [] ∨ (∃ X, Bs = [X]) ∨ ∃ X Y Bs', Bs = X :: Y :: Bs' := by
  match Bs with
  | [] => exact .inl rfl
  | [X] => exact .inr (.inl ⟨X, rfl⟩)
  | X :: Y :: Bs' => exact .inr (.inr ⟨X, Y, Bs', rfl⟩)
theorem zfo {k : Nat} {Bs : List (List Int)} {B : List Int} (h : lK key k Bs) (hl : B.length = k) (hs : Srtd key B) : lK key k (Bs ++ [B]) := fun C hC => by
  rcases List.mem_append.1 hC with hC | hC
  · exact h C hC
  · simp only [List.mem_singleton] at hC; subst hC; exact ⟨hl, hs⟩
theorem zK {P S R S' : List Int} (h : R32 (P ++ (S ++ R))) (k : Stab key S S') : R32 (P ++ (S' ++ R)) := h.of fun x hx => by
  simp only [List.mem_append] at hx ⊢
  rcases hx with hx | hx | hx
  · exact .inl hx
  · exact .inr (.inl (k.mem.2 hx))
  · exact .inr (.inr hx)
theorem znu (hc : iA T key) (lo hi : Nat) (nl : Bool) (P S R : List Int) (hP : P.length = lo) (hS : hi = lo + S.length) (hr : R32 (P ++ (S ++ R))) (hlen : hi < 1000000000000) :
    ACall Try.prog 96 [.sub 0 lo hi, .pv (.int .i64 ((hi - lo : Nat) : Int)), .fn 74 [.box 1 0]] (iC nl T (aA (P ++ (S ++ R)))) (iB key nl T P S R) := by
  have hl1 : ∀ {u v : List Int}, u.length = v.length → (aA u).length = (aA v).length := fun h => by simp [h]
  obtain ⟨n, hn⟩ : ∃ n : Int, n = ((hi - lo : Nat) : Int) := ⟨_, rfl⟩
  rw [← hn]
  have hnS : n = S.length := by omega
  refine zju _ _ _ _ _ _
    (fun a b s => b = a + 20 ∧ 0 ≤ a ∧ ∃ Bs C, s = aA (P ++ (Bs.flatten ++ C ++ R)) ∧ lK key 20 Bs ∧ (Bs.flatten.length : Int) = a ∧ Stab key S (Bs.flatten ++ C)) (fun a _ _ => (n + 1 - a).toNat)
    (fun k s => 0 < k ∧ ∃ Bs C, s = aA (P ++ (Bs.flatten ++ C ++ R)) ∧ lK key k.toNat Bs ∧ Srtd key C ∧ (C.length : Int) < k ∧ Stab key S (Bs.flatten ++ C)) (fun k _ => (n - k).toNat)
    (fun k _ _ _ k' a b s => k = k' ∧ b = a + 2 * k ∧ 0 ≤ a ∧ ∃ B2 Bs C, s = aA (P ++ (B2.flatten ++ (Bs.flatten ++ C) ++ R)) ∧ lK key (2 * k).toNat B2 ∧ lK key k.toNat Bs ∧ Srtd key C ∧ (C.length : Int) < k ∧ (B2.flatten.length : Int) = a ∧ Stab key S (B2.flatten ++ (Bs.flatten ++ C))) (fun k a _ _ => (n + 1 - a).toNat) ?_
  unfold vT
  refine ⟨⟨rfl, rfl, Int.le_refl _, [], S, by simp, fun B hB => (by cases hB), rfl, by simpa using Stab.refl S⟩, ?_⟩
  rintro a b _ ⟨rfl, a0, Bs, C, rfl, hBs, hBl, hst⟩
  have hsl := hst.len
  rw [List.length_append] at hsl
  refine aI (fun hc1 => ?_) (fun hc1 => ?_)
  · simp only [decide_eq_true_eq] at hc1
    have wa : IntKind.i64.wrap (a + 20 + 20) = a + 20 + 20 := aD (by omega) (by omega)
    rw [wa]
    have hC : C.take 20 ++ C.drop 20 = C := List.take_append_drop _ _
    have hCl : (C.take 20).length = 20 := by rw [List.length_take]; omega
    have e1 : P ++ (Bs.flatten ++ C ++ R) = (P ++ Bs.flatten) ++ C.take 20 ++ (C.drop 20 ++ R) := by
      rw [show Bs.flatten ++ C ++ R = Bs.flatten ++ ((C.take 20 ++ C.drop 20) ++ R) by rw [hC]; simp]
      simp only [List.append_assoc]
    have := zfk hc lo hi nl (P ++ Bs.flatten) (C.take 20) (C.drop 20 ++ R) a (a + 20) a0 (by rw [List.length_append]; omega) (by omega) (by omega) (by rw [← e1]; exact zK hr hst) hlen
    rw [e1]
    refine this.mono ?_
    rintro r h' ⟨S1, rfl, rfl, s1, k1⟩
    have k1l := k1.len
    refine ⟨_, ⟨rfl, rfl⟩, ⟨trivial, ⟨rfl, rfl, hl1 (by simp only [List.length_append]; omega)⟩, trivial⟩, rfl, ⟨rfl, by omega, Bs ++ [S1], C.drop 20, by simp, zfo hBs (by omega) s1, by simp only [List.flatten_append, List.flatten_cons, List.flatten_nil, List.append_nil, List.length_append]; omega, ?_⟩, by dsimp only; omega⟩
    refine hst.trans ?_
    have := (Stab.refl (key := key) Bs.flatten).app (k1.app (Stab.refl (C.drop 20)))
    rw [hC] at this
    simpa using this
  · simp only [decide_eq_true_eq] at hc1
    have e1 : P ++ (Bs.flatten ++ C ++ R) = (P ++ Bs.flatten) ++ C ++ R := by simp
    have := zfk hc lo hi nl (P ++ Bs.flatten) C R a n a0 (by rw [List.length_append]; omega) (by omega) (by omega) (by rw [← e1]; exact zK hr hst) hlen
    rw [e1]
    refine this.mono ?_
    rintro r h' ⟨C1, rfl, rfl, s1, k1⟩
    have k1l := k1.len
    refine ⟨_, ⟨rfl, rfl⟩, ⟨trivial, ⟨rfl, rfl, hl1 (by simp only [List.length_append]; omega)⟩, trivial⟩, ⟨rfl, by omega, Bs, C1, by simp, hBs, s1, by omega, hst.trans ((Stab.refl _).app k1)⟩, ?_⟩
    clear hBs hBl hst hsl hc1 e1 this s1 k1 k1l
    rintro k _ ⟨k0, Bs, C, rfl, hBs, hCs, hCk, hst⟩
    have hsl := hst.len
    rw [List.length_append] at hsl
    have hbl := zJ hBs
    refine aI (fun hc2 => ?_) (fun hc2 => ?_)
    · simp only [decide_eq_true_eq] at hc2
      have w2 : IntKind.i64.wrap (2 * k) = 2 * k := aD (by omega) (by omega)
      have w3 : IntKind.i64.wrap (k * 2) = 2 * k := by rw [aD (by omega) (by omega)]; omega
      rw [w2]
      refine ⟨⟨rfl, rfl, by omega, Int.le_refl _, [], Bs, C, by simp, fun B hB => (by cases hB), hBs, hCs, hCk, rfl, by simpa using hst⟩, ?_⟩
      clear hBs hCs hCk hst hsl hbl
      rintro _ a b _ ⟨rfl, rfl, a0, B2, Bs, C, rfl, hB2, hBs, hCs, hCk, hBl, hst⟩
      have hsl := hst.len
      rw [List.length_append, List.length_append] at hsl
      have hbl := zJ hBs
      have hRs : R32 (P ++ (B2.flatten ++ (Bs.flatten ++ C) ++ R)) := zK hr hst
      rw [w2, w3]
      have hkn : (k.toNat : Int) = k := by omega
      refine aI (fun hc3 => ?_) (fun hc3 => ?_)
      · simp only [decide_eq_true_eq] at hc3
        have w4 : IntKind.i64.wrap (a + k) = a + k := aD (by omega) (by omega)
        have w5 : IntKind.i64.wrap (a + 2 * k + 2 * k) = a + 2 * k + 2 * k := aD (by omega) (by omega)
        rw [w4, w5]
        obtain ⟨X, Y, Bs', rfl⟩ : ∃ X Y Bs', Bs = X :: Y :: Bs' := by
          rcases sO Bs with rfl | ⟨X, rfl⟩ | h
          · simp only [List.flatten_nil, List.length_nil] at hsl; omega
          · have h1 := (hBs X (by simp)).1
            simp only [List.flatten_cons, List.flatten_nil, List.append_nil] at hsl; omega
          · exact h
        obtain ⟨hXl, hXs⟩ := hBs X (by simp)
        obtain ⟨hYl, hYs⟩ := hBs Y (by simp)
        have nx : X ≠ [] := fun h => by subst h; simp at hXl; omega
        have ny : Y ≠ [] := fun h => by subst h; simp at hYl; omega
        have e1 : P ++ (B2.flatten ++ ((X :: Y :: Bs').flatten ++ C) ++ R) = (P ++ B2.flatten) ++ (X ++ (Y ++ (Bs'.flatten ++ C ++ R))) := by simp
        have := zfn hc lo hi nl hlen (2 * k + 1).toNat (P ++ B2.flatten) X Y (Bs'.flatten ++ C ++ R) a (a + k) (a + 2 * k) a0 (by rw [List.length_append]; omega) (by omega) (by omega) nx ny (by omega) (by rw [← e1]; exact hRs) hXs hYs (by omega)
        rw [e1]
        refine this.mono ?_
        rintro r h' ⟨S1, rfl, rfl, s1, k1⟩
        have k1l := k1.len
        rw [List.length_append] at k1l
        refine ⟨_, ⟨rfl, rfl⟩, ⟨trivial, ⟨rfl, rfl, hl1 (by simp only [List.length_append]; omega)⟩, trivial⟩, rfl, ⟨rfl, rfl, by omega, B2 ++ [S1], Bs', C, by simp, zfo hB2 (by omega) s1, fun B hB => hBs B (by simp [hB]), hCs, hCk, by simp only [List.flatten_append, List.flatten_cons, List.flatten_nil, List.append_nil, List.length_append]; omega, ?_⟩, by dsimp only; omega⟩
        refine hst.trans ?_
        have := (Stab.refl (key := key) B2.flatten).app (k1.app (Stab.refl (Bs'.flatten ++ C)))
        simpa using this
      · simp only [decide_eq_true_eq] at hc3
        have w4 : IntKind.i64.wrap (a + k) = a + k := aD (by omega) (by omega)
        rw [w4]
        refine aI (fun hc4 => ?_) (fun hc4 => ?_)
        · simp only [decide_eq_true_eq] at hc4
          obtain ⟨X, rfl⟩ : ∃ X, Bs = [X] := by
            rcases sO Bs with rfl | h | ⟨X, Y, Bs', rfl⟩
            · simp only [List.flatten_nil, List.length_nil] at hsl; omega
            · exact h
            · have h1 := (hBs X (by simp)).1
              have h2 := (hBs Y (by simp)).1
              simp only [List.flatten_cons, List.length_append] at hsl
              omega
          obtain ⟨hXl, hXs⟩ := hBs X (by simp)
          have nx : X ≠ [] := fun h => by subst h; simp at hXl; omega
          simp only [List.flatten_cons, List.flatten_nil, List.append_nil] at hsl hst
          have ny : C ≠ [] := fun h => by subst h; simp only [List.length_nil] at hsl; omega
          have e1 : P ++ (B2.flatten ++ ([X].flatten ++ C) ++ R) = (P ++ B2.flatten) ++ (X ++ (C ++ R)) := by simp
          have := zfn hc lo hi nl hlen (2 * k + 1).toNat (P ++ B2.flatten) X C R a (a + k) n a0 (by rw [List.length_append]; omega) (by omega) (by omega) nx ny (by omega) (by rw [← e1]; exact hRs) hXs hCs (by omega)
          rw [e1]
          refine this.mono ?_
          rintro r h' ⟨S1, rfl, rfl, s1, k1⟩
          have k1l := k1.len
          rw [List.length_append] at k1l
          exact ⟨_, ⟨rfl, rfl⟩, ⟨trivial, ⟨rfl, rfl, hl1 (by simp only [List.length_append]; omega)⟩, trivial⟩, rfl, ⟨by omega, B2, S1, by simp, hB2, s1, by omega, hst.trans ((Stab.refl _).app k1)⟩, by dsimp only; omega⟩
        · simp only [decide_eq_true_eq] at hc4
          have hCs2 : Srtd key (Bs.flatten ++ C) ∧ ((Bs.flatten ++ C).length : Int) < 2 * k := by
            rcases sO Bs with rfl | ⟨X, rfl⟩ | ⟨X, Y, Bs', rfl⟩
            · exact ⟨by simpa using hCs, by simp; omega⟩
            · have h1 := hBs X (by simp)
              simp only [List.flatten_cons, List.flatten_nil, List.append_nil] at hsl ⊢
              have hC0 : C = [] := List.length_eq_zero_iff.1 (by omega)
              subst hC0
              exact ⟨by simpa using h1.2, by simp; omega⟩
            · exfalso
              have h1 := (hBs X (by simp)).1
              have h2 := (hBs Y (by simp)).1
              simp only [List.flatten_cons, List.length_append] at hsl
              omega
          exact ⟨rfl, ⟨by omega, B2, Bs.flatten ++ C, by simp, hB2, hCs2.1, hCs2.2, hst⟩, by dsimp only; omega⟩
    · simp only [decide_eq_true_eq] at hc2
      have hz : Srtd key (Bs.flatten ++ C) := by
        rcases sO Bs with rfl | ⟨X, rfl⟩ | ⟨X, Y, Bs', rfl⟩
        · simpa using hCs
        · have h1 := hBs X (by simp)
          simp only [List.flatten_cons, List.flatten_nil, List.append_nil] at hsl ⊢
          have hC0 : C = [] := List.length_eq_zero_iff.1 (by omega)
          subst hC0
          simpa using h1.2
        · exfalso
          have h1 := (hBs X (by simp)).1
          have h2 := (hBs Y (by simp)).1
          simp only [List.flatten_cons, List.length_append] at hsl
          omega
      exact ⟨Bs.flatten ++ C, rfl, rfl, hz, hst⟩
theorem znv (hc : iA T key) (lo hi : Nat) (nl : Bool) (P S R : List Int) (hP : P.length = lo) (hS : hi = lo + S.length) (hr : R32 (P ++ (S ++ R))) (hlen : hi < 1000000000000) :
    ACall Try.prog 73 [.sub 0 lo hi, .fn 74 [.box 1 0]] (iC nl T (aA (P ++ (S ++ R)))) (iB key nl T P S R) := by
  refine zjv _ _ _ _ _ ?_
  unfold vU
  refine (znu hc lo hi nl P S R hP hS hr hlen).mono ?_
  rintro r h' ⟨S1, rfl, rfl, s1, k1⟩
  exact ⟨_, ⟨rfl, rfl⟩, ⟨trivial, ⟨rfl, rfl, by have := k1.len; simp; omega⟩, trivial⟩, S1, rfl, rfl, s1, k1⟩
end
end Go.Eng



namespace Go.Eng
open Go Go.Proofs Go.Eng.Rows Go.Eng.Srt
section
variable {Z : World → (Nat → Prop) → (Nat → Pl) → Hp → Prop} {key : Int → Int} {nl : Bool} {T : PV} {l : Nat}
def YQ (key : Int → Int) (L : List Int) (f i : Nat) (L' : List Int) : Prop := ∃ S', L' = L.take f ++ (S' ++ L.drop i) ∧ Srtd key S' ∧ Stab key ((L.take i).drop f) S'
def zL (Z : World → (Nat → Prop) → (Nat → Pl) → Hp → Prop) (key : Int → Int) (nl : Bool) (T : PV) (l N0 : Nat) : Prop :=
  ∀ (w : World) (I : Nat → Prop) (G : Nat → Pl) (L : List Int) (f i : Nat), HRel w I G (aK nl T (aA L)) → Z w I G (aK nl T (aA L)) → f + 1 < i → i ≤ L.length → R32 L → L.length < 1000000000000 → L.length = N0 →
    ∃ fn tmps assign body, (Instr.yield l #[.int .i64 f, .int .i64 i]).run Try.prog w = .ok (.round l fn tmps assign body) w ∧ RoundIn Fence.wide 0 Try.prog l fn tmps assign body w fun e w' =>
      e = .returned (.bool true) ∧ ∃ L' I' G', YQ key L f i L' ∧ HRel w' I' G' (aK nl T (aA L')) ∧ Keeps w I w' I' ∧ Like G G' (aK nl T (aA L)) (aK nl T (aA L')) ∧ Z w' I' G' (aK nl T (aA L'))
def o8 (ops : Array Oper) : Oper := ops.toList.getD 8 default
theorem e6a (y : Value) (es : List (List PV)) (i f : Int) (K : Env → Hp → Prop) : bL Try.prog (fun _ => none) 39 (bT (cY Try.f95)).toList ((bT (cY Try.f95)).toList.take 8) (eM y i f) (aK nl T es) K =
    K ((35, LV.spec 32 true (.pv (.int .i64 i))) :: (34, LV.spec 32 true (.pv (.int .i64 f))) :: (33, LV.spec 32 true (.pv (.raw y))) :: (32, .pv (.bool (decide (IntKind.i64.wrap (i - f) > (1 : Int))))) :: (31, .pv (.bool (decide (IntKind.i64.wrap (i - f) > (1 : Int))))) ::
      (30, .pv (.int .i64 (IntKind.i64.wrap (i - f)))) :: (29, .pv (.int .i64 f)) :: (28, .pv (.int .i64 i)) :: eM y i f) (aK nl T es) := by kernel_rfl
theorem e6b (y : Value) (es : List (List PV)) (i f : Int) (K : Env → Hp → Prop) : bL Try.prog (fun _ => none) 39 (bT (cY Try.f95)).toList ((bT (cY Try.f95)).toList.drop 9) ((36, .pv (.bool true)) :: (32, .pv (.bool true)) :: eM y i f) (aK nl T es) K =
    K ((38, .pv (.bool false)) :: (37, .spec 32 true (.pv (.bool false))) :: (36, .pv (.bool true)) :: (32, .pv (.bool true)) :: eM y i f) (aK nl T es) := by kernel_rfl
theorem e6c (y : Value) (es : List (List PV)) (i f : Int) (K : Env → Hp → Prop) : bL Try.prog (fun _ => none) 39 (bT (cY Try.f95)).toList ((bT (cY Try.f95)).toList.drop 9) ((32, .pv (.bool false)) :: eM y i f) (aK nl T es) K =
    K ((38, .pv (.bool false)) :: (37, .pv .unit) :: (32, .pv (.bool false)) :: (32, .pv (.bool false)) :: eM y i f) (aK nl T es) := by kernel_rfl
theorem znw : cY Try.f95 = .region 6 (bT (cY Try.f95)) false := by kernel_rfl
theorem znx : (bT (cY Try.f95)).size = 11 ∧ gY (bT (cY Try.f95)).toList = true ∧ (bT (cY Try.f95)).toList.length = 11 ∧ (bT (cY Try.f95))[8]? = some (o8 (bT (cY Try.f95))) ∧
    (o8 (bT (cY Try.f95))).dst = some 36 ∧ (o8 (bT (cY Try.f95))).guard = some (4, true) ∧ (o8 (bT (cY Try.f95))).op = .call { callee := .value (.tmp 33), args := #[.tmp 34, .tmp 35], argTypes := #[3, 3] } ∧
    ((bT (cY Try.f95))[4]?).bind (·.dst) = some 32 :=
  ⟨by kernel_rfl, by kernel_rfl, by kernel_rfl, by kernel_rfl, by kernel_rfl, by kernel_rfl, by kernel_rfl, by kernel_rfl⟩
theorem zny {F : Fence} {n : Nat} {P : Program} {ops : Array Oper} {Q : Exit → Act → World → Prop} {i : Nat} {rest : List Nat} {a : Act} {w : World} {o : Oper} (ho : ops[i]? = some o)
    (h : if Region.wanted o (yielded ops a.tmps) then o.wpIn F n P a w (wpOpsIn F n P ops Q rest) Q else (∀ f, o.about P w a.eval = some f → F.fn f) ∧ wpOpsIn F n P ops Q rest (a.put o.dst undef) w) : wpOpsIn F n P ops Q (i :: rest) a w := by
  simp only [wpOpsIn, ho]; exact h
theorem znz {w : World} {I : Nat → Prop} {G : Nat → Pl} {h : Hp} {tm : Array Value} {s : Nat} {b : Bool} (hr : LRel w I G h (.pv (.bool b)) (tm.getD s undef)) : tm[s]? = some (.bool b) := by
  have := hr.bool_eq
  rw [Array.getD_eq_getD_getElem?] at this
  cases hx : tm[s]? with
  | none => rw [hx] at this; simp [undef] at this
  | some v => rw [hx] at this; simpa using this
theorem LRel.raw_eq {w : World} {I : Nat → Prop} {G : Nat → Pl} {h : Hp} {v cv : Value} (hr : LRel w I G h (.pv (.raw v)) cv) : cv = v := by cases hr with | pv _ _ h1 => cases h1; rfl
theorem zn0 {N0 : Nat} (hY : zL Z key nl T l N0) (hZ : ∀ w I G h w' I' G' h', Z w I G h → HRel w I G h → HRel w' I' G' h' → TrN 5 w I G h w' I' G' h' → Z w' I' G' h') (L : List Int) (f i : Nat) (hf : f ≤ i) (hi : i ≤ L.length) (hr : R32 L) (hL : L.length < 1000000000000) (hN : L.length = N0) :
    CodeZ Z Try.prog 39 (cY Try.f95) (eM (.func (.yield l) #[] #[]) i f) (aK nl T (aA L)) fun x e h => ∃ L', x = .normal ∧ (if f + 1 < i then YQ key L f i L' else L' = L) ∧ e = (38, .pv (.bool false)) :: eM (.func (.yield l) #[] #[]) i f ∧ h = aK nl T (aA L') := by
  intro w I G a Qx hs hz hq
  obtain ⟨q1, q2, q3, q4, q5, q6, q7, q8⟩ := znx
  rw [znw]
  have ea := e6a (nl := nl) (T := T) (.func (.yield l) #[] #[]) (aA L) i f
  have eb := fun es => e6b (nl := nl) (T := T) (.func (.yield l) #[] #[]) es i f
  have ec := e6c (nl := nl) (T := T) (.func (.yield l) #[] #[]) (aA L) i f
  generalize bT (cY Try.f95) = O at *
  generalize o8 O = o at *
  have ww : IntKind.i64.wrap ((i : Int) - f) = (i : Int) - f := aD (by omega) (by omega)
  rw [ww] at ea
  refine wp_mono (Q := fun x a' w' => x = .normal ∧ ∃ L' I' G', (if f + 1 < i then YQ key L f i L' else L' = L) ∧ SRel w' I' G' ((38, .pv (.bool false)) :: eM (.func (.yield l) #[] #[]) i f) (aK nl T (aA L')) 39 a' ∧ a'.defers = a.defers ∧ Z w' I' G' (aK nl T (aA L'))) ((wpIn_wide (n := 0)).1 (wpIn_region (F := wd none) ?_)) ?_
  rotate_left
  · rintro x a' w' ⟨rfl, L', I', G', h1, h2, h3, h4⟩
    exact hq .normal _ _ w' I' G' a' ⟨L', rfl, h1, rfl, rfl⟩ h2 h3 h4
  rw [q1, show List.range 11 = List.range' 0 8 ++ (8 :: List.range' 9 2) from rfl]
  refine rM ?_
  rw [show (8 : Nat) = (O.toList.take 8).length by simp [q3]]
  have hsuf : ∀ j, j < (O.toList.drop 9).length → (O.toList.drop 9)[j]? = O[9 + j]? := fun j _ => by rw [List.getElem?_drop]; simp
  have hl2 : (O.toList.drop 9).length = 2 := by simp [q3]
  refine vL (ro := none) q2 (fun j hj => ?_) (by rw [ea]; exact ⟨rfl, rfl⟩ : bL Try.prog (fun _ => none) 39 O.toList (O.toList.take 8) _ _ (fun e' h' => e' = _ ∧ h' = aK nl T (aA L))) hs (fun a w h => nomatch h.1) ?_
  · rw [List.getElem?_take, if_pos (by simp only [List.length_take] at hj; omega)]; simp
  rintro _ _ w1 I1 G1 a1 ⟨rfl, rfl⟩ hs1 hd1 ht1
  rw [show (O.toList.take 8).length = 8 by simp [q3]]
  have hz1 := hZ _ _ _ _ _ _ _ _ hz hs.hh hs1.hh ht1.toN
  have h32 := znz (hs1.he 32 _ rfl)
  have hyl : yielded O a1.tmps 4 = some (decide ((i : Int) - f > 1)) := by
    unfold yielded
    rw [q8]; simp [h32]
  have hwd : Region.wanted o (yielded O a1.tmps) = decide ((i : Int) - f > 1) := by unfold Region.wanted; rw [q6]; simp [hyl]
  show wpOpsIn (wd none) 0 Try.prog O _ (8 :: List.range' 9 2) a1 w1
  refine zny q4 ?_
  rw [hwd]
  have hdst : gA 39 o = true := by unfold gA; rw [q5]; rfl
  by_cases hc : f + 1 < i
  · have hd' : decide ((i : Int) - f > 1) = true := by simp; omega
    rw [hd'] at hs1 h32 ⊢
    rw [if_pos rfl]
    refine ⟨fun _ _ => trivial, ?_⟩
    have h32' : a1.tmps.getD 32 undef = .bool true := (hs1.he 32 _ rfl).bool_eq
    have v33 := ((hs1.he 33 _ rfl).1 h32').raw_eq
    have v34 := ((hs1.he 34 _ rfl).1 h32').int_eq
    have v35 := ((hs1.he 35 _ rfl).1 h32').int_eq
    obtain ⟨fn, tmps, assign, body, hy, hR⟩ := hY w1 I1 G1 L f i hs1.hh hz1 hc hi hr hL hN
    have hrun : (o.semAt none a1.eval).run Try.prog w1 = .ok (.round l fn tmps assign body) w1 := by
      rw [Oper.semAt_none]
      unfold execOp
      rw [q7]
      have e33 : a1.eval (.tmp 33) = .func (.yield l) #[] #[] := v33
      have e34 : a1.eval (.tmp 34) = .int .i64 f := v34
      have e35 : a1.eval (.tmp 35) = .int .i64 i := v35
      have hres : resolve a1.eval { callee := .value (.tmp 33), args := #[.tmp 34, .tmp 35], argTypes := #[3, 3] } o.type = pure { target := .fn (.yield l) #[], args := #[.int .i64 f, .int .i64 i] } := by
        simp [resolve, e33, e34, e35, Deferred.ofValue]
      simp only [hres, pure_bind]
      exact hy
    rw [hrun]
    refine ⟨(fun x => by cases x), hR.mono ?_⟩
    rintro e w2 ⟨rfl, L', I2, G2, y1, y2, y3, y4, y5⟩
    have hs2 : SRel w2 I2 G2 ((36, .pv (.bool true)) :: (32, .pv (.bool true)) :: eM (.func (.yield l) #[] #[]) i f) (aK nl T (aA L')) 39 (a1.put o.dst (.bool true)) := by
      have s1 : SRel w1 I1 G1 ((32, .pv (.bool true)) :: eM (.func (.yield l) #[] #[]) i f) (aK nl T (aA L)) 39 a1 := hs1.le (LeE.le ⟨rfl, rfl, rfl, rfl, rfl, rfl, trivial⟩)
      obtain ⟨p1, p2⟩ := jL (v := .pv (.bool true)) hdst s1.hn y2 (s1.he.mono y3 y4) (.pv _ _ (.bool true))
      have : put o (.pv (.bool true)) ((32, .pv (.bool true)) :: eM (.func (.yield l) #[] #[]) i f) = (36, .pv (.bool true)) :: (32, .pv (.bool true)) :: eM (.func (.yield l) #[] #[]) i f := by unfold put; rw [q5]; rfl
      rwa [this] at p1
    have := vL (ro := none) (n := 0) (k := 9) q2 hsuf (by rw [eb]; exact ⟨rfl, rfl⟩ : bL Try.prog (fun _ => none) 39 O.toList (O.toList.drop 9) _ _ (fun e' h' => e' = _ ∧ h' = aK nl T (aA L'))) hs2 (Q := fun x a' w' => x = .normal ∧ ∃ L' I' G', (if f + 1 < i then YQ key L f i L' else L' = L) ∧ SRel w' I' G' ((38, .pv (.bool false)) :: eM (.func (.yield l) #[] #[]) i f) (aK nl T (aA L')) 39 a' ∧ a'.defers = a.defers ∧ Z w' I' G' (aK nl T (aA L'))) (fun a w h => nomatch h.1) (by
        rintro _ _ w3 I3 G3 a3 ⟨rfl, rfl⟩ hs3 hd3 ht3
        refine ⟨rfl, L', I3, G3, by rw [if_pos hc]; exact y1, hs3.le (LeE.le ⟨rfl, rfl, rfl, rfl, rfl, rfl, trivial⟩), hd3.trans ((by unfold Act.put; cases o.dst <;> rfl : (a1.put o.dst (.bool true)).defers = a1.defers).trans hd1), hZ _ _ _ _ _ _ _ _ y5 hs2.hh hs3.hh ht3.toN⟩)
    rw [hl2] at this
    exact this
  · have hd' : decide ((i : Int) - f > 1) = false := by simp; omega
    rw [hd'] at hs1 h32 ⊢
    rw [if_neg (by simp)]
    refine ⟨fun _ _ => trivial, ?_⟩
    have hlt : 36 < a1.tmps.size := by rw [hs1.hn]; omega
    have hs2 : SRel w1 I1 G1 ((32, .pv (.bool false)) :: eM (.func (.yield l) #[] #[]) i f) (aK nl T (aA L)) 39 (a1.put o.dst undef) := by
      have s1 : SRel w1 I1 G1 ((32, .pv (.bool false)) :: eM (.func (.yield l) #[] #[]) i f) (aK nl T (aA L)) 39 a1 := hs1.le (LeE.le ⟨rfl, rfl, rfl, rfl, rfl, rfl, trivial⟩)
      obtain ⟨p1, p2⟩ := jL (v := .bot) (cv := undef) hdst s1.hn s1.hh s1.he (.bot _)
      have : put o .bot ((32, .pv (.bool false)) :: eM (.func (.yield l) #[] #[]) i f) = (36, .bot) :: (32, .pv (.bool false)) :: eM (.func (.yield l) #[] #[]) i f := by unfold put; rw [q5]; rfl
      rw [this] at p1
      exact p1.le (LeE.le ⟨rfl, rfl, rfl, rfl, rfl, rfl, trivial⟩)
    have := vL (ro := none) (n := 0) (k := 9) q2 hsuf (by rw [ec]; exact ⟨rfl, rfl⟩ : bL Try.prog (fun _ => none) 39 O.toList (O.toList.drop 9) _ _ (fun e' h' => e' = _ ∧ h' = aK nl T (aA L))) hs2 (Q := fun x a' w' => x = .normal ∧ ∃ L' I' G', (if f + 1 < i then YQ key L f i L' else L' = L) ∧ SRel w' I' G' ((38, .pv (.bool false)) :: eM (.func (.yield l) #[] #[]) i f) (aK nl T (aA L')) 39 a' ∧ a'.defers = a.defers ∧ Z w' I' G' (aK nl T (aA L'))) (fun a w h => nomatch h.1) (by
        rintro _ _ w3 I3 G3 a3 ⟨rfl, rfl⟩ hs3 hd3 ht3
        exact ⟨rfl, L, I3, G3, by rw [if_neg hc], hs3.le (LeE.le ⟨rfl, rfl, rfl, rfl, rfl, rfl, trivial⟩), hd3.trans ((by unfold Act.put; cases o.dst <;> rfl : (a1.put o.dst undef).defers = a1.defers).trans hd1), hZ _ _ _ _ _ _ _ _ hz1 hs2.hh hs3.hh ht3.toN⟩)
    rw [hl2] at this
    exact this
end
end Go.Eng



namespace Go.Eng.Srt
open Go Go.Eng
section
variable (key : Int → Int)
def dR (x y : Int) : Bool := decide (key x ≠ 0) && decide (key x < key y)
def pG (x : Int) : List Int → List Int
  | [] => [x]
  | y :: r => if dR key x y = true then y :: pG x r else x :: y :: r
def ins (l : List Int) (x : Int) : List Int := (pG key x l.reverse).reverse
def bK (l : List Int) : List Int := l.foldl (ins key) []
inductive Eqv : List Int → List Int → Prop
  | refl (a : List Int) : Eqv a a
  | swap (u v w : List Int) (x y : Int) (hx : key x ≠ 0) (hy : key y ≠ 0) (hxy : key x ≠ key y) (h : Eqv (u ++ y :: x :: v) w) : Eqv (u ++ x :: y :: v) w
def bW : List Int → Prop
  | x :: y :: r => (key y ≠ 0 → key x ≤ key y) ∧ bW (y :: r)
  | _ => True
end
variable {key : Int → Int}
theorem mR {x y : Int} : dR key x y = true ↔ key x ≠ 0 ∧ key x < key y := by simp [dR]
theorem sP {x y : Int} : dR key x y = false ↔ key x = 0 ∨ key y ≤ key x := by
  simp only [dR, Bool.and_eq_false_imp, decide_eq_true_eq, decide_eq_false_iff_not]
  constructor
  · intro h; by_cases h0 : key x = 0
    · exact .inl h0
    · exact .inr (by have := h h0; omega)
  · rintro (h | h) h0
    · exact absurd h h0
    · omega
theorem zfp {x : Int} : ∀ {B A : List Int}, (∀ y ∈ B, dR key x y = true) → (A = [] ∨ ∃ z A', A = z :: A' ∧ dR key x z = false) → pG key x (B ++ A) = B ++ x :: A
  | [], A, _, h => by
    rcases h with rfl | ⟨z, A', rfl, h⟩
    · rfl
    · simp [pG, h]
  | y :: B, A, hB, h => by
    rw [List.cons_append, pG, if_pos (hB y List.mem_cons_self), zfp (fun z hz => hB z (List.mem_cons_of_mem _ hz)) h]; rfl
theorem lL {x : Int} {A B : List Int} (h1 : ∀ y ∈ B, dR key x y = true) (h2 : A = [] ∨ ∃ A' z, A = A' ++ [z] ∧ dR key x z = false) : ins key (A ++ B) x = A ++ x :: B := by
  unfold ins
  rw [List.reverse_append, zfp (fun y hy => h1 y (List.mem_reverse.1 hy)) (h2.elim (fun e => .inl (by rw [e]; rfl)) fun ⟨A', z, e, h⟩ => .inr ⟨z, A'.reverse, by rw [e]; simp, h⟩)]
  simp
theorem zM (l : List Int) (x : Int) : ∃ A B, l = A ++ B ∧ (∀ y ∈ B, dR key x y = true) ∧ (A = [] ∨ ∃ A' z, A = A' ++ [z] ∧ dR key x z = false) := by
  have : ∀ r : List Int, ∃ B A, r = B ++ A ∧ (∀ y ∈ B, dR key x y = true) ∧ (A = [] ∨ ∃ z A', A = z :: A' ∧ dR key x z = false) := by
    intro r
    induction r with
    | nil => exact ⟨[], [], rfl, (fun y hy => by cases hy), .inl rfl⟩
    | cons y r ih =>
      cases hp : dR key x y with
      | true =>
        obtain ⟨B, A, e, h1, h2⟩ := ih
        exact ⟨y :: B, A, by rw [e]; rfl, fun z hz => by rcases List.mem_cons.1 hz with rfl | hz; exact hp; exact h1 z hz, h2⟩
      | false => exact ⟨[], y :: r, rfl, (fun y hy => by cases hy), .inr ⟨y, r, rfl, hp⟩⟩
  obtain ⟨B, A, e, h1, h2⟩ := this l.reverse
  refine ⟨A.reverse, B.reverse, by rw [← List.reverse_append, ← e]; simp, fun y hy => h1 y (List.mem_reverse.1 hy), h2.elim (fun e => .inl (by rw [e]; rfl)) fun ⟨z, A', e, h⟩ => .inr ⟨A'.reverse, z, by rw [e]; simp, h⟩⟩
theorem zfq {l : List Int} {x y : Int} (hx : key x ≠ 0) (hxy : key x < key y) : ins key (ins key l y) x = ins key (ins key l x) y := by
  obtain ⟨B1, B2, rfl, b1, b2⟩ := zM (key := key) l y
  obtain ⟨C1, C2, rfl, c1, c2⟩ := zM (key := key) B1 x
  have px : ∀ z ∈ B2, dR key x z = true := fun z hz => mR.2 ⟨hx, by have := (mR.1 (b1 z hz)).2; omega⟩
  rw [lL b1 b2]
  have e1 : C1 ++ C2 ++ y :: B2 = C1 ++ (C2 ++ y :: B2) := by simp
  have e2 : C1 ++ C2 ++ B2 = C1 ++ (C2 ++ B2) := by simp
  rw [e1, lL (B := C2 ++ y :: B2) (fun z hz => ?_) c2, e2, lL (B := C2 ++ B2) (fun z hz => ?_) c2]
  · have e3 : C1 ++ x :: (C2 ++ B2) = (C1 ++ x :: C2) ++ B2 := by simp
    rw [e3, lL b1 (.inr ?_)]
    · simp
    · rcases C2.eq_nil_or_concat with rfl | ⟨D, z, rfl⟩
      · exact ⟨C1, x, rfl, sP.2 (.inr (by omega))⟩
      · refine ⟨C1 ++ x :: D, z, by simp, ?_⟩
        rcases b2 with e | ⟨A', z', e, h⟩
        · simp at e
        · have : z = z' := by
            have := congrArg List.getLast? e
            simp at this; exact this
          rw [this]; exact h
  · rcases List.mem_append.1 hz with hz | hz
    · exact c1 z hz
    · exact px z hz
  · rcases List.mem_append.1 hz with hz | hz
    · exact c1 z hz
    · rcases List.mem_cons.1 hz with rfl | hz
      · exact mR.2 ⟨hx, hxy⟩
      · exact px z hz
theorem zn1 {l : List Int} {x y : Int} (hx : key x ≠ 0) (hy : key y ≠ 0) (hxy : key x ≠ key y) : ins key (ins key l x) y = ins key (ins key l y) x := by
  rcases Int.lt_or_gt_of_ne hxy with h | h
  · exact (zfq hx h).symm
  · exact zfq hy h
theorem zN (l : List Int) (x : Int) : bK key (l ++ [x]) = ins key (bK key l) x := by simp [bK]
theorem Eqv.trans {a b c : List Int} (h : Eqv key a b) (k : Eqv key b c) : Eqv key a c := by
  induction h with
  | refl a => exact k
  | swap u v w x y hx hy hxy h ih => exact .swap u v c x y hx hy hxy (ih k)
theorem Eqv.app {a b : List Int} (h : Eqv key a b) (p q : List Int) : Eqv key (p ++ (a ++ q)) (p ++ (b ++ q)) := by
  induction h with
  | refl a => exact .refl _
  | swap u v w x y hx hy hxy h ih =>
    have := Eqv.swap (p ++ u) (v ++ q) _ x y hx hy hxy (by simpa using ih)
    simpa using this
theorem Eqv.symm {a b : List Int} (h : Eqv key a b) : Eqv key b a := by
  induction h with
  | refl a => exact .refl _
  | swap u v w x y hx hy hxy h ih => exact ih.trans (.swap u v _ y x hy hx (Ne.symm hxy) (.refl _))
theorem zn2 {a b : List Int} (h : Eqv key a b) : bK key a = bK key b := by
  induction h with
  | refl a => rfl
  | swap u v w x y hx hy hxy h ih =>
    rw [← ih]
    simp only [bK, List.foldl_append, List.foldl_cons]
    rw [zn1 hx hy hxy]
theorem Eqv.len {a b : List Int} (h : Eqv key a b) : a.length = b.length := by
  induction h with
  | refl a => rfl
  | swap u v w x y hx hy hxy h ih => rw [← ih]; simp
theorem Eqv.mem {a b : List Int} (h : Eqv key a b) {z : Int} : z ∈ a ↔ z ∈ b := by
  induction h with
  | refl a => exact Iff.rfl
  | swap u v w x y hx hy hxy h ih => rw [← ih]; simp only [List.mem_append, List.mem_cons]; exact or_congr_right ⟨fun h => h.elim (fun e => .inr (.inl e)) (fun h => h.elim .inl fun h => .inr (.inr h)), fun h => h.elim (fun e => .inr (.inl e)) (fun h => h.elim .inl fun h => .inr (.inr h))⟩
theorem Eqv.ahead {x : Int} (hx : key x ≠ 0) : ∀ {B : List Int} (q : List Int), (∀ y ∈ B, key y ≠ 0 ∧ key y ≠ key x) → Eqv key (B ++ x :: q) (x :: (B ++ q))
  | [], q, _ => .refl _
  | y :: B, q, h => by
    have h1 := Eqv.ahead hx (B := B) q fun z hz => h z (List.mem_cons_of_mem _ hz)
    have h2 := h1.app [y] []
    simp only [List.append_nil, List.cons_append, List.nil_append] at h2
    obtain ⟨hy, hyx⟩ := h y List.mem_cons_self
    exact h2.trans (.swap [] (B ++ q) _ y x hy hx hyx (.refl _))
theorem zn3 (hk : ∀ x, 0 ≤ key x) (l : List Int) (x : Int) : Eqv key (l ++ [x]) (ins key l x) := by
  obtain ⟨A, B, rfl, h1, h2⟩ := zM (key := key) l x
  rw [lL h1 h2]
  by_cases hB : B = []
  · subst hB; simp; exact .refl _
  · obtain ⟨y, hy⟩ := List.exists_mem_of_ne_nil B hB
    have hx := (mR.1 (h1 y hy)).1
    have := (Eqv.ahead hx (B := B) [] fun z hz => by have := (mR.1 (h1 z hz)).2; have := hk x; omega).app A []
    simpa using this
theorem kA {p : List Int → Prop} (h0 : p []) (h1 : ∀ l x, p l → p (l ++ [x])) (l : List Int) : p l := by
  have : ∀ r : List Int, p r.reverse := by
    intro r
    induction r with
    | nil => exact h0
    | cons x r ih => rw [List.reverse_cons]; exact h1 _ _ ih
  have := this l.reverse
  rwa [List.reverse_reverse] at this
theorem sQ (hk : ∀ x, 0 ≤ key x) (l : List Int) : Eqv key l (bK key l) := by
  induction l using kA with
  | h0 => exact .refl _
  | h1 l x ih =>
    rw [zN]
    have := ih.app [] [x]
    exact Eqv.trans (by simpa using this) (zn3 hk _ x)
theorem lN : ∀ {A B : List Int}, bW key (A ++ B) ↔ bW key A ∧ bW key B ∧ (∀ z x, A.getLast? = some z → B.head? = some x → key x ≠ 0 → key z ≤ key x)
  | [], B => by simp [bW]
  | [a], [] => by simp [bW]
  | [a], b :: B => by simp [bW, and_comm]
  | a :: c :: A, B => by
    have := lN (A := c :: A) (B := B)
    simp only [List.cons_append, bW] at this ⊢
    rw [this, List.getLast?_cons_cons, and_assoc]
theorem zn4 {l : List Int} (h : bW key l) : bK key l = l := by
  revert h
  induction l using kA with
  | h0 => exact fun _ => rfl
  | h1 l x ih =>
    intro h
    obtain ⟨q1, q2, q3⟩ := lN.1 h
    rw [zN, ih q1]
    have := lL (key := key) (x := x) (A := l) (B := []) (fun y hy => by cases hy) (by
      rcases l.eq_nil_or_concat with rfl | ⟨D, z, rfl⟩
      · exact .inl rfl
      · refine .inr ⟨D, z, by simp, sP.2 ?_⟩
        by_cases hx : key x = 0
        · exact .inl hx
        · exact .inr (q3 z x (by simp) rfl hx))
    simpa using this
theorem zfr : ∀ {S' S : List Int}, Stab key S S' → (∀ x ∈ S, key x ≠ 0) → Eqv key S S'
  | [], S, h, _ => by have := h.len; cases S with | nil => exact .refl _ | cons => simp at this
  | y :: r, S, h, h0 => by
    have hf := h.2 (key y)
    rw [List.filter_cons, if_pos (by simp)] at hf
    obtain ⟨A, B, rfl, hA, hB⟩ := List.filter_eq_cons_iff.1 hf
    have hy : key y ≠ 0 := h0 y (by simp)
    have hA' : ∀ z ∈ A, key z ≠ key y := fun z hz => by have := hA z hz; simpa using this
    have e1 := Eqv.ahead hy (B := A) B fun z hz => ⟨h0 z (by simp [hz]), hA' z hz⟩
    have hs : Stab key (A ++ B) r := by
      refine ⟨(List.perm_cons y).1 ((List.perm_middle.symm).trans h.1), fun c => ?_⟩
      have := h.2 c
      rw [List.filter_append, List.filter_cons, List.filter_cons] at this
      rw [List.filter_append]
      by_cases hc : key y = c
      · have hn : A.filter (fun x => decide (key x = c)) = [] := List.filter_eq_nil_iff.2 fun z hz => by simp only [decide_eq_true_eq]; intro e; exact hA' z hz (e.trans hc.symm)
        rw [hn] at this ⊢
        simp only [hc, decide_true, if_true, List.nil_append, List.cons.injEq, true_and] at this
        exact this
      · simp only [hc, decide_false, Bool.false_eq_true, if_false] at this
        exact this
    have e2 := (zfr hs fun z hz => h0 z (by rcases List.mem_append.1 hz with hz | hz <;> simp [hz])).app [y] []
    simp only [List.append_nil, List.cons_append, List.nil_append] at e2
    exact e1.trans e2
theorem zfs : ∀ {S : List Int}, Srtd key S → bW key S
  | [], _ => trivial
  | [a], _ => trivial
  | a :: b :: S, h => ⟨fun _ => (List.pairwise_cons.1 h).1 b List.mem_cons_self, zfs (List.pairwise_cons.1 h).2⟩
theorem sR (L : List Int) {i j : Nat} (hij : i ≤ j) (hj : j ≤ L.length) : L = L.take i ++ ((L.take j).drop i ++ L.drop j) ∧ (L.take i).length = i ∧ ((L.take j).drop i).length = j - i := by
  refine ⟨?_, by rw [List.length_take]; omega, by rw [List.length_drop, List.length_take]; omega⟩
  have h1 : L = L.take j ++ L.drop j := (List.take_append_drop j L).symm
  have h2 : L.take j = (L.take j).take i ++ (L.take j).drop i := (List.take_append_drop i _).symm
  rw [List.take_take, Nat.min_eq_left hij] at h2
  rw [← List.append_assoc, ← h2]; exact h1
theorem zn5 (hk : ∀ x, 0 ≤ key x) {L : List Int} {i j : Nat} (hij : i ≤ j) (hj : j ≤ L.length) (hb : i = 0 ∨ key (L.getD (i - 1) 0) = 0) (hnz : ∀ k, i ≤ k → k < j → key (L.getD k 0) ≠ 0) (hend : j = L.length ∨ key (L.getD j 0) = 0)
    (hc : bW key (L.take i)) {S' : List Int} (hs : Srtd key S') (hst : Stab key ((L.take j).drop i) S') :
    Eqv key L (L.take i ++ (S' ++ L.drop j)) ∧ bW key ((L.take i ++ (S' ++ L.drop j)).take (j + 1)) ∧ (j < L.length → key ((L.take i ++ (S' ++ L.drop j)).getD j 0) = 0) := by
  obtain ⟨c1, c2, c3⟩ := sR L hij hj
  have hl : S'.length = j - i := by rw [← hst.len]; exact c3
  refine ⟨?_, ?_, fun hlt => ?_⟩
  · have hm : ∀ x ∈ (L.take j).drop i, key x ≠ 0 := fun x hx => by
      obtain ⟨k, hk1, hk2⟩ := List.getElem_of_mem hx
      have := hnz (i + k) (by omega) (by omega)
      rw [List.getElem_drop, List.getElem_take] at hk2
      have hl2 : i + k < L.length := by omega
      simp only [List.getD, List.getElem?_eq_getElem hl2, Option.getD_some, hk2] at this
      exact this
    have := (zfr hst hm).app (L.take i) (L.drop j)
    rwa [← c1] at this
  · rw [List.take_append, c2, List.take_of_length_le (by omega), List.take_append, hl, List.take_of_length_le (by omega : S'.length ≤ j + 1 - i), show j + 1 - i - (j - i) = 1 by omega]
    have hR : ∀ x, ((L.drop j).take 1).head? = some x → key x = 0 := fun x hx => by
      rcases hend with e | e
      · rw [List.drop_eq_nil_of_le (by omega)] at hx; cases hx
      · rcases Nat.lt_or_ge j L.length with h' | h'
        · rw [List.drop_eq_getElem_cons h'] at hx
          simp only [List.take_succ_cons, List.head?_cons, Option.some.injEq] at hx
          rw [← hx]
          simpa [List.getD, List.getElem?_eq_getElem h'] using e
        · rw [List.drop_eq_nil_of_le h'] at hx; cases hx
    refine lN.2 ⟨hc, lN.2 ⟨zfs hs, ?_, fun z x _ hx h0 => absurd (hR x hx) h0⟩, fun z x hz hx h0 => ?_⟩
    · cases L.drop j with
      | nil => trivial
      | cons a r => trivial
    · have : key z = 0 := by
        rcases hb with rfl | hb
        · simp at hz
        · rw [List.getLast?_eq_getElem?, c2] at hz
          by_cases h0 : i = 0
          · subst h0; simp at hz
          · rw [List.getElem?_take, if_pos (by omega)] at hz
            simpa [List.getD, hz] using hb
      rw [this]; exact hk x
  · rcases hend with e | e
    · omega
    · rw [← List.append_assoc]
      simp only [List.getD] at e ⊢
      rw [List.getElem?_append_right (by simp only [List.length_append]; omega), List.length_append, c2, hl, List.getElem?_drop, show j + (j - (i + (j - i))) = j by omega]
      exact e
theorem zn6 {S : List Int} (h : S.length ≤ 1) : Srtd key S := by
  match S, h with
  | [], _ => exact List.Pairwise.nil
  | [a], _ => exact List.pairwise_singleton _ _
end Go.Eng.Srt



namespace Go.Eng
open Go Go.Proofs Go.Eng.Rows Go.Eng.Srt
section
variable {Z : World → (Nat → Prop) → (Nat → Pl) → Hp → Prop} {key : Int → Int} {nl : Bool} {T : PV} {l : Nat} {y : Value} {es : List (List PV)}
theorem eI0 (Q : Qt) : cX Try.prog (fun _ => none) 5 39 lM (fun _ => none) (c6 (cM Try.f95)) (eJ [.pv (.raw y), .box 4 0, .box 3 0] 0) (aK nl T es) Q = Q .normal (eN y 0) (aK nl T es) := by kernel_rfl
theorem eI1 (i : Int) (Q : Qt) : cX Try.prog (fun _ => none) 5 39 lM (fun _ => none) (c6 (cL Try.f95)) (eN y i) (aK nl T es) Q =
    if decide (i < (es.length : Int)) = true then Q .normal [(0, .pv (.raw y)), (1, .box 4 0), (2, .box 3 0), (4, .pv (.int .i64 i)), (9, .pv (.bool (decide (i < (es.length : Int)))))] (aK nl T es)
    else Q (.exit 0) [(0, .pv (.raw y)), (1, .box 4 0), (2, .box 3 0), (4, .pv (.int .i64 i)), (9, .pv (.bool (decide (i < (es.length : Int)))))] (aK nl T es) := by kernel_rfl
theorem eI3 (i : Int) (Q : Qt) : cX Try.prog (fun _ => none) 5 39 lM (fun _ => none) (c6 (cB Try.f95)) (eN y i) (aK nl T es) Q = Q .normal (eM y i i) (aK nl T es) := by kernel_rfl
theorem eI2 (i : Int) (Q : Qt) : cX Try.prog (fun _ => none) 5 39 lM (fun _ => none) (cD (cD (cL Try.f95))) (eN y i) (aK nl T es) Q = Q .normal (eN y (IntKind.i64.wrap (i + 1))) (aK nl T es) := by kernel_rfl
def zO (y : Value) (i f : Int) (b : Bool) : Env := [(0, .pv (.raw y)), (1, .box 4 0), (2, .box 3 0), (4, .pv (.int .i64 i)), (5, .pv (.int .i64 f)), (25, .pv (.bool b))]
theorem eI4 (i f : Int) (J : Int → Prop) (μ : Int → Nat) (Q : Qt) : cX Try.prog (fun _ => none) 5 39 lM (fun zz_ => match zz_ with | 4 => some ⟨Int × Unit, fun s => (eM y s.1 f, aK nl T es), fun _ s => J s.1, fun s => μ s.1, fun e h => (gI e 4, ()), [], [0, 1, 2, 4, 5], [], fun p => ∀ (x4 : Int), p (x4, ()), fun p h s => h s.1⟩ | _ => none) (c6 (cD (cB Try.f95))) (eM y i f) (aK nl T es) Q =
    ((SameSt (eM y i f, aK nl T es) (eM y i f, aK nl T es) ∧ J i) ∧ ∀ (x4 : Int), J x4 → if decide (x4 < (es.length : Int)) = true then aO es x4 1 ∧ ∃ (n : Int), (List.drop 0 (es.getD x4.toNat [])).head? = some (.int .i32 n) ∧ PCall Try.prog 45 [T, .int .i32 n] fun (v : PV) => ∃ (n1 : Int), v = .int .i64 n1 ∧
        if (n1 != (0 : Int)) = true then SameSt (eM y (IntKind.i64.wrap (x4 + 1)) f, aK nl T es) (eM y (IntKind.i64.wrap (x4 + 1)) f, aK nl T es) ∧ J (IntKind.i64.wrap (x4 + 1)) ∧ μ (IntKind.i64.wrap (x4 + 1)) < μ x4
        else Q .normal (zO y x4 f (n1 != (0 : Int))) (aK nl T es)
      else Q .normal (zO y x4 f false) (aK nl T es)) := by kernel_rfl
theorem zP : cM Try.f95 = .seq (c6 (cM Try.f95)) (.block 0 (.loop (cL Try.f95))) ∧
    cL Try.f95 = .seq (c6 (cL Try.f95)) (.seq (.block 1 (cB Try.f95)) (cD (cD (cL Try.f95)))) ∧
    cB Try.f95 = .seq (c6 (cB Try.f95)) (.seq (c6 (cD (cB Try.f95))) (.seq (cY Try.f95) (.cond (.tmp 38) .ret .skip))) := ⟨by kernel_rfl, by kernel_rfl, by kernel_rfl⟩
theorem CodeZ.le {P : Program} {N : Nat} {c : Code} {e e' : Env} {h : Hp} {Q : Qt} (hl : LeE e' e) (hK : CodeZ Z P N c e' h Q) : CodeZ Z P N c e h Q :=
  fun w I G a Qx hs hz hq => hK w I G a Qx (hs.le hl.le) hz hq
theorem zn7 (hk : ∀ x, 0 ≤ key x) (hT : ∀ r : Int, (-2147483648 ≤ r ∧ r ≤ 2147483647) → PCall Try.prog 45 [T, .int .i32 r] fun v => v = .int .i64 (key r)) 
    (hZ : ∀ w I G h w' I' G' h', Z w I G h → HRel w I G h → HRel w' I' G' h' → TrN 5 w I G h w' I' G' h' → Z w' I' G' h') (L0 : List Int) (hY : zL Z key nl T l L0.length) (hr : R32 L0) (hL : L0.length < 1000000000000) :
    CodeZ Z Try.prog 39 (cM Try.f95) (eJ [.pv (.raw (.func (.yield l) #[] #[])), .box 4 0, .box 3 0] 0) (aK nl T (aA L0)) fun x e h => x = .normal ∧ h = aK nl T (aA (bK key L0)) := by
  obtain ⟨y, hy⟩ : ∃ y : Value, y = .func (.yield l) #[] #[] := ⟨_, rfl⟩
  rw [zP.1, ← hy]
  refine CodeZ.seq (CodeZ.of (n0 := 5) hZ (fO (Eq.mpr (eI0 _) ?_)))
  show CodeZ Z Try.prog 39 (.block 0 (.loop (cL Try.f95))) (eN y 0) (aK nl T (aA L0)) _
  refine CodeZ.block (CodeZ.loop (σ := Nat × List Int) (fun s => (eN y s.1, aK nl T (aA s.2))) (fun s => s.1 ≤ L0.length + 1 ∧ Eqv key L0 s.2 ∧ bW key (s.2.take s.1) ∧ (s.1 = 0 ∨ L0.length < s.1 ∨ key (s.2.getD (s.1 - 1) 0) = 0)) (fun s => L0.length + 1 - s.1) (0, L0) (LeE.le ⟨rfl, rfl, rfl, rfl, trivial⟩) rfl ⟨by omega, .refl _, by simp [bW], .inl rfl⟩ ?_)
  rintro ⟨i, L⟩ ⟨hi, hq, hc, hb⟩
  have hlen := hq.len
  have hr' : R32 L := fun x hx => hr x (hq.mem.2 hx)
  dsimp only at hi hq hc hb hlen ⊢
  rw [zP.2.1]
  refine CodeZ.seq (CodeZ.of (n0 := 5) hZ (fO (Eq.mpr (eI1 _ _) ?_)))
  by_cases hlt : i < L.length
  · rw [if_pos (by simpa using hlt)]
    show CodeZ Z Try.prog 39 (.seq (.block 1 (cB Try.f95)) (cD (cD (cL Try.f95)))) _ _ _
    refine CodeZ.le (e' := eN y i) ⟨rfl, rfl, rfl, rfl, trivial⟩ (CodeZ.seq (CodeZ.block ?_))
    rw [zP.2.2]
    refine CodeZ.seq (CodeZ.of (n0 := 5) hZ (fO (Eq.mpr (eI3 _ _) ?_)))
    show CodeZ Z Try.prog 39 (.seq (c6 (cD (cB Try.f95))) (.seq (cY Try.f95) (.cond (.tmp 38) .ret .skip))) (eM y i i) _ _
    refine CodeZ.seq (CodeZ.of (n0 := 5) hZ (fO (Eq.mpr (eI4 _ _ (fun x => ∃ j : Nat, x = j ∧ i ≤ j ∧ j ≤ L.length ∧ ∀ k, i ≤ k → k < j → key (L.getD k 0) ≠ 0) (fun x => ((L.length : Int) - x).toNat) _) ?_)))
    refine ⟨⟨rfl, i, rfl, Nat.le_refl _, by omega, fun k h1 h2 => by omega⟩, ?_⟩
    rintro _ ⟨j, rfl, hij, hj, hnz⟩
    -- what follows the row of marks
    have rest : ∀ b, (j = L.length ∨ key (L.getD j 0) = 0) → CodeZ Z Try.prog 39 (.seq (cY Try.f95) (.cond (.tmp 38) .ret .skip)) (zO y j i b) (aK nl T (aA L)) fun x e h => match x with
        | .normal => CodeZ Z Try.prog 39 (cD (cD (cL Try.f95))) e h fun x e h => match x with
          | .normal => ∃ s' : Nat × List Int, (∀ i v, get (eN y s'.1) i = some v → get e i = some v) ∧ h = aK nl T (aA s'.2) ∧ (s'.1 ≤ L0.length + 1 ∧ Eqv key L0 s'.2 ∧ bW key (s'.2.take s'.1) ∧ (s'.1 = 0 ∨ L0.length < s'.1 ∨ key (s'.2.getD (s'.1 - 1) 0) = 0)) ∧ L0.length + 1 - s'.1 < L0.length + 1 - i
          | _ => False
        | _ => False := fun b hend => by
      refine CodeZ.le (e' := eM y j i) ⟨rfl, rfl, rfl, rfl, rfl, trivial⟩ (CodeZ.seq ?_)
      rw [hy]
      refine (zn0 hY hZ L i j hij hj hr' (by omega) hlen.symm).mono ?_
      rintro _ _ _ ⟨L', rfl, hL', rfl, rfl⟩
      refine CodeZ.cond (t := false) rfl ?_
      simp only [Bool.false_eq_true, if_false]
      refine CodeZ.skip ?_
      rw [← hy]
      refine CodeZ.le (e' := eN y j) ⟨rfl, rfl, rfl, rfl, trivial⟩ (CodeZ.of (n0 := 5) hZ (fO (Eq.mpr (eI2 _ _) ?_)))
      have wj : IntKind.i64.wrap ((j : Int) + 1) = ((j + 1 : Nat) : Int) := by rw [aD (by omega) (by omega)]; omega
      rw [wj]
      have hb' : i = 0 ∨ key (L.getD (i - 1) 0) = 0 := by
        rcases hb with h | h | h
        · exact .inl h
        · omega
        · exact .inr h
      obtain ⟨S', hs, hst, rfl⟩ : ∃ S', Srtd key S' ∧ Stab key ((L.take j).drop i) S' ∧ L' = L.take i ++ (S' ++ L.drop j) := by
        by_cases h1 : i + 1 < j
        · rw [if_pos h1] at hL'
          obtain ⟨S', e, h2, h3⟩ := hL'
          exact ⟨S', h2, h3, e⟩
        · rw [if_neg h1] at hL'
          obtain ⟨c1, c2, c3⟩ := sR L hij hj
          exact ⟨_, zn6 (by omega), Stab.refl _, hL'.trans c1⟩
      obtain ⟨g1, g2, g3⟩ := zn5 hk hij hj hb' hnz hend hc hs hst
      refine ⟨(j + 1, _), LeE.le ⟨rfl, rfl, rfl, rfl, trivial⟩, rfl, ⟨by dsimp only; omega, hq.trans g1, g2, ?_⟩, by dsimp only; omega⟩
      rcases Nat.lt_or_ge j L.length with h | h
      · exact .inr (.inr (g3 h))
      · exact .inr (.inl (by dsimp only; omega))
    by_cases hjl : j < L.length
    · rw [if_pos (by simpa using hjl)]
      refine ⟨bM (enc := fun n => [PV.int .i32 n]) (l := L) (fun _ => rfl) (by omega) (by omega), L.getD j 0, by rw [Int.toNat_natCast, zc9 hjl]; rfl, (hT _ (hr' _ (List.mem_of_getElem? (pE hjl)))).mono ?_⟩
      rintro _ rfl
      refine ⟨_, rfl, ?_⟩
      by_cases hz : key (L.getD j 0) = 0
      · rw [if_neg (by simpa using hz)]
        exact (rest _ (.inr hz)).mono fun x e h hx => by cases x <;> first | exact hx.elim | exact CodeZ.mono hx fun x e h hx => (by cases x <;> first | exact hx | exact hx.elim)
      · rw [if_pos (by simpa using hz)]
        have wj : IntKind.i64.wrap ((j : Int) + 1) = ((j + 1 : Nat) : Int) := by rw [aD (by omega) (by omega)]; omega
        rw [wj]
        refine ⟨rfl, ⟨j + 1, rfl, by omega, hjl, fun k h1 h2 => ?_⟩, by omega⟩
        rcases Nat.lt_or_ge k j with h | h
        · exact hnz k h1 h
        · have : k = j := by omega
          subst this; exact hz
    · rw [if_neg (by simpa using hjl)]
      exact (rest _ (.inl (by omega))).mono fun x e h hx => by cases x <;> first | exact hx.elim | exact CodeZ.mono hx fun x e h hx => (by cases x <;> first | exact hx | exact hx.elim)
  · rw [if_neg (by simpa using hlt)]
    refine ⟨rfl, ?_⟩
    rw [List.take_of_length_le (by omega)] at hc
    rw [zn2 hq, zn4 hc]
end
end Go.Eng



namespace Go.Eng
open Go Go.Proofs Go.Eng.Rows Go.Eng.Srt
section
variable {w w' : World} {I I' : Nat → Prop} {G G' : Nat → Pl} {h h' : Hp}
theorem HRel.off (hh : HRel w I G h) {l : Nat} (o : Obj) (hI : ¬ I l) (ho : ¬ aU h G l) : HRel (w.putObj l o) I G h := by
  have hw : ∀ b, b ≠ l → (w.putObj l o).heap[b]? = w.heap[b]? := fun b hb => World.putObj_heap_other hb
  have hk : Keeps w I (w.putObj l o) I := ⟨fun b hb _ => hw b fun e => hI (e ▸ hb), fun b hb _ => hb⟩
  have blk : ∀ (i : Nat) x, h[i]? = some x → x.alive (G i) → (G i).blk ≠ l := fun i x hx ha e => ho ⟨i, x, hx, ha, e⟩
  refine ⟨fun i x hx => ?_, hh.sep, hh.nI, fun b hb => by rw [World.putObj_size]; exact hh.cl b hb⟩
  have := hh.obs i x hx
  cases x with
  | dead => trivial
  | box cs => obtain ⟨vs, ty, e1, e2, e3⟩ := this; exact ⟨vs, ty, by rw [hw _ (blk i _ hx trivial)]; exact e1, e2, fun k v hv => ⟨(e3 k v hv).1.mono hk (.refl _ _), (e3 k v hv).2⟩⟩
  | arr cs => obtain ⟨vs, ty, e1, e2, e3⟩ := this; exact ⟨vs, ty, by rw [hw _ (blk i _ hx trivial)]; exact e1, e2, fun k v hv => ⟨(e3 k v hv).1.mono hk.1 hk.2, (e3 k v hv).2⟩⟩
  | sl ty m n es =>
    cases n with
    | true => exact this
    | false =>
      obtain ⟨e1, e2, e3, e3', e4, e5⟩ := this
      refine ⟨e1, e2, e3, e3', e4, fun hc => ?_⟩
      obtain ⟨vs, f1, f2, f3⟩ := e5 hc
      exact ⟨vs, by rw [hw _ (blk i _ hx ⟨rfl, hc⟩)]; exact f1, f2, fun i' e he k v hv => ⟨(f3 i' e he k v hv).1.mono hk.1 hk.2, (f3 i' e he k v hv).2⟩⟩
  | mp kvs => obtain ⟨es, ck, e1, e2, e3⟩ := this; exact ⟨es, ck, by rw [hw _ (blk i _ hx trivial)]; exact e1, e2, fun k kv hv => ⟨(e3 k kv hv).1.mono hk.1 hk.2, (e3 k kv hv).2.mono hk.1 hk.2⟩⟩
  | iter ty rem cur => exact IterRel.mono this (hw _ (blk i _ hx trivial)) hk
theorem i6 (hh : HRel w I G h) {b : Nat} {o : Obj} (ho : w.heap[b]? = some o) (hn : (match o with | .cells .. => true | .map .. => true | .mapIter .. => true | _ => false) = false) : ¬ aU h G b := by
  rintro ⟨i, ob, hi, ha, rfl⟩
  have := hh.obs i ob hi
  cases ob with
  | dead => exact ha
  | box cs => obtain ⟨vs, ty, e1, _⟩ := this; rw [ho] at e1; cases e1; cases hn
  | arr cs => obtain ⟨vs, ty, e1, _⟩ := this; rw [ho] at e1; cases e1; cases hn
  | sl ty m n es =>
    cases n with
    | true => exact absurd ha.1 (by simp)
    | false => obtain ⟨vs, e1, _⟩ := this.2.2.2.2.2 ha.2; rw [ho] at e1; cases e1; cases hn
  | mp kvs => obtain ⟨es, ck, e1, _⟩ := this; rw [ho] at e1; cases e1; cases hn
  | iter ty rem cur => obtain ⟨_, _, _, _, _, _, e1, _⟩ := this; rw [ho] at e1; cases e1; cases hn
theorem Tr.off {own own' : Nat → Prop} (t : Tr w I own w' I' own') {l : Nat} (hl : w.heap.size ≤ l) (o : Obj) : Tr w I own (w'.putObj l o) I' own' :=
  ⟨t.os, t.tape, t.output, by rw [World.putObj_size]; exact t.size, fun b hb hn => (World.putObj_heap_other (by omega)).trans (t.keep b hb hn), t.i1, t.i2, t.own2,
    fun a ha => (World.frozen?_of_block (World.putObj_heap_other (by omega))).trans (t.frz a ha), t.drawn⟩
theorem TrN.off {n0 : Nat} (t : TrN n0 w I G h w' I' G' h') {l : Nat} (hl : w.heap.size ≤ l) (o : Obj) : TrN n0 w I G h (w'.putObj l o) I' G' h' := ⟨t.t.off hl o, t.len, t.stay⟩
theorem pH (hh : HRel w I G h) (t : Tr w I (aU h G) w' I' (aU h' G')) : Keeps w I w' I' :=
  ⟨fun b hb hlt => t.keep b hlt fun ⟨o, ob, h1, h2, e⟩ => hh.nI o ob h1 h2 (e ▸ hb), fun b hb _ => t.i1 b hb⟩
theorem Keeps.trans {w1 w2 : World} {I1 I2 : Nat → Prop} (h : Keeps w I w1 I1) (hs : w.heap.size ≤ w1.heap.size) (k : Keeps w1 I1 w2 I2) : Keeps w I w2 I2 :=
  ⟨fun b hb hlt => (k.1 b (h.2 b hb hlt) (Nat.lt_of_lt_of_le hlt hs)).trans (h.1 b hb hlt), fun b hb hlt => k.2 b (h.2 b hb hlt) (Nat.lt_of_lt_of_le hlt hs)⟩
theorem Keeps.off {l : Nat} (hI : ¬ I l) (o : Obj) : Keeps w I (w.putObj l o) I := ⟨fun b hb _ => World.putObj_heap_other fun e => hI (e ▸ hb), fun b hb _ => hb⟩
structure ZR (W0 : World) (I0 : Nat → Prop) (G0 : Nat → Pl) (h0 : Hp) (l D : Nat) (rec : Loop) (W : World) (I : Nat → Prop) (G : Nat → Pl) (h : Hp) : Prop where
  t : TrN 5 W0 I0 G0 h0 W I G h
  hl : W.heap[l]? = some (.loop rec)
  hD : W.heap[D]? = some (.deferred (some []))
  nl : ¬ I l
  nD : ¬ I D
theorem ZR.step {W0 : World} {I0 : Nat → Prop} {G0 : Nat → Pl} {h0 : Hp} {l D : Nat} {rec : Loop} (z : ZR W0 I0 G0 h0 l D rec w I G h) (hh : HRel w I G h) (t : TrN 5 w I G h w' I' G' h') : ZR W0 I0 G0 h0 l D rec w' I' G' h' := by
  have l1 := (Array.getElem?_eq_some_iff.1 z.hl).1
  have l2 := (Array.getElem?_eq_some_iff.1 z.hD).1
  have n1 := i6 hh z.hl rfl
  have n2 := i6 hh z.hD rfl
  exact ⟨z.t.trans t, (t.t.keep l l1 n1).trans z.hl, (t.t.keep D l2 n2).trans z.hD, fun x => (t.t.i2 l x).elim z.nl (fun x => x.elim n1 fun x => by omega), fun x => (t.t.i2 D x).elim z.nD (fun x => x.elim n2 fun x => by omega)⟩
end
section
variable {key : Int → Int} {nl : Bool} {T : PV}
theorem zQ {G G' : Nat → Pl} {es es' : List (List PV)} (hl : es.length = es'.length) (hG : ∀ o, o < 5 → G' o = G o) : Like G G' (aK nl T es) (aK nl T es') := by
  intro o ob ho
  have hlt : o < 5 := (List.getElem?_eq_some_iff.1 ho).1
  refine ⟨?_, fun _ => hG o hlt⟩
  match o, ho with
  | 0, ho => cases ho; exact ⟨_, rfl, trivial⟩
  | 1, ho => cases ho; exact ⟨_, rfl, rfl, rfl, hl⟩
  | 2, ho => cases ho; exact ⟨_, rfl, trivial⟩
  | 3, ho => cases ho; exact ⟨_, rfl, trivial⟩
  | 4, ho => cases ho; exact ⟨_, rfl, trivial⟩
theorem sS {w w' : World} {I I' : Nat → Prop} {G G' : Nat → Pl} {es es' : List (List PV)} (t : TrN 5 w I G (aK nl T es) w' I' G' (aK nl T es')) : ∀ o, o < 5 → G' o = G o := by
  intro o ho
  have hs := t.stay (Nat.le_refl _)
  match o, ho with
  | 0, _ => exact (hs 0 _ (by omega) rfl rfl).1
  | 1, _ => exact (hs 1 _ (by omega) rfl rfl).1
  | 2, _ => exact (hs 2 _ (by omega) rfl rfl).1
  | 3, _ => exact (hs 3 _ (by omega) rfl rfl).1
  | 4, _ => exact (hs 4 _ (by omega) rfl rfl).1
theorem eA3 (es : List (List PV)) (i f : Int) (K : Env → Hp → Prop) : bL Try.prog (fun _ => none) 22 (bT (c6 (eW (cE Try.f44)))).toList (bT (c6 (eW (cE Try.f44)))).toList (eO f i) (aK nl T es) K = K ((6, .pv (.int .i64 f)) :: eO f i) (aK nl T es) := by kernel_rfl
theorem eA4 (es : List (List PV)) (i f : Int) (K : Env → Hp → Prop) : bL Try.prog (fun _ => none) 22 (bT (cD (eW (cE Try.f44)))).toList (bT (cD (eW (cE Try.f44)))).toList ((6, .pv (.int .i64 f)) :: eO f i) (aK nl T es) K = K ((7, .pv (.int .i64 i)) :: (6, .pv (.int .i64 f)) :: eO f i) (aK nl T es) := by kernel_rfl
theorem eA5 (es : List (List PV)) (i f : Int) (K : Env → Hp → Prop) : bL Try.prog vJ 22 (bT (gE (eZ (cE Try.f44)))).toList (bT (gE (eZ (cE Try.f44)))).toList ((7, .pv (.int .i64 i)) :: (6, .pv (.int .i64 f)) :: eO f i) (aK nl T es) K =
    (dC es.length (some f) (some i) none ∧ ACall Try.prog 73 [.sub 0 f.toNat i.toNat, .fn 74 [.box 1 0]] [.sl (21, 1) false nl es, .box [.pv T]] fun (r : LV) (h' : Hp) => ∃ (t : List (List PV)), (r = .tup [] ∧ h' = [.sl (21, 1) false nl t, .box [.pv T]]) ∧
      (True ∧ (((21, 1) : Nat × Nat) = (21, 1) ∧ nl = nl ∧ es.length = t.length) ∧ True) ∧ K ((20, .tup []) :: (19, .fn 74 [.box 0 0]) :: (18, .sub 1 f.toNat i.toNat) :: (17, .pv (.int .i64 i)) :: (16, .pv (.int .i64 f)) :: (15, .own 1) :: (7, .pv (.int .i64 i)) :: (6, .pv (.int .i64 f)) :: eO f i) (aK nl T t)) := by kernel_rfl
theorem zft : eW (cE Try.f44) = .seq (.region 3 (bT (c6 (eW (cE Try.f44)))) false) (.region 4 (bT (cD (eW (cE Try.f44)))) false) ∧ eZ (cE Try.f44) = .block 1 (.region 5 (bT (gE (eZ (cE Try.f44)))) false) ∧
    cE Try.f44 = .rangeFunc (.tmp 12) #[13, 14] (eW (cE Try.f44)) (eZ (cE Try.f44)) ∧ gY (bT (c6 (eW (cE Try.f44)))).toList = true ∧ gY (bT (cD (eW (cE Try.f44)))).toList = true ∧ gY (bT (gE (eZ (cE Try.f44)))).toList = true :=
  ⟨by kernel_rfl, by kernel_rfl, by kernel_rfl, by kernel_rfl, by kernel_rfl, by kernel_rfl⟩
theorem zn8 (hc : iA T key) {W0 : World} {I0 : Nat → Prop} {G0 : Nat → Pl} {L0 : List Int} {a : Act} {v12 : LV} (hs0 : SRel W0 I0 G0 [(2, .box 0 0), (5, .box 2 0), (12, v12)] (aK nl T (aA L0)) 22 a) (rec : Loop)
    (r1 : rec.state = .ready) (r2 : rec.pending = none) (r3 : rec.tmps = a.tmps) (r4 : rec.params = #[13, 14]) (r5 : rec.assign = eW (cE Try.f44)) (r6 : rec.body = eZ (cE Try.f44)) :
    zL (ZR W0 I0 G0 (aK nl T (aA L0)) (W0.heap.size + 1) W0.heap.size rec) key nl T (W0.heap.size + 1) L0.length := by
  intro w I G L f i hh hz hfi hil hr hLn hN
  obtain ⟨l, hl⟩ : ∃ l, l = W0.heap.size + 1 := ⟨_, rfl⟩
  have hWl : W0.heap.size ≤ l := by omega
  rw [← hl] at hz ⊢
  refine ⟨_, _, _, _, run_yield (P := Try.prog) hz.hl (by rw [r4]; rfl), roundIn_of_wpIn trivial ?_⟩
  have hlt := (Array.getElem?_eq_some_iff.1 hz.hl).1
  have hel : ∀ L' : List Int, L'.length = L.length → (aA L0).length = (aA L').length := fun L' h => by simp [hN, h]
  have hs : SRel w I G (eO f i) (aK nl T (aA L)) 22 { tmps := (a.tmps.setIfInBounds 13 (.int .i64 f)).setIfInBounds 14 (.int .i64 i), defers := [] } := by
    have h1 := hs0.he.mono (pH hs0.hh hz.t.t) (zQ (hel L rfl) (sS hz.t))
    have h2 := h1.set (d := 13) (v := .pv (.int .i64 f)) (by rw [hs0.hn]; omega) (.pv _ _ (.int .i64 f)) (fun _ _ _ e => by cases e)
    have h3 := h2.set (d := 14) (v := .pv (.int .i64 i)) (by simp [hs0.hn]) (.pv _ _ (.int .i64 i)) (fun _ _ _ e => by cases e)
    exact ⟨hh, fun k v hk => h3 k v ((LeE.le (e' := eO f i) ⟨rfl, rfl, rfl, rfl, trivial⟩) k v hk), by simp [hs0.hn]⟩
  obtain ⟨q1, q2, q3, q4, q5, q6⟩ := zft
  rw [r5, q1, r4, r3]
  have hfold : ∀ x y : Value, (((#[13, 14] : Array Tmp).zip #[x, y]).foldl (fun tmps (t, a) => tmps.setIfInBounds t a) a.tmps) = (a.tmps.setIfInBounds 13 x).setIfInBounds 14 y := fun x y => by simp
  rw [hfold]
  refine wpIn_seq ?_
  show Code.wpIn (wd (some l)) 0 Try.prog _ (Exit.then (Code.wpIn (wd (some l)) 0 Try.prog _ _) _) { tmps := (a.tmps.setIfInBounds 13 (.int .i64 f)).setIfInBounds 14 (.int .i64 i), defers := [] } w
  refine vK q4 (by rw [eA3]; exact ⟨rfl, rfl⟩ : bL Try.prog (fun _ => none) 22 _ _ _ _ (fun e' h' => e' = _ ∧ h' = _)) hs ?_ ?_
  · exact fun a w h => h
  rintro _ _ w1 I1 G1 a1 ⟨rfl, rfl⟩ hs1 hd1 ht1
  refine vK q5 (by rw [eA4]; exact ⟨rfl, rfl⟩ : bL Try.prog (fun _ => none) 22 _ _ _ _ (fun e' h' => e' = _ ∧ h' = _)) hs1 ?_ ?_
  · exact fun a w h => h
  rintro _ _ w2 I2 G2 a2 ⟨rfl, rfl⟩ hs2 hd2 ht2
  have z1 := hz.step hh ht1.toN
  have z2 := z1.step hs1.hh ht2.toN
  refine ⟨_, run_beginRound z2.hl r1, ?_⟩
  have n2 := i6 hs2.hh z2.hl rfl
  have l2 := (Array.getElem?_eq_some_iff.1 z2.hl).1
  have hs3 : SRel (w2.putObj l (.loop { rec with state := .busy })) I2 G2 _ _ 22 a2 := ⟨hs2.hh.off _ z2.nl n2, hs2.he.mono (Keeps.off z2.nl _) (.refl _ _), hs2.hn⟩
  have hp3 : (w2.putObj l (.loop { rec with state := .busy })).heap[l]? = some (.loop { rec with state := .busy }) := World.putObj_heap_same l2
  have hb : ∀ {c : Code} {Q a w}, c = eZ (cE Try.f44) → Code.wpIn (wd (some l)) 0 Try.prog (.block 1 (.region 5 (bT (gE (eZ (cE Try.f44)))) false)) Q a w → Code.wpIn (wd (some l)) 0 Try.prog c Q a w := fun e h => by rw [e, q2]; exact h
  refine hb r6 ?_
  have h5 : bL Try.prog vJ 22 (bT (gE (eZ (cE Try.f44)))).toList (bT (gE (eZ (cE Try.f44)))).toList ((7, .pv (.int .i64 i)) :: (6, .pv (.int .i64 f)) :: eO f i) (aK nl T (aA L)) (fun _ h' => ∃ L', YQ key L f i L' ∧ h' = aK nl T (aA L')) := by
    rw [eA5, Int.toNat_natCast, Int.toNat_natCast]
    obtain ⟨c1, c2, c3⟩ := sR L (show f ≤ i by omega) hil
    have e : aA L = aA (L.take f ++ ((L.take i).drop f ++ L.drop i)) := congrArg aA c1
    refine ⟨⟨by simp, by simp; omega, by simp; omega, trivial⟩, ?_⟩
    rw [e]
    refine (znv hc f i nl (L.take f) ((L.take i).drop f) (L.drop i) c2 (by omega) (by rw [← c1]; exact hr) (by omega)).mono ?_
    rintro r h' ⟨S', rfl, rfl, s1, k1⟩
    refine ⟨_, ⟨rfl, rfl⟩, ⟨trivial, ⟨rfl, rfl, ?_⟩, trivial⟩, _, ⟨S', rfl, s1, k1⟩, rfl⟩
    have := k1.len
    simp only [bG, List.length_append]; omega
  refine wpIn_block ?_
  show Code.wpIn (wd (some l)) 0 Try.prog _ _ _ _
  refine vK (H := vJ) (ro := some l) (n := 0) (id := 5) q6 h5 hs3 ?_ ?_
  · exact fun a w h => h
  rintro e4 _ w4 I4 G4 a4 ⟨L', hYQ, rfl⟩ hs4 hd4 ht4
  have n3 := i6 hs3.hh hp3 rfl
  have hl4 : w4.heap[l]? = some (.loop { rec with state := .busy }) := (ht4.t.keep l (by rw [World.putObj_size]; exact l2) n3).trans hp3
  have l4 := (Array.getElem?_eq_some_iff.1 hl4).1
  have nI4 : ∀ b, ¬ I2 b → ¬ aU (aK nl T (aA L)) G2 b → b < w2.heap.size → ¬ I4 b := fun b x y z h => (ht4.t.i2 b h).elim x fun h => h.elim y fun h => by rw [World.putObj_size] at h; omega
  have nl4 := nI4 l z2.nl n2 l2
  have hDne : W0.heap.size ≠ l := by omega
  have nD2 := i6 hs2.hh z2.hD rfl
  have lD := (Array.getElem?_eq_some_iff.1 z2.hD).1
  have hrec : ({ { rec with state := .busy } with state := if (none : Option Code).isNone then .ready else .done, pending := none } : Loop) = rec := by
    cases rec; simp only at r1 r2; subst r1; subst r2; rfl
  have hrun := run_endRound (P := Try.prog) none hl4
  rw [hrec] at hrun
  have hLL : L'.length = L.length := by
    obtain ⟨S', rfl, s1, k1⟩ := hYQ
    obtain ⟨c1, c2, c3⟩ := sR L (show f ≤ i by omega) hil
    have := k1.len
    rw [List.length_append, List.length_append, c2, ← this, c3, List.length_drop]; omega
  have tB : TrN 5 W0 I0 G0 (aK nl T (aA L0)) (w4.putObj l (.loop rec)) I4 G4 (aK nl T (aA L')) := ((z2.t.off hWl _).trans ht4.toN).off hWl _
  refine ⟨_, _, hrun, rfl, L', I4, G4, hYQ, hs4.hh.off _ nl4 (i6 hs4.hh hl4 rfl), ?_, zQ (by simp [hLL]) (fun o ho => (sS tB o ho).trans (sS hz.t o ho).symm), ⟨tB, World.putObj_heap_same l4, ?_, nl4, nI4 _ z2.nD nD2 lD⟩⟩
  · have k1 := (pH hh ht1.t).trans ht1.t.size (pH hs1.hh ht2.t)
    have s2 := Nat.le_trans ht1.t.size ht2.t.size
    have k2 := (k1.trans s2 (Keeps.off z2.nl (.loop { rec with state := .busy }))).trans (by rw [World.putObj_size]; exact s2) (pH hs3.hh ht4.t)
    exact k2.trans (by have := ht4.t.size; rw [World.putObj_size] at this; omega) (Keeps.off nl4 _)
  · rw [World.putObj_heap_other hDne]
    exact (ht4.t.keep _ (by rw [World.putObj_size]; exact lD) (i6 hs3.hh ((World.putObj_heap_other hDne).trans z2.hD) rfl)).trans ((World.putObj_heap_other hDne).trans z2.hD)
end
end Go.Eng



namespace Go.Eng
open Go Go.Proofs
def zR (nl fl : Bool) (es : LL) (R : LV → Hp → Prop) : Prop :=
 if (bif true then nl else !nl) = true then R (LV.pv (PV.sl true true [])) [] else fY true [] es 1 4 ∧ R (LV.own 0) [Ob.sl (21, 1) false false ([] ++ es)]
theorem zn9 (nl fl : Bool) (es : LL) {R : LV → Hp → Prop} (h : zR nl fl es R) : ACall Try.prog 71 [.pv (.sl nl fl es)] [] R :=
  ACall.ofA Try.func71 (by kernel_rfl) (by kernel_rfl) (Nat.le_of_ble_eq_true (by kernel_rfl)) (Eq.mpr (by kernel_rfl : oK Try.prog (fun _ => none) Try.f71 [0, 2, 4] (fun _ => none) (Try.f71.body.getD .skip) [.pv (.sl nl fl es)] [] R = zR nl fl es R) h)

def zfu (nl : Bool) (ts : List PV) (es : LL) (R : LV → Hp → Prop) : Prop :=
 R (LV.fn 95 [LV.box 2 0, LV.box 1 0]) [Ob.sl (21, 1) false nl es, Ob.box [LV.pv (PV.ptr ts)], Ob.box [LV.own 0]]
theorem zoa (nl : Bool) (ts : List PV) (es : LL) {R : LV → Hp → Prop} (h : zfu nl ts es R) : ACall Try.prog 72 [.pv (.ptr ts), .own 0] [.sl (21, 1) false nl es] R :=
  ACall.of Try.func72 (by kernel_rfl) (by kernel_rfl) (Nat.le_of_ble_eq_true (by kernel_rfl)) (Eq.mpr (by kernel_rfl : dH Try.prog (fun _ => none) Try.f72 [0, 1, 2, 3, 4] (fun _ => none) [0, 1, 2] (Try.f72.body.getD .skip) [.pv (.ptr ts), .own 0] [.sl (21, 1) false nl es] R = zfu nl ts es R) h)

end Go.Eng



namespace Go.Eng
open Go Go.Proofs Go.Eng.Rows Go.Eng.Srt
theorem ACall.nilOwn {P : Program} {f : Nat} {args : List LV} {Q Q' : LV → Hp → Prop} {ty : Nat × Nat} (hc : ACall P f args [] Q) (hq : ∀ r h', Q r h' → Q' r h' ∨ ∃ fl, r = .pv (.sl true fl []) ∧ h' = [] ∧ Q' (.own 0) [.sl ty false true []]) : ACall P f args [] Q' :=
  ⟨hc.1, fun w I G cargs h1 h2 h3 => (hc.2 w I G cargs h1 h2 h3).mono fun e w' ⟨cv, r, h', I', G', e1, e2, e3, e4, e5⟩ => (hq r h' e2).elim (fun q => ⟨cv, r, h', I', G', e1, q, e3, e4, e5⟩) fun ⟨fl, hr, hh, q⟩ => by
    subst hr; subst hh
    have hcv : cv = .slice none 0 0 := by cases e4 with | pv _ _ h => cases h; rfl
    subst hcv
    have one : ∀ {o : Nat} {ob : Ob}, [Ob.sl ty false true []][o]? = some ob → ob = .sl ty false true [] := fun {o ob} h => by
      cases o with
      | zero => cases h; rfl
      | succ o => simp at h
    have dead : ∀ {p : Pl}, ¬ (Ob.sl ty false true []).alive p := fun h => by cases h.1
    have noB : ∀ b, ¬ aU [Ob.sl ty false true []] G' b := fun b ⟨o, ob, ho, ha, _⟩ => by rw [one ho] at ha; exact dead ha
    refine ⟨_, .own 0, [.sl ty false true []], I', G', e1, q, ⟨fun o ob ho => by rw [one ho]; rfl, fun o o' ob ob' ho ha => by rw [one ho] at ha; exact (dead ha).elim, fun o ob ho ha => by rw [one ho] at ha; exact (dead ha).elim, e3.cl⟩, .ownNil 0 ty false [] rfl, ?_, by simp, fun o ob' ho => by simp at ho⟩
    have t := e5.t
    exact ⟨t.os, t.tape, t.output, t.size, t.keep, t.i1, t.i2, fun b hb => (noB b hb).elim, t.frz, t.drawn⟩⟩
theorem zob (nl fl : Bool) (es : List (List PV)) (hn : nl = true → es = []) (ha : fY true [] es 1 4) : ACall Try.prog 71 [.pv (.sl nl fl es)] [] fun r h' => r = .own 0 ∧ h' = [.sl (21, 1) false nl es] := by
  refine ACall.nilOwn (ty := (21, 1)) (Q := fun r h' => (nl = true ∧ r = .pv (.sl true true []) ∧ h' = []) ∨ (nl = false ∧ r = .own 0 ∧ h' = [.sl (21, 1) false nl es])) (zn9 nl fl es ?_) ?_
  · unfold zR
    cases nl with
    | true => exact .inl ⟨rfl, rfl, rfl⟩
    | false => exact ⟨ha, .inr ⟨rfl, rfl, by simp⟩⟩
  · rintro r h' (⟨rfl, rfl, rfl⟩ | ⟨rfl, rfl, rfl⟩)
    · rw [hn rfl]; exact .inr ⟨true, rfl, rfl, rfl, rfl⟩
    · exact .inl ⟨rfl, rfl⟩
theorem sT {P : Program} {n0 N : Nat} {c : Code} {e E : Env} {h Hh : Hp} (hS : CodeS P n0 N c e h fun x e' h' => x = .normal ∧ e' = E ∧ h' = Hh) {w : World} {I : Nat → Prop} {G : Nat → Pl} {a : Act} (hs : SRel w I G e h N a) {Q : Exit → Act → World → Prop}
    (hq : ∀ w' I' G' a', SRel w' I' G' E Hh N a' → a'.defers = a.defers → TrN n0 w I G h w' I' G' Hh → Q .normal a' w') : c.wp P Q a w :=
  hS w I G a Q hs fun x e' h' w' I' G' a' hk hs' hd ht => by obtain ⟨rfl, rfl, rfl⟩ := hk; exact hq w' I' G' a' hs' hd ht
section
variable {nl fl : Bool} {ts : List PV} {es : List (List PV)}
theorem eB0 (Q : Qt) : cX Try.prog (fun _ => none) 0 22 [1, 2, 4] (fun _ => none) (cO0 Try.f44) (eJ [.pv (.ptr ts), .pv (.sl nl fl es)] 0) [] Q = Q .normal [(1, .pv (.sl nl fl es)), (2, .box 0 0), (4, .pv (.sl true true []))] [.box [.pv (.ptr ts)]] := by kernel_rfl
theorem eB1 (Q : Qt) : cX Try.prog zdo 0 22 [2, 5] (fun _ => none) (cO1 Try.f44) [(1, .pv (.sl nl fl es)), (2, .box 0 0)] [.box [.pv (.ptr ts)]] Q =
    ACall Try.prog 71 [.pv (.sl nl fl es)] [] fun (r : LV) (h' : Hp) => ∃ (_ : Unit), (r = .own 0 ∧ h' = [.sl (21, 1) false nl es]) ∧ True ∧ Q .normal [(2, .box 0 0), (5, .box 2 0)] [.box [.pv (.ptr ts)], .sl (21, 1) false nl es, .box [.own 1]] := by kernel_rfl
theorem eB2 (Q : Qt) : cX Try.prog zdo 0 22 [2, 5, 12] (fun _ => none) (cO2 Try.f44) [(2, .box 0 0), (5, .box 2 0)] [.box [.pv (.ptr ts)], .sl (21, 1) false nl es, .box [.own 1]] Q =
    ACall Try.prog 72 [.pv (.ptr ts), .own 0] [.sl (21, 1) false nl es] fun (r : LV) (h' : Hp) => ∃ (_ : Unit), (r = .fn 95 [.box 2 0, .box 1 0] ∧ h' = [.sl (21, 1) false nl es, .box [.pv (.ptr ts)], .box [.own 0]]) ∧
      ((((21, 1) : Nat × Nat) = (21, 1) ∧ nl = nl ∧ es.length = es.length) ∧ True) ∧ Q .normal [(2, .box 0 0), (5, .box 2 0), (12, .fn 95 [.box 4 0, .box 3 0])] (aK nl (.ptr ts) es) := by kernel_rfl
theorem eB6 (Q : Qt) : cX Try.prog (fun _ => none) 5 22 [4] (fun _ => none) (cO6 Try.f44) [(2, .box 0 0), (5, .box 2 0)] (aK nl (.ptr ts) es) Q = Q .normal [(4, .own 1)] (aK nl (.ptr ts) es) := by kernel_rfl
theorem zS : cM Try.f44 = .seq (cO0 Try.f44) (.seq (cO1 Try.f44) (.seq (.seq (cO2 Try.f44) (.block 0 (cE Try.f44))) (.seq (cO6 Try.f44) .ret))) ∧ Try.f44.body = some (cM Try.f44) ∧ Try.f44.ntmps = 22 ∧
    Try.f95.body = some (cM Try.f95) ∧ Try.f95.ntmps = 39 ∧ Try.f44.results = #[.tmp 4] ∧ Try.f95.results = #[] ∧ Try.f44.body.isNone = false ∧ (Try.f44.name == "runtime.NumGoroutine") = false ∧ Try.f95.body.isNone = false ∧ (Try.f95.name == "runtime.NumGoroutine") = false :=
  ⟨by kernel_rfl, by kernel_rfl, by kernel_rfl, by kernel_rfl, by kernel_rfl, by kernel_rfl, by kernel_rfl, by kernel_rfl, by kernel_rfl, by kernel_rfl, by kernel_rfl⟩
variable {key : Int → Int}
theorem Tr.alloc0 {w : World} {I own : Nat → Prop} (o : Obj) : Tr w I own (w.alloc o) I own :=
  ⟨rfl, rfl, rfl, by simp, fun b hb _ => cH w o hb, fun _ h => h, fun _ h => .inl h, fun _ h => .inl h, fun a ha => World.frozen?_of_block (cH w o ha), Nat.le_refl _⟩
theorem KA.alloc0 (w : World) (o : Obj) : KA w (w.alloc o) := ⟨by simp, fun b hb => cH w o hb⟩
theorem zoc (hk : ∀ x, 0 ≤ key x) (hT : ∀ r : Int, (-2147483648 ≤ r ∧ r ≤ 2147483647) → PCall Try.prog 45 [.ptr ts, .int .i32 r] fun v => v = .int .i64 (key r)) (hc : iA (.ptr ts) key) (L : List Int) (hr : R32 L) (hL : L.length < 1000000000000)
    {w3 : World} {I3 : Nat → Prop} {G3 : Nat → Pl} {a3 : Act} {v12 : LV} (hs3 : SRel w3 I3 G3 [(2, .box 0 0), (5, .box 2 0), (12, v12)] (aK nl (.ptr ts) (aA L)) 22 a3) (rec : Loop) (r1 : rec.state = .ready) (r2 : rec.pending = none) (r3 : rec.tmps = a3.tmps) (r4 : rec.params = #[13, 14])
    (r5 : rec.assign = eW (cE Try.f44)) (r6 : rec.body = eZ (cE Try.f44)) (vs : Array Value) (hvsz : vs.size = 2) (hvs : ∀ (k : Nat) v, [LV.box 4 0, LV.box 3 0][k]? = some v → LRel w3 I3 G3 (aK nl (.ptr ts) (aA L)) v (vs.getD k undef)) :
    Calls Try.prog 95 (#[Value.func (.yield (w3.heap.size + 1)) #[] #[]] ++ vs) ((w3.alloc (.deferred (some []))).alloc (.loop rec)) fun e w4 => (∃ v, e = .returned v) ∧ ∃ I4 G4, HRel w4 I4 G4 (aK nl (.ptr ts) (aA (bK key L))) ∧
      ZR w3 I3 G3 (aK nl (.ptr ts) (aA L)) (w3.heap.size + 1) w3.heap.size rec w4 I4 G4 (aK nl (.ptr ts) (aA (bK key L))) := by
  obtain ⟨k1, k2, k3, k4, k5, k6, k7, k8, k9, k10, k11⟩ := zS
  obtain ⟨W1, hW1⟩ : ∃ W1, W1 = (w3.alloc (.deferred (some []))).alloc (.loop rec) := ⟨_, rfl⟩
  rw [← hW1]
  have tA : Tr w3 I3 (aU (aK nl (.ptr ts) (aA L)) G3) W1 I3 (aU (aK nl (.ptr ts) (aA L)) G3) := by rw [hW1]; exact (Tr.alloc0 _).trans (Tr.alloc0 _)
  have ka : KA w3 W1 := by rw [hW1]; exact (KA.alloc0 _ _).trans (KA.alloc0 _ _)
  have hl1 : W1.heap[w3.heap.size + 1]? = some (.loop rec) := by rw [hW1]; have := World.alloc_heap_new (w3.alloc (.deferred (some []))) (.loop rec); rwa [World.size_alloc] at this
  have hD1 : W1.heap[w3.heap.size]? = some (.deferred (some [])) := by rw [hW1]; exact (cH _ _ (by simp)).trans (World.alloc_heap_new w3 _)
  have z1 : ZR w3 I3 G3 (aK nl (.ptr ts) (aA L)) (w3.heap.size + 1) w3.heap.size rec W1 I3 G3 (aK nl (.ptr ts) (aA L)) := ⟨(TrH.same tA).toN, hl1, hD1, fun h => by have := hs3.hh.cl _ h; omega, fun h => by have := hs3.hh.cl _ h; omega⟩
  have hRd := zn8 hc hs3 rec r1 r2 r3 r4 r5 r6
  have hwalk := zn7 hk hT (fun w I G h w' I' G' h' z hh _ t => z.step hh t) L hRd hr hL
  have hsW : SRel W1 I3 G3 (eJ [.pv (.raw (Value.func (.yield (w3.heap.size + 1)) #[] #[])), .box 4 0, .box 3 0] 0) (aK nl (.ptr ts) (aA L)) 39 { tmps := (#[Value.func (.yield (w3.heap.size + 1)) #[] #[]] ++ vs) ++ Array.replicate (39 - (#[Value.func (.yield (w3.heap.size + 1)) #[] #[]] ++ vs).size) undef, defers := [] } := by
    obtain ⟨y, hy⟩ : ∃ y, y = Value.func (.yield (w3.heap.size + 1)) #[] #[] := ⟨_, rfl⟩
    rw [← hy]
    obtain ⟨x0, x1, rfl⟩ : ∃ x0 x1, vs = #[x0, x1] := by
      obtain ⟨l⟩ := vs
      match l, hvsz with
      | [a, b], _ => exact ⟨a, b, rfl⟩
    have hk : Keeps w3 I3 W1 I3 := ⟨fun b _ hb => ka.2 b hb, fun b hb _ => hb⟩
    have h1 := (hvs 0 _ rfl).mono hk (.refl _ _)
    have h2 := (hvs 1 _ rfl).mono hk (.refl _ _)
    have e0 : ∀ r : Array Value, (#[y] ++ #[x0, x1] ++ r).getD 0 undef = y := fun r => by rw [Array.getD_eq_getD_getElem?, Array.getElem?_append_left (by simp)]; rfl
    have e1 : ∀ r : Array Value, (#[y] ++ #[x0, x1] ++ r).getD 1 undef = x0 := fun r => by rw [Array.getD_eq_getD_getElem?, Array.getElem?_append_left (by simp)]; rfl
    have e2 : ∀ r : Array Value, (#[y] ++ #[x0, x1] ++ r).getD 2 undef = x1 := fun r => by rw [Array.getD_eq_getD_getElem?, Array.getElem?_append_left (by simp)]; rfl
    refine ⟨hs3.hh.ka ka, ?_, by simp⟩
    have he : ERel W1 I3 G3 (aK nl (.ptr ts) (aA L)) [(0, .pv (.raw y)), (1, .box 4 0), (2, .box 3 0)] (#[y] ++ #[x0, x1] ++ Array.replicate (39 - (#[y] ++ #[x0, x1]).size) undef) :=
      ((ERel.nil _ _ _ _ _).cons (s := 2) (v := .box 3 0) (by rw [e2]; exact h2)).cons (s := 1) (v := .box 4 0) (by rw [e1]; exact h1) |>.cons (s := 0) (v := .pv (.raw y)) (by rw [e0]; exact .pv _ _ (.raw _))
    exact he
  refine calls_of_wp Try.func95 k4 ?_
  rw [k5]
  refine hwalk W1 I3 G3 _ _ hsW z1 ?_
  rintro x e' _ w4 I4 G4 a4 ⟨rfl, rfl⟩ hs4 hd4 z4
  exact ⟨hd4, _, results_none k7 _ _ _, ⟨_, rfl⟩, I4, G4, hs4.hh, z4⟩
theorem zod (hk : ∀ x, 0 ≤ key x) (L : List Int) {w w3 w4 : World} {I I3 I4 : Nat → Prop} {G G3 G4 : Nat → Pl} {a3 : Act} {v12 : LV} (hs3 : SRel w3 I3 G3 [(2, .box 0 0), (5, .box 2 0), (12, v12)] (aK nl (.ptr ts) (aA L)) 22 a3) (hd30 : a3.defers = []) {rec : Loop}
    (ht3 : Tr w I (aU [] G) w3 I3 (aU (aK nl (.ptr ts) (aA L)) G3)) (hh4 : HRel w4 I4 G4 (aK nl (.ptr ts) (aA (bK key L)))) (z4 : ZR w3 I3 G3 (aK nl (.ptr ts) (aA L)) (w3.heap.size + 1) w3.heap.size rec w4 I4 G4 (aK nl (.ptr ts) (aA (bK key L)))) :
    (Code.seq (cO6 Try.f44) .ret).wp Try.prog (bodyPostM Fence.wide 0 Try.prog Try.f44 fun e w' => ∃ cv r h' I' G', e = .returned cv ∧ (∃ v, r = .pv v ∧ v = .sl nl false (aA (bK key L))) ∧ HRel w' I' G' h' ∧ LRel w' I' G' h' r cv ∧ TrH w I G [] w' I' G' h')
      { tmps := a3.tmps, defers := [{ target := .collected w3.heap.size, args := #[] }] ++ a3.defers } (w4.putObj (w3.heap.size + 1) (.loop { rec with state := .exhausted })) := by
  obtain ⟨k1, k2, k3, k4, k5, k6, k7, k8, k9, k10, k11⟩ := zS
  have hll := (sQ (key := key) hk L).len
  have n4 := i6 hh4 z4.hl rfl
  have l4 := (Array.getElem?_eq_some_iff.1 z4.hl).1
  have z5 : ZR w3 I3 G3 (aK nl (.ptr ts) (aA L)) (w3.heap.size + 1) w3.heap.size { rec with state := .exhausted } (w4.putObj (w3.heap.size + 1) (.loop { rec with state := .exhausted })) I4 G4 (aK nl (.ptr ts) (aA (bK key L))) :=
    ⟨z4.t.off (by omega) _, World.putObj_heap_same l4, (World.putObj_heap_other (by omega)).trans z4.hD, z4.nl, z4.nD⟩
  have hs5 : SRel (w4.putObj (w3.heap.size + 1) (.loop { rec with state := .exhausted })) I4 G4 [(2, .box 0 0), (5, .box 2 0)] (aK nl (.ptr ts) (aA (bK key L))) 22 { tmps := a3.tmps, defers := [{ target := .collected w3.heap.size, args := #[] }] ++ a3.defers } :=
    ⟨hh4.off _ z4.nl n4, fun i v hi => ((hs3.he.mono (pH hs3.hh z4.t.t) (zQ (by simp [hll]) (sS z4.t))).mono (Keeps.off z4.nl _) (.refl _ _)) i v ((LeE.le (e' := [(2, .box 0 0), (5, .box 2 0)]) ⟨rfl, rfl, trivial⟩) i v hi), hs3.hn⟩
  refine wp_seq (sT (E := [(4, .own 1)]) (Hh := aK nl (.ptr ts) (aA (bK key L))) (fO (Eq.mpr (eB6 _) ⟨rfl, rfl, rfl⟩)) hs5 fun w6 I6 G6 a6 hs6 hd6 ht6 => ?_)
  have z6 := z5.step hs5.hh ht6
  refine wp_ret ?_
  show LeavesInM Fence.wide 0 Try.prog _ a6.tmps _ a6.defers .returning w6
  rw [hd6, hd30]
  refine ⟨by simp, .inl ⟨_, _, rfl, run_takeDeferred z6.hD, ?_⟩⟩
  refine ⟨_, results_tmp k6 _ _ _, ?_⟩
  have hh7 := hs6.hh.off (.deferred none) z6.nD (i6 hs6.hh z6.hD rfl)
  have hv7 : LRel (w6.putObj w3.heap.size (.deferred none)) I6 G6 (aK nl (.ptr ts) (aA (bK key L))) (.own 1) (a6.tmps.getD 4 undef) := LRel.mono (hs6.he 4 _ rfl) (Keeps.off z6.nD (.deferred none)) (.refl _ _)
  have hrep := nO hh7 hv7 (rfl : gO (aK nl (.ptr ts) (aA (bK key L))) (.own 1) = some (.sl nl false (aA (bK key L))))
  have ht := (ht3.trans z6.t.t).off (l := w3.heap.size) ht3.size (.deferred none)
  have hno : ∀ b, ¬ aU [] G b := fun b ⟨o, ob, ho, _⟩ => by simp at ho
  exact ⟨_, _, [], AllB I6 (aK nl (.ptr ts) (aA (bK key L))) G6, G6, rfl, ⟨_, rfl, rfl⟩, HRel.nil G6 (fun b hb => hb.elim (hh7.cl b) hh7.blk_lt), .pv _ _ hrep,
    ⟨⟨ht.os, ht.tape, ht.output, ht.size, ht.keep, fun b hb => .inl (ht.i1 b hb), fun b hb => hb.elim (ht.i2 b) (fun ho => (ht.own2 b ho).elim (fun x => absurd x (hno b)) (fun x => .inr (.inr x))), fun b hb => absurd hb (fun ⟨o, ob, ho, _⟩ => by simp at ho), ht.frz, ht.drawn⟩, Nat.le_refl _, fun o ob ho => by simp at ho⟩⟩
theorem zoe (hk : ∀ x, 0 ≤ key x) (hT : ∀ r : Int, (-2147483648 ≤ r ∧ r ≤ 2147483647) → PCall Try.prog 45 [.ptr ts, .int .i32 r] fun v => v = .int .i64 (key r)) (hc : iA (.ptr ts) key) (L : List Int) (hr : R32 L) (hL : L.length < 1000000000000) :
    PCall Try.prog 44 [.ptr ts, .sl nl fl (aA L)] fun v => v = .sl nl false (aA (bK key L)) := by
  obtain ⟨k1, k2, k3, k4, k5, k6, k7, k8, k9, k10, k11⟩ := zS
  refine ⟨⟨_, Try.func44, k8, k9⟩, fun w I G cargs hh hsz hrel => ?_⟩
  simp only [List.length_map, List.length_cons, List.length_nil] at hsz
  have hn : nl = true → L = [] := fun hn => by
    subst hn
    have h1 := hrel 1 _ rfl
    generalize cargs.getD 1 undef = c1 at h1
    cases h1 with
    | pv _ _ h1 =>
      generalize hes : aA L = es at h1
      cases h1 with
      | slnil => exact List.map_eq_nil_iff.1 hes
  refine (callsIn_wide (n := 0)).1 (callsIn_of_wp_marks Try.func44 k2 trivial (wpIn_wide.2 ?_))
  rw [k3]
  have hs : SRel w I G (eJ [.pv (.ptr ts), .pv (.sl nl fl (aA L))] 0) [] 22 { tmps := cargs ++ Array.replicate (22 - cargs.size) undef, defers := [] } := by
    refine ⟨hh, fun i v hi => ?_, by simp; omega⟩
    obtain ⟨_, h2⟩ := oJ hi
    rw [Nat.sub_zero] at h2
    have hlt : i < cargs.size := by have := (List.getElem?_eq_some_iff.1 h2).1; simp at this; omega
    have := hrel i v h2
    have e1 : (cargs ++ Array.replicate (22 - cargs.size) undef).getD i undef = cargs.getD i undef := by
      rw [Array.getD_eq_getD_getElem?, Array.getD_eq_getD_getElem?, Array.getElem?_append_left hlt]
    simp only [e1]
    exact VRel.of_plain this
  rw [k1]
  -- what begins it
  refine wp_seq (sT (E := [(1, .pv (.sl nl fl (aA L))), (2, .box 0 0), (4, .pv (.sl true true []))]) (Hh := [.box [.pv (.ptr ts)]]) (fO (Eq.mpr (eB0 _) ⟨rfl, rfl, rfl⟩)) hs fun w1 I1 G1 a1 hs1 hd1 ht1 => ?_)
  have hs1' := hs1.le (LeE.le (e' := [(1, .pv (.sl nl fl (aA L))), (2, .box 0 0)]) ⟨rfl, rfl, trivial⟩)
  refine wp_seq (sT (E := [(2, .box 0 0), (5, .box 2 0)]) (Hh := [.box [.pv (.ptr ts)], .sl (21, 1) false nl (aA L), .box [.own 1]]) (fO (Eq.mpr (eB1 _) ((zob nl fl (aA L) (fun h => by rw [hn h]; rfl) ?_).mono fun r h' hq => ⟨(), hq, trivial, rfl, rfl, rfl⟩))) hs1' fun w2 I2 G2 a2 hs2 hd2 ht2 => ?_)
  · exact ⟨rfl, .inl rfl, fun e he => (by cases he), fun e he => by obtain ⟨x, _, rfl⟩ := List.mem_map.1 (List.mem_of_mem_head? he); rfl, by simp; omega⟩
  refine wp_seq (wp_seq (sT (E := [(2, .box 0 0), (5, .box 2 0), (12, .fn 95 [.box 4 0, .box 3 0])]) (Hh := aK nl (.ptr ts) (aA L)) (fO (Eq.mpr (eB2 _) (zoa nl ts (aA L) ?_))) hs2 fun w3 I3 G3 a3 hs3 hd3 ht3 => ?_))
  · exact ⟨(), ⟨rfl, rfl⟩, ⟨⟨rfl, rfl, rfl⟩, trivial⟩, rfl, rfl, rfl⟩
  -- the loop
  have hd30 : a3.defers = [] := hd3.trans (hd2.trans hd1)
  obtain ⟨q1, q2, q3, _, _, _⟩ := zft
  refine wp_block ?_
  rw [q3]
  obtain ⟨vs, hv12, hvsz, hvs⟩ : ∃ vs : Array Value, a3.tmps.getD 12 undef = .func (.func 95) #[] vs ∧ vs.size = 2 ∧ ∀ (k : Nat) v, [LV.box 4 0, LV.box 3 0][k]? = some v → LRel w3 I3 G3 (aK nl (.ptr ts) (aA L)) v (vs.getD k undef) := by
    have := hs3.he 12 _ rfl
    generalize a3.tmps.getD 12 undef = cv at this
    cases this with
    | fn f cs vs h1 h6 => exact ⟨vs, rfl, h1, h6⟩
  refine (wpIn_wide (n := 0)).1 (wpIn_rangeFunc (F := Fence.wide) fun fn _ => ?_)
  obtain ⟨rec, hrec⟩ : ∃ rec : Loop, rec = { state := .ready, pending := none, fn := fn, tmps := a3.tmps, params := #[13, 14], assign := eW (cE Try.f44), body := eZ (cE Try.f44), defers := w3.heap.size } := ⟨_, rfl⟩
  refine ⟨w3.heap.size + 1, [{ target := .collected w3.heap.size, args := #[] }], (w3.alloc (.deferred (some []))).alloc (.loop rec), { target := .fn (.func 95) vs, args := #[.func (.yield (w3.heap.size + 1)) #[] #[]] }, (w3.alloc (.deferred (some []))).alloc (.loop rec), 95,
    #[.func (.yield (w3.heap.size + 1)) #[] #[]] ++ vs, (w3.alloc (.deferred (some []))).alloc (.loop rec), ?_, ?_, fun _ _ => trivial, ?_, fun x => (by cases x), ?_⟩
  · rw [hrec]; exact run_enterLoop_outer _ _ _ _ _
  · have he : a3.eval (.tmp 12) = .func (.func 95) #[] vs := hv12
    simp only [resolve, he]
    simp [go_sem]
  · simp only [invoke]
    exact tV ⟨_, Try.func95, k10, k11⟩
  refine (callsIn_wide).2 (Calls.mono (zoc hk hT hc L hr hL hs3 rec (by rw [hrec]) (by rw [hrec]) (by rw [hrec]) (by rw [hrec]) (by rw [hrec]) (by rw [hrec]) vs hvsz hvs) ?_)
  rintro e w4 ⟨⟨v, rfl⟩, I4, G4, hh4, z4⟩
  have hp : rec.pending = none := by rw [hrec]
  refine ⟨none, _, (run_endLoop z4.hl (by rw [hrec]; simp)).trans (congrArg (fun j => Result.ok j _) hp), ?_⟩
  exact zod hk L hs3 hd30 ((ht1.t.trans ht2.t).trans ht3.t) hh4 z4
end
end Go.Eng



namespace Go.Eng
open Go Go.Proofs
def zT (n f : Bool) (es : LL) (k : Int) (R : PV → Prop) : Prop :=
 if decide ((↑es.length : Int) > k) = true then (dC es.length none (some k) none ∧ aR es 1) ∧ R (PV.sl n (f && decide (k = (↑es.length : Int))) (List.drop 0 (List.take k.toNat es))) else R (PV.sl n f es)
theorem zof (n f : Bool) (es : LL) (k : Int) {R : PV → Prop} (h : zT n f es k R) : PCall Try.prog 10 [.sl n f es, .int .i64 k] R :=
  PCall.of Try.func10 (by kernel_rfl) (by kernel_rfl) (Nat.le_of_ble_eq_true (by kernel_rfl)) (Eq.mpr (by kernel_rfl : aW Try.prog (fun _ => none) Try.f10 [0, 1, 4, 8] (fun _ => none) (Try.f10.body.getD .skip) [.sl n f es, .int .i64 k] R = zT n f es k R) h)

def zU (n f : Bool) (es : LL) (n2 f2 : Bool) (es2 : LL) (x5 : Int) : Env × Hp := ([(0, LV.pv (PV.sl n f es)), (1, LV.pv (PV.sl n2 f2 es2)), (5, .pv (.int IntKind.i64 x5))], [])
def sU (n f : Bool) (es : LL) (n2 f2 : Bool) (es2 : LL) (J : Int → Prop) (μ : Int → Nat) (R : PV → Prop) : Prop :=
 if ((↑es.length : Int) != (↑es2.length : Int)) = true then R (Zb false) else (aB (zU n f es n2 f2 es2 (0 : Int)) ∧ J (0 : Int)) ∧ ∀ (x5 : Int), J x5 → if decide (x5 < (↑es.length : Int)) = true then aO es x5 1 ∧ ∃ (n1 : Int),
 (es.getD x5.toNat []).head? = some (Z3 n1) ∧ aO es2 x5 1 ∧ ∃ (n3 : Int), (es2.getD x5.toNat []).head? = some (Z3 n3) ∧ if (n1 != n3) = true then R (Zb false) else aB (zU n f es n2 f2 es2 (IntKind.i64.wrap (x5 + 1))) ∧ J
 (IntKind.i64.wrap (x5 + 1)) ∧ μ (IntKind.i64.wrap (x5 + 1)) < μ x5 else R (Zb true)
theorem zog (n f : Bool) (es : LL) (n2 f2 : Bool) (es2 : LL) (J : Int → Prop) (μ : Int → Nat) {R : PV → Prop} (h : sU n f es n2 f2 es2 J μ R) : PCall Try.prog 15 [.sl n f es, .sl n2 f2 es2] R :=
  PCall.of Try.func15 (by kernel_rfl) (by kernel_rfl) (Nat.le_of_ble_eq_true (by kernel_rfl)) (Eq.mpr (by kernel_rfl : aW Try.prog (fun _ => none) Try.f15 [0, 1, 4, 5, 10, 14, 25] (fun zz_ => match zz_ with | 4 => some ⟨Int × Unit, fun s => zU n f es n2 f2 es2 s.1, fun _ s => J s.1, fun s => μ s.1, fun e h => (((gI e 5), ())), [], [0, 1, 5], [], fun p => ∀ (x5 : Int), p (x5, ()), fun p h s => h s.1⟩ | _ => none) (Try.f15.body.getD .skip) [.sl n f es, .sl n2 f2 es2] R = sU n f es n2 f2 es2 J μ R) h)

def sV (n f : Bool) (es : LL) (n2 f2 : Bool) (ss : LL) (x7 : Int) (n_0 : Bool) (s_0 : LL) (n_1 : Bool) (s_1 : LL) : Env × Hp := ([(0, LV.pv (PV.sl n f es)), (1, LV.pv (PV.sl n2 f2 ss)), (5, LV.own 0), (6, LV.own 1), (7, .pv (.int IntKind.i64 x7))], [.sl (21, 1) true n_0 s_0, .sl (3, 1) true n_1 s_1])
def zV (n f : Bool) (es : LL) (n2 f2 : Bool) (ss : LL) (x7 : Int) (x8 : Int) (x9 : Int) (n_0 : Bool) (s_0 : LL) (n_1 : Bool) (s_1 : LL) : Env × Hp := ([(0, LV.pv (PV.sl n f es)), (1, LV.pv (PV.sl n2 f2 ss)), (5, LV.own 0), (6, LV.own 1), (7, .pv (.int IntKind.i64 x7)), (8, .pv (.int IntKind.i64 x8)), (9, .pv (.int IntKind.i64 x9))], [.sl (21, 1) true n_0 s_0, .sl (3, 1) true n_1 s_1])
def zW (n f : Bool) (es : LL) (n2 f2 : Bool) (ss : LL) (J : Int → Bool → (LL) → Bool → (LL) → Prop) (μ : Int → Bool → (LL) → Bool → (LL) → Nat) (J2 : Int → Int → Int → Bool → (LL) → Bool → (LL) → Int → Int → Int → Bool → (LL) → Bool → (LL) → Prop) (μ2 : Int → Int → Int → Bool → (LL) → Bool → (LL) → Nat) (R : PV → Prop) : Prop :=
 (aB (sV n f es n2 f2 ss (0 : Int) true [] true []) ∧ J (0 : Int) true [] true []) ∧ ∀ (x7 : Int) (n_0 : Bool) (s_0 : LL) (n_1 : Bool) (s_1 : LL), J x7 n_0 s_0 n_1 s_1 → if decide (x7 < (↑ss.length : Int)) = true then aO ss x7 1 ∧ ∃
 (n1 : Int), (ss.getD x7.toNat []).head? = some (Z3 n1) ∧ PCall Try.prog 100 [PV.sl n f es, Z3 n1] fun (v : PV) ↦ ∃ (n3 : Int), v = Z6 n3 ∧ aO ss x7 1 ∧ ∃ (n4 : Int), (ss.getD x7.toNat []).head? = some (Z3 n4) ∧ (aR [[Z3 n4]] 1 ∧
 (s_0.length + 1) * 4 ≤ 140737488355328) ∧ (aR [[Z6 n3]] 1 ∧ (s_1.length + 1) * 8 ≤ 140737488355328) ∧ (aB (zV n f es n2 f2 ss x7 n3 (↑s_0.length : Int) (n_0 && false) (s_0 ++ [[Z3 n4]]) (n_1 && false) (s_1 ++ [[Z6 n3]])) ∧ J2 x7 n3
 (↑s_0.length : Int) (n_0 && false) (s_0 ++ [[Z3 n4]]) (n_1 && false) (s_1 ++ [[Z6 n3]]) x7 n3 (↑s_0.length : Int) (n_0 && false) (s_0 ++ [[Z3 n4]]) (n_1 && false) (s_1 ++ [[Z6 n3]])) ∧ ∀ (x71 x8 x9 : Int) (n_01 : Bool) (s_01 : LL) (n_11 :
 Bool) (s_11 : LL), J2 x7 n3 (↑s_0.length : Int) (n_0 && false) (s_0 ++ [[Z3 n4]]) (n_1 && false) (s_1 ++ [[Z6 n3]]) x71 x8 x9 n_01 s_01 n_11 s_11 → if (decide (x9 > 0) && x8 != 0) = true then aO s_11 (IntKind.i64.wrap (x9 - 1)) 1 ∧ ∃ (n5
 : Int), (List.drop 0 (s_11.getD (IntKind.i64.wrap (x9 - 1)).toNat [])).head? = some (Z6 n5) ∧ if decide (n5 > x8) = true then aO s_01 (IntKind.i64.wrap (x9 - 1)) 1 ∧ ∃ (n6 : Int), (List.drop 0 (s_01.getD (IntKind.i64.wrap (x9 - 1)).toNat
 [])).head? = some (Z3 n6) ∧ aO s_01 x9 1 ∧ (1 = 1 ∧ 1 ≤ (s_01.getD x9.toNat []).length) ∧ aO s_11 (IntKind.i64.wrap (x9 - 1)) 1 ∧ ∃ (n7 : Int), (List.drop 0 (s_11.getD (IntKind.i64.wrap (x9 - 1)).toNat [])).head? = some (Z6 n7) ∧
 aO s_11 x9 1 ∧ (1 = 1 ∧ 1 ≤ (s_11.getD x9.toNat []).length) ∧ aO ss x71 1 ∧ ∃ (n8 : Int), (ss.getD x71.toNat []).head? = some (Z3 n8) ∧ aO (s_01.set x9.toNat (Z3 n6 :: List.append._f [] PUnit.unit (List.drop 1 (s_01.getD x9.toNat
 [])))) (IntKind.i64.wrap (x9 - 1)) 1 ∧ (1 = 1 ∧ 1 ≤ ((s_01.set x9.toNat (Z3 n6 :: List.append._f [] PUnit.unit (List.drop 1 (s_01.getD x9.toNat [])))).getD (IntKind.i64.wrap (x9 - 1)).toNat []).length) ∧ aO (s_11.set x9.toNat (Z6 n7 ::
 List.append._f [] PUnit.unit (List.drop 1 (s_11.getD x9.toNat [])))) (IntKind.i64.wrap (x9 - 1)) 1 ∧ (1 = 1 ∧ 1 ≤ ((s_11.set x9.toNat (Z6 n7 :: List.append._f [] PUnit.unit (List.drop 1 (s_11.getD x9.toNat [])))).getD (IntKind.i64.wrap (x9
 - 1)).toNat []).length) ∧ aB (zV n f es n2 f2 ss x71 x8 (IntKind.i64.wrap (x9 - 1)) n_01 ((s_01.set x9.toNat (Z3 n6 :: List.append._f [] PUnit.unit (List.drop 1 (s_01.getD x9.toNat [])))).set (IntKind.i64.wrap (x9 - 1)).toNat (Z3 n8
 :: List.append._f [] PUnit.unit (List.drop 1 ((s_01.set x9.toNat (Z3 n6 :: List.append._f [] PUnit.unit (List.drop 1 (s_01.getD x9.toNat [])))).getD (IntKind.i64.wrap (x9 - 1)).toNat [])))) n_11 ((s_11.set x9.toNat (Z6 n7 :: List.append._f
 [] PUnit.unit (List.drop 1 (s_11.getD x9.toNat [])))).set (IntKind.i64.wrap (x9 - 1)).toNat (Z6 x8 :: List.append._f [] PUnit.unit (List.drop 1 ((s_11.set x9.toNat (Z6 n7 :: List.append._f [] PUnit.unit (List.drop 1 (s_11.getD x9.toNat
 [])))).getD (IntKind.i64.wrap (x9 - 1)).toNat []))))) ∧ J2 x7 n3 (↑s_0.length : Int) (n_0 && false) (s_0 ++ [[Z3 n4]]) (n_1 && false) (s_1 ++ [[Z6 n3]]) x71 x8 (IntKind.i64.wrap (x9 - 1)) n_01 ((s_01.set x9.toNat (Z3 n6 :: List.append._f []
 PUnit.unit (List.drop 1 (s_01.getD x9.toNat [])))).set (IntKind.i64.wrap (x9 - 1)).toNat (Z3 n8 :: List.append._f [] PUnit.unit (List.drop 1 ((s_01.set x9.toNat (Z3 n6 :: List.append._f [] PUnit.unit (List.drop 1 (s_01.getD x9.toNat
 [])))).getD (IntKind.i64.wrap (x9 - 1)).toNat [])))) n_11 ((s_11.set x9.toNat (Z6 n7 :: List.append._f [] PUnit.unit (List.drop 1 (s_11.getD x9.toNat [])))).set (IntKind.i64.wrap (x9 - 1)).toNat (Z6 x8 :: List.append._f [] PUnit.unit
 (List.drop 1 ((s_11.set x9.toNat (Z6 n7 :: List.append._f [] PUnit.unit (List.drop 1 (s_11.getD x9.toNat [])))).getD (IntKind.i64.wrap (x9 - 1)).toNat [])))) ∧ μ2 x71 x8 (IntKind.i64.wrap (x9 - 1)) n_01 ((s_01.set x9.toNat (Z3 n6 ::
 List.append._f [] PUnit.unit (List.drop 1 (s_01.getD x9.toNat [])))).set (IntKind.i64.wrap (x9 - 1)).toNat (Z3 n8 :: List.append._f [] PUnit.unit (List.drop 1 ((s_01.set x9.toNat (Z3 n6 :: List.append._f [] PUnit.unit (List.drop 1
 (s_01.getD x9.toNat [])))).getD (IntKind.i64.wrap (x9 - 1)).toNat [])))) n_11 ((s_11.set x9.toNat (Z6 n7 :: List.append._f [] PUnit.unit (List.drop 1 (s_11.getD x9.toNat [])))).set (IntKind.i64.wrap (x9 - 1)).toNat (Z6 x8 :: List.append._f
 [] PUnit.unit (List.drop 1 ((s_11.set x9.toNat (Z6 n7 :: List.append._f [] PUnit.unit (List.drop 1 (s_11.getD x9.toNat [])))).getD (IntKind.i64.wrap (x9 - 1)).toNat [])))) < μ2 x71 x8 x9 n_01 s_01 n_11 s_11 else aB (sV n f es n2 f2 ss
 (IntKind.i64.wrap (x71 + 1)) n_01 s_01 n_11 s_11) ∧ J (IntKind.i64.wrap (x71 + 1)) n_01 s_01 n_11 s_11 ∧ μ (IntKind.i64.wrap (x71 + 1)) n_01 s_01 n_11 s_11 < μ x7 n_0 s_0 n_1 s_1 else aB (sV n f es n2 f2 ss (IntKind.i64.wrap (x71 +
 1)) n_01 s_01 n_11 s_11) ∧ J (IntKind.i64.wrap (x71 + 1)) n_01 s_01 n_11 s_11 ∧ μ (IntKind.i64.wrap (x71 + 1)) n_01 s_01 n_11 s_11 < μ x7 n_0 s_0 n_1 s_1 else R (PV.sl n_0 false s_0)
theorem zoh (n f : Bool) (es : LL) (n2 f2 : Bool) (ss : LL) (J : Int → Bool → (LL) → Bool → (LL) → Prop) (μ : Int → Bool → (LL) → Bool → (LL) → Nat) (J2 : Int → Int → Int → Bool → (LL) → Bool → (LL) → Int → Int → Int → Bool → (LL) → Bool → (LL) → Prop) (μ2 : Int → Int → Int → Bool → (LL) → Bool → (LL) → Nat) {R : PV → Prop} (h : zW n f es n2 f2 ss J μ J2 μ2 R) : PCall Try.prog 79 [.sl n f es, .sl n2 f2 ss] R :=
  PCall.of Try.func79 (by kernel_rfl) (by kernel_rfl) (Nat.le_of_ble_eq_true (by kernel_rfl)) (Eq.mpr (by kernel_rfl : aW Try.prog (fun _ => none) Try.f79 [0, 1, 4, 5, 6, 7, 8, 9, 13, 49] (fun zz_ => match zz_ with | 4 => some ⟨Int × Bool × (LL) × Bool × (LL), fun s => sV n f es n2 f2 ss s.1 s.2.1 s.2.2.1 s.2.2.2.1 s.2.2.2.2, fun _ s => J s.1 s.2.1 s.2.2.1 s.2.2.2.1 s.2.2.2.2, fun s => μ s.1 s.2.1 s.2.2.1 s.2.2.2.1 s.2.2.2.2, fun e h => (gI e 7, oN h 0, oS h 0, oN h 1, oS h 1), [(5, 21, 1), (6, 3, 1)], [0, 1, 5, 6, 7], [], fun p => ∀ (x7 : Int) (n_0 : Bool) (s_0 : LL) (n_1 : Bool) (s_1 : LL), p (x7, n_0, s_0, n_1, s_1), fun p h s => h s.1 s.2.1 s.2.2.1 s.2.2.2.1 s.2.2.2.2⟩ | 10 => some ⟨Int × Int × Int × Bool × (LL) × Bool × (LL), fun s => zV n f es n2 f2 ss s.1 s.2.1 s.2.2.1 s.2.2.2.1 s.2.2.2.2.1 s.2.2.2.2.2.1 s.2.2.2.2.2.2, fun t s => J2 t.1 t.2.1 t.2.2.1 t.2.2.2.1 t.2.2.2.2.1 t.2.2.2.2.2.1 t.2.2.2.2.2.2 s.1 s.2.1 s.2.2.1 s.2.2.2.1 s.2.2.2.2.1 s.2.2.2.2.2.1 s.2.2.2.2.2.2, fun s => μ2 s.1 s.2.1 s.2.2.1 s.2.2.2.1 s.2.2.2.2.1 s.2.2.2.2.2.1 s.2.2.2.2.2.2, fun e h => (gI e 7, gI e 8, gI e 9, oN h 0, oS h 0, oN h 1, oS h 1), [], [0, 1, 5, 6, 7, 8, 9], [], fun p => ∀ (x7 : Int) (x8 : Int) (x9 : Int) (n_0 : Bool) (s_0 : LL) (n_1 : Bool) (s_1 : LL), p (x7, x8, x9, n_0, s_0, n_1, s_1), fun p h s => h s.1 s.2.1 s.2.2.1 s.2.2.2.1 s.2.2.2.2.1 s.2.2.2.2.2.1 s.2.2.2.2.2.2⟩ | _ => none) (Try.f79.body.getD .skip) [.sl n f es, .sl n2 f2 ss] R = zW n f es n2 f2 ss J μ J2 μ2 R) h)

def zX (tc tg tj tf tp : PV) (M S : List (PV × PV)) (n f : Bool) (es : LL) (x12 : Int) (h0_0 : PV) (n_1 : Bool) (s_1 : LL) : Env × Hp := ([(0, LV.pv (PV.ptr [tc, tg, tj, tf, tp, PV.mp M, PV.mp S])), (5, LV.box 0 0), (10, LV.pv (PV.sl n f es)), (11, LV.pv (PV.int IntKind.i64 ↑es.length)), (12, .pv (.int IntKind.i64 x12))], [.box [.pv h0_0, LV.own 1], .sl (21, 1) true n_1 s_1])
def zY (tc tg tj tf tp : PV) (M S : List (PV × PV)) (n f : Bool) (es : LL) (J : Int → PV → Bool → (LL) → Prop) (μ : Int → PV → Bool → (LL) → Nat) (R : PV → Prop) : Prop :=
 dS (PV.ptr [tc, tg, tj, tf, tp, PV.mp M, PV.mp S]) = true ∧ (aB (zX tc tg tj tf tp M S n f es (0 : Int) (PV.ptr [tc, tg, tj, tf, tp, PV.mp M, PV.mp S]) true []) ∧ J (0 : Int) (PV.ptr [tc, tg, tj, tf, tp, PV.mp M, PV.mp S]) true [])
 ∧ ∀ (x12 : Int) (h0_0 : PV) (n_1 : Bool) (s_1 : LL), J x12 h0_0 n_1 s_1 → if decide (x12 < (↑es.length : Int)) = true then aO es x12 1 ∧ ∃ (n1 : Int), (es.getD x12.toNat []).head? = some (Z3 n1) ∧ ACall Try.prog 43 [LV.box 0 0, LV.pv (Z3
 n1), Y6 8] [Ob.box [LV.pv h0_0, LV.own 1], Ob.sl (21, 1) false n_1 s_1] fun (r : LV) (h' : Hp) ↦ ∃ (t : Bool × LL), (r = LV.tup [] ∧ h' = [Ob.box [LV.pv h0_0, LV.own 1], Ob.sl (21, 1) true t.fst t.snd]) ∧ (True ∧ True ∧ True) ∧ aB (zX
 tc tg tj tf tp M S n f es (IntKind.i64.wrap (x12 + 1)) h0_0 t.fst t.snd) ∧ J (IntKind.i64.wrap (x12 + 1)) h0_0 t.fst t.snd ∧ μ (IntKind.i64.wrap (x12 + 1)) h0_0 t.fst t.snd < μ x12 h0_0 n_1 s_1 else PCall Try.prog 44 [PV.ptr [tc, tg, tj,
 tf, tp, PV.mp M, PV.mp S], PV.sl n_1 false s_1] fun (v : PV) ↦ ∃ (n1 : Bool), ∃ (f1 : Bool), ∃ (es1 : LL), v = PV.sl n1 f1 es1 ∧ R (PV.sl n1 f1 es1)
theorem zoi (tc tg tj tf tp : PV) (M S : List (PV × PV)) (n f : Bool) (es : LL) (J : Int → PV → Bool → (LL) → Prop) (μ : Int → PV → Bool → (LL) → Nat) {R : PV → Prop} (h : zY tc tg tj tf tp M S n f es J μ R) : PCall Try.prog 16 [.ptr [tc, tg, tj, tf, tp, .mp M, .mp S], .sl n f es] R :=
  PCall.of Try.func16 (by kernel_rfl) (by kernel_rfl) (Nat.le_of_ble_eq_true (by kernel_rfl)) (Eq.mpr (by kernel_rfl : aW Try.prog (fun zz_ => match zz_ with | 43 => some ⟨Bool × LL, fun _ hs t => (.tup [], match hs with | [.box (x :: _), .sl ty _ _ _] => [.box [x, .own 1], .sl ty true t.1 t.2] | [.box (x :: _)] => [.box [x, .own 1], .sl (21, 1) true t.1 t.2] | h => h), none⟩ | _ => none) Try.f16 [0, 1, 4, 5, 7, 10, 11, 12, 13] (fun zz_ => match zz_ with | 3 => some ⟨Int × PV × Bool × (LL), fun s => zX tc tg tj tf tp M S n f es s.1 s.2.1 s.2.2.1 s.2.2.2, fun _ s => J s.1 s.2.1 s.2.2.1 s.2.2.2, fun s => μ s.1 s.2.1 s.2.2.1 s.2.2.2, fun e h => (gI e 12, hP h 0 0, oN h 1, oS h 1), [(1000001, 21, 1)], [0, 5, 10, 11, 12], [], fun p => ∀ (x12 : Int) (h0_0 : PV) (n_1 : Bool) (s_1 : LL), p (x12, h0_0, n_1, s_1), fun p h s => h s.1 s.2.1 s.2.2.1 s.2.2.2⟩ | _ => none) (Try.f16.body.getD .skip) [.ptr [tc, tg, tj, tf, tp, .mp M, .mp S], .sl n f es] R = zY tc tg tj tf tp M S n f es J μ R) h)

def sW (n f : Bool) (es : LL) (n2 f2 : Bool) (ss : LL) (x6 : Int) (n_0 : Bool) (s_0 : LL) : Env × Hp := ([(0, LV.pv (PV.sl n f es)), (1, LV.pv (PV.sl n2 f2 ss)), (5, LV.own 0), (6, .pv (.int IntKind.i64 x6))], [.sl (21, 1) true n_0 s_0])
def zZ (n f : Bool) (es : LL) (n2 f2 : Bool) (ss : LL) (J : Int → Bool → (LL) → Prop) (μ : Int → Bool → (LL) → Nat) (R : PV → Prop) : Prop :=
 (aB (sW n f es n2 f2 ss (0 : Int) true []) ∧ J (0 : Int) true []) ∧ ∀ (x6 : Int) (n_0 : Bool) (s_0 : LL), J x6 n_0 s_0 → if decide (x6 < (↑ss.length : Int)) = true then aO ss x6 1 ∧ ∃ (n1 : Int), (ss.getD x6.toNat []).head? = some
 (Z3 n1) ∧ ACall Try.prog 78 [LV.pv (PV.sl n f es), LV.pv (Z3 n1), Y6 8] [] fun (r : LV) (h' : Hp) ↦ (∃ (t : Bool × LL), (r = LV.own 0 ∧ h' = [Ob.sl (21, 1) true t.fst t.snd]) ∧ True ∧ (aR t.snd 1 ∧ (s_0.length + t.snd.length) * 4 ≤
 140737488355328) ∧ aB (sW n f es n2 f2 ss (IntKind.i64.wrap (x6 + 1)) (n_0 && t.snd.isEmpty) (s_0 ++ t.snd)) ∧ J (IntKind.i64.wrap (x6 + 1)) (n_0 && t.snd.isEmpty) (s_0 ++ t.snd) ∧ μ (IntKind.i64.wrap (x6 + 1)) (n_0 && t.snd.isEmpty)
 (s_0 ++ t.snd) < μ x6 n_0 s_0) ∨ ∃ (t : LL), (r = LV.pv (PV.sl false true t) ∧ h' = []) ∧ True ∧ (aR t 1 ∧ (s_0.length + t.length) * 4 ≤ 140737488355328) ∧ aB (sW n f es n2 f2 ss (IntKind.i64.wrap (x6 + 1)) (n_0 && t.isEmpty) (s_0
 ++ t)) ∧ J (IntKind.i64.wrap (x6 + 1)) (n_0 && t.isEmpty) (s_0 ++ t) ∧ μ (IntKind.i64.wrap (x6 + 1)) (n_0 && t.isEmpty) (s_0 ++ t) < μ x6 n_0 s_0 else PCall Try.prog 79 [PV.sl n f es, PV.sl n_0 false s_0] fun (v : PV) ↦ ∃ (n1 : Bool), ∃ (f1
 : Bool), ∃ (es1 : LL), v = PV.sl n1 f1 es1 ∧ R (PV.sl n1 f1 es1)
theorem zoj (n f : Bool) (es : LL) (n2 f2 : Bool) (ss : LL) (J : Int → Bool → (LL) → Prop) (μ : Int → Bool → (LL) → Nat) {R : PV → Prop} (h : zZ n f es n2 f2 ss J μ R) : PCall Try.prog 49 [.sl n f es, .sl n2 f2 ss] R :=
  PCall.of Try.func49 (by kernel_rfl) (by kernel_rfl) (Nat.le_of_ble_eq_true (by kernel_rfl)) (Eq.mpr (by kernel_rfl : aW Try.prog (fun zz_ => match zz_ with | 78 => some ⟨Bool × LL, fun _ hs t => (.own hs.length, hs ++ [.sl (21, 1) true t.1 t.2]), some ⟨LL, fun _ hs t => (.pv (.sl false true t), hs)⟩⟩ | _ => none) Try.f49 [0, 1, 4, 5, 6, 10] (fun zz_ => match zz_ with | 3 => some ⟨Int × Bool × (LL), fun s => sW n f es n2 f2 ss s.1 s.2.1 s.2.2, fun _ s => J s.1 s.2.1 s.2.2, fun s => μ s.1 s.2.1 s.2.2, fun e h => (gI e 6, oN h 0, oS h 0), [(5, 21, 1)], [0, 1, 5, 6], [], fun p => ∀ (x6 : Int) (n_0 : Bool) (s_0 : LL), p (x6, n_0, s_0), fun p h s => h s.1 s.2.1 s.2.2⟩ | _ => none) (Try.f49.body.getD .skip) [.sl n f es, .sl n2 f2 ss] R = zZ n f es n2 f2 ss J μ R) h)

def z7 (n f : Bool) (es : LL) (n2 f2 : Bool) (ss : LL) (x13 : Int) : Env × Hp := ([(0, LV.pv (PV.sl n f es)), (1, LV.pv (PV.sl n2 f2 ss)), (12, LV.pv (PV.int IntKind.i64 ↑es.length)), (13, .pv (.int IntKind.i64 x13))], [])
def sX (n f : Bool) (es : LL) (n2 f2 : Bool) (ss : LL) (J : Int → Prop) (μ : Int → Nat) (R : PV → Prop) : Prop :=
 if ((↑es.length : Int) != (↑ss.length : Int)) = true then R (Zb false) else (aB (z7 n f es n2 f2 ss (0 : Int)) ∧ J (0 : Int)) ∧ ∀ (x13 : Int), J x13 → if decide (x13 < (↑es.length : Int)) = true then aO es x13 1 ∧ ∃ (n1 : Int),
 (es.getD x13.toNat []).head? = some (Z3 n1) ∧ aO ss x13 1 ∧ ∃ (n3 : Int), (ss.getD x13.toNat []).head? = some (Z3 n3) ∧ if (n1 != n3) = true then R (Zb false) else aB (z7 n f es n2 f2 ss (IntKind.i64.wrap (x13 + 1))) ∧ J
 (IntKind.i64.wrap (x13 + 1)) ∧ μ (IntKind.i64.wrap (x13 + 1)) < μ x13 else R (Zb true)
theorem zok (n f : Bool) (es : LL) (n2 f2 : Bool) (ss : LL) (J : Int → Prop) (μ : Int → Nat) {R : PV → Prop} (h : sX n f es n2 f2 ss J μ R) : PCall Try.prog 48 [.sl n f es, .sl n2 f2 ss] R :=
  PCall.of Try.func48 (by kernel_rfl) (by kernel_rfl) (Nat.le_of_ble_eq_true (by kernel_rfl)) (Eq.mpr (by kernel_rfl : aW Try.prog (fun _ => none) Try.f48 [0, 1, 4, 5, 10, 12, 13, 14, 24] (fun zz_ => match zz_ with | 4 => some ⟨Int × Unit, fun s => z7 n f es n2 f2 ss s.1, fun _ s => J s.1, fun s => μ s.1, fun e h => (((gI e 13), ())), [], [0, 1, 12, 13], [], fun p => ∀ (x13 : Int), p (x13, ()), fun p h s => h s.1⟩ | _ => none) (Try.f48.body.getD .skip) [.sl n f es, .sl n2 f2 ss] R = sX n f es n2 f2 ss J μ R) h)

def z8 (n f : Bool) (es : LL) (n2 f2 : Bool) (ss : LL) (n3 f3 : Bool) (s3 : LL) (R : PV → Prop) : Prop :=
 PCall Try.prog 49 [PV.sl n f es, PV.sl n2 f2 ss] fun (v : PV) ↦ ∃ (n1 : Bool), ∃ (f1 : Bool), ∃ (es1 : LL), v = PV.sl n1 f1 es1 ∧ PCall Try.prog 49 [PV.sl n f es, PV.sl n3 f3 s3] fun (v1 : PV) ↦ ∃ (n4 : Bool), ∃ (f4 : Bool), ∃ (es2 : LL),
 v1 = PV.sl n4 f4 es2 ∧ PCall Try.prog 15 [PV.sl n1 f1 es1, PV.sl n4 f4 es2] fun (v2 : PV) ↦ ∃ (b : Bool), v2 = Zb b ∧ R (Zb b)
theorem zol (n f : Bool) (es : LL) (n2 f2 : Bool) (ss : LL) (n3 f3 : Bool) (s3 : LL) {R : PV → Prop} (h : z8 n f es n2 f2 ss n3 f3 s3 R) : PCall Try.prog 22 [.sl n f es, .sl n2 f2 ss, .sl n3 f3 s3] R :=
  PCall.of Try.func22 (by kernel_rfl) (by kernel_rfl) (Nat.le_of_ble_eq_true (by kernel_rfl)) (Eq.mpr (by kernel_rfl : aW Try.prog (fun _ => none) Try.f22 [0, 1, 2, 6] (fun _ => none) (Try.f22.body.getD .skip) [.sl n f es, .sl n2 f2 ss, .sl n3 f3 s3] R = z8 n f es n2 f2 ss n3 f3 s3 R) h)

end Go.Eng



namespace Go.Eng.Rows
open Go Go.Eng Go.Eng.Trie
def pI (rows : List Row) : Bool → Int → List Int → Int
  | m, _, [] => if m then 2 else 0
  | m, last, r :: l => if (decide (ofQ rows r = 1) || (!decide (aH rows 1 r = 0) && decide (aH rows 1 r < last))) then 1 else pI rows (m || decide (ofQ rows r = 2)) (aH rows 1 r) l
def zom (rows : List Row) : Bool := rows.all fun x => !decide (x.kind = 2) || ((decide (1 ≤ x.a) && decide (x.a ≤ 1114111)) && (decide (0 ≤ x.b) && decide (x.b ≤ 1114111)))
theorem zon {rows : List Row} (h : zom rows = true) : dA rows := fun x hx hk => by
  have := List.all_eq_true.1 h x hx
  simpa [hk] using this
def zoo (rows : List Row) : Bool := rows.all fun x => !decide (x.kind = 1) || decide (0 ≤ x.a)
def d0 (rows : List Row) : Prop := ∀ r, 0 ≤ aH rows 1 r
theorem zop {rows : List Row} (h : zoo rows = true) : d0 rows := fun r => by
  unfold aH
  cases hf : bU rows 1 r with
  | none => exact Int.le_refl _
  | some p =>
    obtain ⟨x, hx, hk, ha, _⟩ := mM hf
    have := List.all_eq_true.1 h x hx
    simp only [hk, decide_true, Bool.not_true, Bool.false_or, decide_eq_true_eq] at this
    simp only; omega
end Go.Eng.Rows



namespace Go.Eng
open Go Go.Proofs Go.Eng.Rows Go.Eng.Trie
theorem pJ : dA tab := zon (by kernel_rfl)
theorem sY : d0 tab := zop (by kernel_rfl)
theorem q1 : pI tab false 0 [101, 769] = 2 := by kernel_rfl
theorem q2 : pI tab false 0 [233] = 0 := by kernel_rfl
theorem q3 : pI tab false 0 [769, 807] = 1 := by kernel_rfl
theorem q4 : pI tab false 0 [8491] = 1 := by kernel_rfl
theorem q5 : zB tab 101 = true := by kernel_rfl
theorem q6 : zB tab 769 = false := by kernel_rfl
theorem q7 : zB tab 4449 = false := by kernel_rfl
end Go.Eng



namespace Go.Eng.Rows
open Go Go.Eng Go.Eng.Trie Go.Eng.Srt
def bX (rows : List Row) (l : List Int) : List Int := bK (aH rows 1) (l.flatMap (aN rows 8))
def c4 (rows : List Row) (x : Int) : Bool := !bV x && decide (aF rows x = (0, 0))
def zoq (rows : List Row) : Prop := ∀ r, ∀ x ∈ aN rows 8 r, c4 rows x = true
theorem zor {rows : List Row} {r : Int} {p : Int × Int} (h : bU rows 2 r = some p) : ∃ x ∈ rows, x.kind = 2 ∧ x.fr ≤ r ∧ r ≤ x.to := by
  obtain ⟨x, h1, h2, _, _, h3, h4, _⟩ := mM h
  exact ⟨x, h1, h2, h3, h4⟩
theorem sZ {rows : List Row} {x : Int} (h : c4 rows x = true) (d : Nat) : aN rows d x = [x] := by
  simp only [c4, Bool.and_eq_true, Bool.not_eq_true', decide_eq_true_eq] at h
  exact mO h.1 h.2
theorem zfv {rows : List Row} : ∀ {l : List Int}, (∀ x ∈ l, c4 rows x = true) → l.flatMap (aN rows 8) = l
  | [], _ => rfl
  | x :: l, h => by
    rw [List.flatMap_cons, sZ (h x List.mem_cons_self), zfv fun y hy => h y (List.mem_cons_of_mem _ hy)]; rfl
section
variable {rows : List Row} (hk : d0 rows)
include hk
theorem zfw (l : List Int) : (bX rows l).length ≤ 768 * l.length := by
  unfold bX
  rw [← (sQ hk _).len]
  induction l with
  | nil => simp
  | cons x l ih =>
    have := hE rows 8 x
    rw [List.flatMap_cons, List.length_append, List.length_cons]; omega
end
end Go.Eng.Rows



namespace Go.Eng
open Go Go.Proofs Go.Eng.Rows Go.Eng.Trie
end Go.Eng



namespace Go.Eng
open Go Go.Proofs Go.Eng.Rows Go.Eng.Trie
end Go.Eng



namespace Go.Eng
open Go Go.Proofs Go.Eng.Rows Go.Eng.Trie Go.Eng.Srt
theorem PCall.ofA {P : Program} {f : Nat} {args : List PV} {Q : LV → Hp → Prop} {R : PV → Prop} (hc : ACall P f (args.map .pv) [] Q) (hq : ∀ r h', Q r h' → ∃ p, gO h' r = some p ∧ R p) : PCall P f args R :=
  ⟨hc.1, fun w I G cargs h1 h2 h3 => (hc.2 w I G cargs h1 h2 h3).mono fun e w' ⟨cv, r, h', I', G', e1, e2, e3, e4, e5⟩ => by
    obtain ⟨p, hp, hR⟩ := hq r h' e2
    have ht := e5.t
    have hno : ∀ b, ¬ aU [] G b := fun b ⟨o, ob, ho, _⟩ => by simp at ho
    exact ⟨cv, .pv p, [], AllB I' h' G', G', e1, ⟨p, rfl, hR⟩, HRel.nil G' (fun b hb => hb.elim (e3.cl b) e3.blk_lt), .pv _ _ (nO e3 e4 hp),
      ⟨⟨ht.os, ht.tape, ht.output, ht.size, ht.keep, fun b hb => .inl (ht.i1 b hb), fun b hb => hb.elim (ht.i2 b) (fun ho => (ht.own2 b ho).elim (fun x => absurd x (hno b)) (fun x => .inr (.inr x))), fun b hb => absurd hb (fun ⟨o, ob, ho, _⟩ => by simp at ho), ht.frz, ht.drawn⟩, Nat.le_refl _, fun o ob ho => by simp at ho⟩⟩⟩
theorem zos (n f : Bool) (l : List Int) (k : Nat) (hk : k < 1000) : PCall Try.prog 10 [.sl n f (aA l), .int .i64 k] fun v => ∃ n f, v = .sl n f (aA (l.take k)) := by
  refine zof _ _ _ _ ?_; unfold zT
  refine aI (fun hc => ?_) (fun hc => ?_)
  · simp only [decide_eq_true_eq, bG] at hc
    refine ⟨⟨by unfold dC; simp; omega, dE _⟩, n, _, by rw [show ((k : Int)).toNat = k by omega]; simp only [aA, List.map_take, List.drop_zero]; rfl⟩
  · simp only [decide_eq_true_eq, bG] at hc
    rw [List.take_of_length_le (by omega)]
    exact ⟨_, _, rfl⟩
theorem zot (n f n2 f2 : Bool) (l m : List Int) (hl : l.length < 1000000000000) : sU n f (aA l) n2 f2 (aA m) (fun i => 0 ≤ i ∧ i ≤ l.length ∧ l.take i.toNat = m.take i.toNat) (fun i => l.length - i.toNat) fun v => v = .bool (decide (l = m)) := by
  unfold sU
  refine aI (fun hc => ?_) (fun hc => ?_)
  · simp only [bG, bne_iff_ne, ne_eq] at hc
    have : l ≠ m := fun e => hc (by rw [e])
    simp [this]
  · simp only [bG, bne_iff_ne, ne_eq, Decidable.not_not] at hc
    have hlm : l.length = m.length := by omega
    refine ⟨⟨rfl, Int.le_refl _, by omega, rfl⟩, ?_⟩
    rintro i ⟨i0, i1, he⟩
    refine aI (fun h => ?_) (fun h => ?_)
    · simp only [decide_eq_true_eq, bG] at h
      have hi : i.toNat < l.length := by omega
      have hj : i.toNat < m.length := by omega
      obtain ⟨g1, g2⟩ := j7 i0 hi
      obtain ⟨k1, k2⟩ := j7 i0 hj
      have hw : IntKind.i64.wrap (i + 1) = i + 1 := aD (by omega) (by omega)
      refine ⟨g1, l[i.toNat], by rw [g2]; rfl, k1, m[i.toNat], by rw [k2]; rfl, aI (fun hc2 => ?_) (fun hc2 => ?_)⟩
      · simp only [bne_iff_ne, ne_eq] at hc2
        have : l ≠ m := fun e => hc2 (by subst e; rfl)
        simp [this]
      · simp only [bne_iff_ne, ne_eq, Decidable.not_not] at hc2
        rw [hw]
        exact ⟨rfl, ⟨by omega, by omega, by rw [show (i + 1).toNat = i.toNat + 1 by omega, cZ hi, cZ hj, he, hc2]⟩, by dsimp only; omega⟩
    · simp only [decide_eq_true_eq, bG] at h
      rw [List.take_of_length_le (by omega), List.take_of_length_le (by omega)] at he
      simp [he]
theorem zou (n f n2 f2 : Bool) (l m : List Int) (hl : l.length < 1000000000000) : sX n f (aA l) n2 f2 (aA m) (fun i => 0 ≤ i ∧ i ≤ l.length ∧ l.take i.toNat = m.take i.toNat) (fun i => l.length - i.toNat) fun v => v = .bool (decide (l = m)) := by
  unfold sX
  refine aI (fun hc => ?_) (fun hc => ?_)
  · simp only [bG, bne_iff_ne, ne_eq] at hc
    have : l ≠ m := fun e => hc (by rw [e])
    simp [this]
  · simp only [bG, bne_iff_ne, ne_eq, Decidable.not_not] at hc
    have hlm : l.length = m.length := by omega
    refine ⟨⟨rfl, Int.le_refl _, by omega, rfl⟩, ?_⟩
    rintro i ⟨i0, i1, he⟩
    refine aI (fun h => ?_) (fun h => ?_)
    · simp only [decide_eq_true_eq, bG] at h
      have hi : i.toNat < l.length := by omega
      have hj : i.toNat < m.length := by omega
      obtain ⟨g1, g2⟩ := j7 i0 hi
      obtain ⟨k1, k2⟩ := j7 i0 hj
      have hw : IntKind.i64.wrap (i + 1) = i + 1 := aD (by omega) (by omega)
      refine ⟨g1, l[i.toNat], by rw [g2]; rfl, k1, m[i.toNat], by rw [k2]; rfl, aI (fun hc2 => ?_) (fun hc2 => ?_)⟩
      · simp only [bne_iff_ne, ne_eq] at hc2
        have : l ≠ m := fun e => hc2 (by subst e; rfl)
        simp [this]
      · simp only [bne_iff_ne, ne_eq, Decidable.not_not] at hc2
        rw [hw]
        exact ⟨rfl, ⟨by omega, by omega, by rw [show (i + 1).toNat = i.toNat + 1 by omega, cZ hi, cZ hj, he, hc2]⟩, by dsimp only; omega⟩
    · simp only [decide_eq_true_eq, bG] at h
      rw [List.take_of_length_le (by omega), List.take_of_length_le (by omega)] at he
      simp [he]
theorem zov (n f n2 f2 : Bool) (l m : List Int) (hl : l.length < 1000000000000) : PCall Try.prog 15 [.sl n f (aA l), .sl n2 f2 (aA m)] fun v => v = .bool (decide (l = m)) :=
  zog _ _ _ _ _ _ _ _ (zot n f n2 f2 l m hl)
theorem zow (n f n2 f2 : Bool) (l m : List Int) (hl : l.length < 1000000000000) : PCall Try.prog 48 [.sl n f (aA l), .sl n2 f2 (aA m)] fun v => v = .bool (decide (l = m)) :=
  zok _ _ _ _ _ _ (fun i => 0 ≤ i ∧ i ≤ l.length ∧ l.take i.toNat = m.take i.toNat) (fun i => l.length - i.toNat) (zou n f n2 f2 l m hl)
section
variable {rows : List Row}
end
end Go.Eng



namespace Go.Eng
open Go Go.Proofs Go.Eng.Rows Go.Eng.Trie Go.Eng.Srt
section
variable {rows : List Row}
theorem set1 {es : List (List PV)} {k : Nat} {v x : PV} (h : es.getD k [] = [x]) : es.set k (v :: List.append._f [] PUnit.unit (List.drop 1 (es.getD k []))) = es.set k [v] := by rw [h]; rfl
theorem zaa (A : List Int) (x : Int) (B : List Int) : (aA (A ++ x :: B)).getD A.length [] = [.int .i32 x] := by
  rw [zc9 (by simp)]; simp
theorem zab (A : List Int) (x : Int) (B : List Int) : (aV (A ++ x :: B)).getD A.length [] = [.int .i64 x] := by
  simp [aV]
theorem zox (hk : d0 rows) (n f n2 f2 : Bool) (L : List Int) (hrl : rows.length < 1000000) (hL : L.length < 1000000000) (hr : R32 L) :
    PCall Try.prog 79 [.sl n f (bE rows), .sl n2 f2 (aA L)] fun v => ∃ n f, v = .sl n f (aA (bK (aH rows 1) L)) := by
  have olen : ∀ l, (bK (aH rows 1) l).length = l.length := fun l => ((sQ (key := aH rows 1) hk l).len).symm
  refine zoh _ _ _ _ _ _
    (fun i _ s0 _ s1 => 0 ≤ i ∧ i ≤ L.length ∧ s0 = aA (bK (aH rows 1) (L.take i.toNat)) ∧ s1 = aV ((bK (aH rows 1) (L.take i.toNat)).map (aH rows 1))) (fun i _ _ _ _ => L.length - i.toNat)
    (fun i0 _ _ _ _ _ _ i c k _ s0 _ s1 => i = i0 ∧ 0 ≤ i ∧ i.toNat < L.length ∧ ∃ x A B, L[i.toNat]? = some x ∧ c = aH rows 1 x ∧ k = (A.length : Nat) ∧ bK (aH rows 1) (L.take i.toNat) = A ++ B ∧ (∀ y ∈ B, dR (aH rows 1) x y = true) ∧ s0 = aA (A ++ x :: B) ∧ s1 = aV ((A ++ x :: B).map (aH rows 1))) (fun _ _ k _ _ _ _ => k.toNat) ?_
  unfold zW
  refine ⟨⟨rfl, Int.le_refl _, by omega, by simp [bK, aA], by simp [bK, aV]⟩, ?_⟩
  rintro i n0 _ n1 _ ⟨i0, i1, rfl, rfl⟩
  refine aI (fun hc => ?_) (fun hc => ?_)
  · simp only [decide_eq_true_eq, bG] at hc
    have hi : i.toNat < L.length := by omega
    obtain ⟨g1, g2⟩ := j7 i0 hi
    have hx := hr _ (List.getElem_mem hi)
    have hw : IntKind.i64.wrap (i + 1) = i + 1 := aD (by omega) (by omega)
    have hol := olen (L.take i.toNat)
    rw [List.length_take] at hol
    refine ⟨g1, L[i.toNat], by rw [g2]; rfl, ?_⟩
    refine (zni n f _ hrl hx).mono ?_
    rintro _ rfl
    refine ⟨_, rfl, g1, L[i.toNat], by rw [g2]; rfl, ⟨dE [_], by rw [bG]; omega⟩, ⟨rK (enc := fun n => [PV.int .i64 n]) (fun _ => rfl) [_], by rw [g9, List.length_map]; omega⟩, ⟨rfl, ?_⟩, ?_⟩
    · refine ⟨rfl, i0, hi, L[i.toNat], bK (aH rows 1) (L.take i.toNat), [], List.getElem?_eq_getElem hi, rfl, by simp, by simp, fun y hy => (by cases hy), by simp [aA], by simp [aV]⟩
    · rintro i' c k n01 _ n11 _ ⟨rfl, _, _, x, A, B, hxi, rfl, rfl, hord, hB, rfl, rfl⟩
      have hwi : IntKind.i64.wrap (i' + 1) = i' + 1 := aD (by omega) (by omega)
      have hAB : A.length + B.length = min i'.toNat L.length := by rw [← hol, hord, List.length_append]
      have hxe : L[i'.toNat] = x := (List.getElem?_eq_some_iff.1 hxi).2
      -- the end of the walk back
      have done : (A = [] ∨ ∃ A' z, A = A' ++ [z] ∧ dR (aH rows 1) x z = false) → 0 ≤ i' + 1 ∧ i' + 1 ≤ L.length ∧ aA (A ++ x :: B) = aA (bK (aH rows 1) (L.take (i' + 1).toNat)) ∧ aV ((A ++ x :: B).map (aH rows 1)) = aV ((bK (aH rows 1) (L.take (i' + 1).toNat)).map (aH rows 1)) := fun h => by
        have : bK (aH rows 1) (L.take (i' + 1).toNat) = A ++ x :: B := by
          rw [show (i' + 1).toNat = i'.toNat + 1 by omega, cZ hi, zN, hord, hxe, lL hB h]
        rw [this]
        exact ⟨by omega, by omega, rfl, rfl⟩
      have hmu : L.length - (i' + 1).toNat < L.length - i'.toNat := by omega
      refine aI (fun h1 => ?_) (fun h1 => ?_)
      · simp only [Bool.and_eq_true, decide_eq_true_eq, bne_iff_ne, ne_eq] at h1
        obtain ⟨A', z, rfl⟩ : ∃ A' z, A = A' ++ [z] := by
          rcases A.eq_nil_or_concat with rfl | ⟨D, z, rfl⟩
          · simp at h1
          · exact ⟨D, z, by simp⟩
        have lA : (A' ++ [z]).length = A'.length + 1 := by simp
        rw [lA] at hAB
        have hwk : IntKind.i64.wrap ((((A' ++ [z]).length : Nat) : Int) - 1) = (A'.length : Nat) := by rw [lA, aD (by omega) (by omega)]; omega
        have e0 : (A' ++ [z]) ++ x :: B = A' ++ z :: (x :: B) := by simp
        rw [hwk, e0]
        simp only [List.map_append, List.map_cons, Int.toNat_natCast]
        rw [lA]
        generalize hk2 : aH rows 1 = key at *
        have i1 : aO (aA (A' ++ z :: x :: B)) ((A'.length : Nat) : Int) 1 := bM (enc := fun n => [PV.int .i32 n]) (fun _ => rfl) (by omega) (by simp; omega)
        have i2 : aO (aA (A' ++ z :: x :: B)) ((A'.length + 1 : Nat) : Int) 1 := bM (enc := fun n => [PV.int .i32 n]) (fun _ => rfl) (by omega) (by simp; omega)
        have j1 : aO (aV (A'.map key ++ key z :: key x :: B.map key)) ((A'.length : Nat) : Int) 1 := bM kZ (by omega) (by simp; omega)
        have j2 : aO (aV (A'.map key ++ key z :: key x :: B.map key)) ((A'.length + 1 : Nat) : Int) 1 := bM kZ (by omega) (by simp; omega)
        have i3 : aO (aA (A' ++ z :: z :: B)) ((A'.length : Nat) : Int) 1 := bM (enc := fun n => [PV.int .i32 n]) (fun _ => rfl) (by omega) (by simp; omega)
        have j3 : aO (aV (A'.map key ++ key z :: key z :: B.map key)) ((A'.length : Nat) : Int) 1 := bM kZ (by omega) (by simp; omega)
        have gz := zaa A' z (x :: B)
        have gx : (aA (A' ++ z :: x :: B)).getD (A'.length + 1) [] = [.int .i32 x] := by have := zaa (A' ++ [z]) x B; simpa using this
        have hz : (aV (A'.map key ++ key z :: key x :: B.map key)).getD A'.length [] = [.int .i64 (key z)] := by have := zab (A'.map key) (key z) (key x :: B.map key); simpa using this
        have hx2 : (aV (A'.map key ++ key z :: key x :: B.map key)).getD (A'.length + 1) [] = [.int .i64 (key x)] := by have := zab (A'.map key ++ [key z]) (key x) (B.map key); simpa using this
        have gz2 := zaa A' z (z :: B)
        have hz2 : (aV (A'.map key ++ key z :: key z :: B.map key)).getD A'.length [] = [.int .i64 (key z)] := by have := zab (A'.map key) (key z) (key z :: B.map key); simpa using this
        have s1 : (aA (A' ++ z :: x :: B)).set (A'.length + 1) [.int .i32 z] = aA (A' ++ z :: z :: B) := by
          have := pD (A' ++ [z]) B x z
          have e : (aA (A' ++ z :: x :: B)).set (A'.length + 1) [.int .i32 z] = aA ((A' ++ z :: x :: B).set (A'.length + 1) z) := by simp [aA, List.map_set]
          rw [e]; simp at this ⊢
        have s2 : (aA (A' ++ z :: z :: B)).set A'.length [.int .i32 x] = aA (A' ++ x :: z :: B) := by simp [aA]
        have t1 : (aV (A'.map key ++ key z :: key x :: B.map key)).set (A'.length + 1) [.int .i64 (key z)] = aV (A'.map key ++ key z :: key z :: B.map key) := by simp [aV]
        have t2 : (aV (A'.map key ++ key z :: key z :: B.map key)).set A'.length [.int .i64 (key x)] = aV (A'.map key ++ key x :: key z :: B.map key) := by simp [aV]
        refine ⟨j1, key z, by rw [hz]; rfl, aI (fun h2 => ?_) (fun h2 => ?_)⟩
        · simp only [decide_eq_true_eq] at h2
          refine ⟨i1, z, by rw [gz]; rfl, i2, ⟨trivial, by rw [gx]; exact Nat.le_refl _⟩, j1, key z, by rw [hz]; rfl, j2, ⟨trivial, by rw [hx2]; exact Nat.le_refl _⟩, g1, x, by rw [g2, hxe]; rfl, ?_⟩
          rw [set1 gx, set1 hx2, s1, t1, set1 gz2, set1 hz2, s2, t2]
          refine ⟨i3, ⟨trivial, by rw [gz2]; exact Nat.le_refl _⟩, j3, ⟨trivial, by rw [hz2]; exact Nat.le_refl _⟩, rfl, ⟨trivial, i0, hi, x, A', z :: B, hxi, rfl, rfl, by rw [hord]; simp, fun y hy => ?_, rfl, by simp⟩, by simp⟩
          rcases List.mem_cons.1 hy with rfl | hy
          · exact mR.2 ⟨h1.2, h2⟩
          · exact hB y hy
        · simp only [decide_eq_true_eq] at h2
          rw [hwi]
          obtain ⟨d1, d2, d3, d4⟩ := done (.inr ⟨A', z, rfl, sP.2 (.inr (by omega))⟩)
          refine ⟨rfl, ⟨d1, d2, ?_, ?_⟩, hmu⟩
          · rw [← d3, e0]
          · rw [← d4]; simp
      · have hA : A = [] ∨ aH rows 1 x = 0 := by
          simp only [Bool.and_eq_true, decide_eq_true_eq, bne_iff_ne, ne_eq, not_and, Decidable.not_not] at h1
          by_cases hA : A = []
          · exact .inl hA
          · exact .inr (h1 (by have := List.length_pos_iff.2 hA; omega))
        rw [hwi]
        refine ⟨rfl, done ?_, hmu⟩
        rcases hA with h | h
        · exact .inl h
        · rcases A.eq_nil_or_concat with rfl | ⟨D, z, rfl⟩
          · exact .inl rfl
          · exact .inr ⟨D, z, by simp, sP.2 (.inl h)⟩
  · simp only [decide_eq_true_eq, bG] at hc
    rw [List.take_of_length_le (by omega)]
    exact ⟨_, _, rfl⟩
end
end Go.Eng



namespace Go.Eng
open Go Go.Proofs Go.Eng.Rows Go.Eng.Trie Go.Eng.Srt
theorem zfx : tab.length < 1000000 := by have := zlj; omega
theorem zfy (n f : Bool) : PCall Try.prog 11 [.sl n f (bE tab)] (lI tab) := znc n f tab zfx pJ
theorem R32.take {l : List Int} (h : R32 l) (k : Nat) : R32 (l.take k) := fun x hx => h x (List.mem_of_mem_take hx)
section
variable {rows : List Row} {v : PV}
theorem zoy {ts : List PV} {key : Int → Int} (hT : ∀ r : Int, (-2147483648 ≤ r ∧ r ≤ 2147483647) → PCall Try.prog 45 [.ptr ts, .int .i32 r] fun v => v = .int .i64 (key r)) : iA (.ptr ts) key := by
  intro a b ha hb
  refine zjq _ _ _ ?_; unfold vM
  refine .inl ⟨ts, rfl, .inl ⟨ts, rfl, ?_⟩⟩
  refine (hT a ha).mono ?_
  rintro _ rfl
  refine ⟨_, rfl, ?_⟩
  refine (hT b hb).mono ?_
  rintro _ rfl
  refine ⟨_, rfl, ?_⟩
  refine (p61 _ _).mono ?_
  rintro _ rfl
  refine ⟨_, rfl, _, rfl, ?_⟩
  unfold cmpS; split <;> (try split) <;> omega
theorem zoz (hk : d0 rows) (hv : lI rows v) (n f : Bool) (L : List Int) (hr : R32 L) (hL : L.length < 1000000000000) : PCall Try.prog 44 [v, .sl n f (aA L)] fun x => ∃ n f, x = .sl n f (aA (bK (aH rows 1) L)) := by
  obtain ⟨tc, tg, tj, tf, tp, made, sec, rfl, ht, hm⟩ := hv
  have hT : ∀ r : Int, (-2147483648 ≤ r ∧ r ≤ 2147483647) → PCall Try.prog 45 [.ptr [tc, tg, tj, tf, tp, .mp (dZ made), .mp (gG sec)], .int .i32 r] fun v => v = .int .i64 (aH rows 1 r) := fun r hr => y8 _ _ ht hr
  exact (zoe hk hT (zoy hT) L hr hL).mono fun x hx => ⟨_, _, hx⟩
theorem zfz (hp : dA rows) {l : List Int} (h : R32 l) : R32 (l.flatMap (aN rows 8)) := fun x hx => by
  obtain ⟨r, hr, h2⟩ := List.mem_flatMap.1 hx
  rcases zC hp 8 r x h2 with rfl | h3
  · exact h x hr
  · omega
theorem s6 (rows : List Row) (l : List Int) : (l.flatMap (aN rows 8)).length ≤ 768 * l.length := by
  induction l with
  | nil => simp
  | cons x l ih =>
    have := hE rows 8 x
    rw [List.flatMap_cons, List.length_append, List.length_cons]; omega
theorem zf0 (rows : List Row) {l : List Int} {i : Nat} (hi : i < l.length) : (l.take (i + 1)).flatMap (aN rows 8) = (l.take i).flatMap (aN rows 8) ++ aN rows 8 l[i] := by
  rw [cZ hi, List.flatMap_append]; simp
theorem zf1 (hp : dA rows) (hk : d0 rows) (hv : lI rows v) (n f : Bool) (L : List Int) (hr : R32 L) (hL : L.length < 1000000) : PCall Try.prog 16 [v, .sl n f (aA L)] fun x => ∃ n f, x = .sl n f (aA (bX rows L)) := by
  have hv' := hv
  obtain ⟨tc, tg, tj, tf, tp, made, sec, rfl, ht, hm⟩ := hv
  refine zoi _ _ _ _ _ _ _ _ _ _ (fun i h0 _ s => h0 = .ptr [tc, tg, tj, tf, tp, .mp (dZ made), .mp (gG sec)] ∧ 0 ≤ i ∧ i ≤ L.length ∧ s = aA ((L.take i.toNat).flatMap (aN rows 8))) (fun i _ _ _ => L.length - i.toNat) ?_
  unfold zY
  refine ⟨rfl, ⟨rfl, rfl, Int.le_refl _, by omega, rfl⟩, ?_⟩
  rintro i h0 n1 _ ⟨rfl, i0, i1, rfl⟩
  refine aI (fun hc => ?_) (fun hc => ?_)
  · simp only [decide_eq_true_eq, bG] at hc
    have hi : i.toNat < L.length := by omega
    obtain ⟨g1, g2⟩ := j7 i0 hi
    have hx := hr _ (List.getElem_mem hi)
    have hw : IntKind.i64.wrap (i + 1) = i + 1 := aD (by omega) (by omega)
    have hfl := s6 rows (L.take i.toNat)
    rw [List.length_take] at hfl
    refine ⟨g1, L[i.toNat], by rw [g2]; rfl, ?_⟩
    refine (zfh _ _ hp ht 8 _ n1 _ (by omega) hx (by omega)).mono ?_
    rintro r h' ⟨nl, rfl, rfl⟩
    rw [hw]
    exact ⟨(nl, _), ⟨rfl, rfl⟩, ⟨trivial, trivial, trivial⟩, rfl, ⟨rfl, by omega, by omega, by rw [show (i + 1).toNat = i.toNat + 1 by omega, zf0 rows hi]; rfl⟩, by dsimp only; omega⟩
  · simp only [decide_eq_true_eq, bG] at hc
    rw [List.take_of_length_le (by omega)]
    have hfl := s6 rows L
    refine (zoz hk hv' n1 false _ (zfz hp hr) (by omega)).mono ?_
    rintro _ ⟨n2, f2, rfl⟩
    exact ⟨_, _, _, rfl, _, _, rfl⟩
theorem zf2 (hp : dA rows) (hk : d0 rows) (n f n2 f2 : Bool) (hrl : rows.length < 1000000) (L : List Int) (hr : R32 L) (hL : L.length < 1000000) : PCall Try.prog 49 [.sl n f (bE rows), .sl n2 f2 (aA L)] fun x => ∃ n f, x = .sl n f (aA (bX rows L)) := by
  refine zoj _ _ _ _ _ _ (fun i _ s => 0 ≤ i ∧ i ≤ L.length ∧ s = aA ((L.take i.toNat).flatMap (aN rows 8))) (fun i _ _ => L.length - i.toNat) ?_
  unfold zZ
  refine ⟨⟨rfl, Int.le_refl _, by omega, rfl⟩, ?_⟩
  rintro i n1 _ ⟨i0, i1, rfl⟩
  refine aI (fun hc => ?_) (fun hc => ?_)
  · simp only [decide_eq_true_eq, bG] at hc
    have hi : i.toNat < L.length := by omega
    obtain ⟨g1, g2⟩ := j7 i0 hi
    have hx := hr _ (List.getElem_mem hi)
    have hw : IntKind.i64.wrap (i + 1) = i + 1 := aD (by omega) (by omega)
    have hfl := s6 rows (L.take i.toNat)
    rw [List.length_take] at hfl
    have hf1 := hE rows 8 L[i.toNat]
    have he : aA ((L.take i.toNat).flatMap (aN rows 8)) ++ aA (aN rows 8 L[i.toNat]) = aA ((L.take (i + 1).toNat).flatMap (aN rows 8)) := by
      rw [show (i + 1).toNat = i.toNat + 1 by omega, zf0 rows hi, iZ]
    refine ⟨g1, L[i.toNat], by rw [g2]; rfl, ?_⟩
    rw [hw]
    refine (znj hp n f hrl 8 _ (by omega) hx).mono ?_
    rintro r h' (⟨nl, rfl, rfl⟩ | ⟨rfl, rfl⟩)
    · exact .inl ⟨(nl, _), ⟨rfl, rfl⟩, trivial, ⟨dE _, by simp only [bG, List.length_map]; omega⟩, rfl, ⟨by omega, by omega, he⟩, by dsimp only; omega⟩
    · exact .inr ⟨_, ⟨rfl, rfl⟩, trivial, ⟨dE _, by rw [bG, bG]; omega⟩, rfl, ⟨by omega, by omega, he⟩, by dsimp only; omega⟩
  · simp only [decide_eq_true_eq, bG] at hc
    rw [List.take_of_length_le (by omega)]
    have hfl := s6 rows L
    refine (zox hk n f n1 false _ hrl (by omega) (zfz hp hr)).mono ?_
    rintro _ ⟨n2, f2, rfl⟩
    exact ⟨_, _, _, rfl, _, _, rfl⟩
theorem zo0 (hk : d0 rows) {l : List Int} (h : l.length < 1000000) : (bX rows l).length < 1000000000000 := by
  have := zfw hk l; omega
theorem zo1 (hp : dA rows) (hk : d0 rows) (n f n1 f1 n2 f2 : Bool) (hrl : rows.length < 1000000) (a b : List Int) (ha : R32 a) (hb : R32 b) (la : a.length < 1000000) (lb : b.length < 1000000) :
    PCall Try.prog 22 [.sl n f (bE rows), .sl n1 f1 (aA a), .sl n2 f2 (aA b)] fun x => x = .bool (decide (bX rows a = bX rows b)) := by
  refine zol _ _ _ _ _ _ _ _ _ ?_; unfold z8
  refine (zf2 hp hk n f n1 f1 hrl a ha la).mono ?_
  rintro _ ⟨n3, f3, rfl⟩
  refine ⟨_, _, _, rfl, ?_⟩
  refine (zf2 hp hk n f n2 f2 hrl b hb lb).mono ?_
  rintro _ ⟨n4, f4, rfl⟩
  refine ⟨_, _, _, rfl, ?_⟩
  refine (zov _ _ _ _ _ _ (zo0 hk la)).mono ?_
  rintro _ rfl
  exact ⟨_, rfl, rfl⟩
end
end Go.Eng



namespace Go.Eng.Rows
open Go Go.Eng Go.Eng.Trie Go.Eng.Srt
def mS (a b : Int) : Option Int :=
  if (4352 ≤ a ∧ a < 4371) ∧ 4449 ≤ b ∧ b < 4470 then some (44032 + ((a - 4352) * 21 + (b - 4449)) * 28)
  else if (bV a = true ∧ (a - 44032) % 28 = 0) ∧ 4519 < b ∧ b < 4547 then some (a + (b - 4519)) else none
def i7 (rows : List Row) (a b : Int) (x : Row) : Bool := decide (x.kind = 2) && (decide (x.a = a) && (decide (x.b = b) && (!decide (b = 0) && !fR rows x.fr)))
def cmpS (rows : List Row) (a b : Int) (o : Option Int) (x : Row) : Option Int :=
  if i7 rows a b x then (match o with | none => some x.fr | some r => if x.fr < r then some x.fr else some r) else o
def zac (rows : List Row) (a b : Int) : Option Int := rows.foldl (cmpS rows a b) none
def lO (rows : List Row) (a b : Int) : Option Int := match mS a b with | some r => some r | none => zac rows a b
theorem zo2 (rows : List Row) (a b : Int) (l : List Row) : match l.foldl (cmpS rows a b) none with
    | none => ∀ x ∈ l, i7 rows a b x = false
    | some r => (∃ x ∈ l, i7 rows a b x = true ∧ x.fr = r) ∧ ∀ x ∈ l, i7 rows a b x = true → r ≤ x.fr := by
  have : ∀ (m : List Row), match m.reverse.foldl (cmpS rows a b) none with
    | none => ∀ x ∈ m, i7 rows a b x = false
    | some r => (∃ x ∈ m, i7 rows a b x = true ∧ x.fr = r) ∧ ∀ x ∈ m, i7 rows a b x = true → r ≤ x.fr := by
    intro m
    induction m with
    | nil => intro x hx; cases hx
    | cons y m ih =>
      rw [List.reverse_cons, List.foldl_append, List.foldl_cons, List.foldl_nil]
      generalize m.reverse.foldl (cmpS rows a b) none = o at ih
      unfold cmpS
      cases hc : i7 rows a b y with
      | false =>
        simp only [Bool.false_eq_true, if_false]
        cases o with
        | none => intro x hx; rcases List.mem_cons.1 hx with rfl | hx; exact hc; exact ih x hx
        | some r =>
          obtain ⟨⟨x, h1, h2⟩, h3⟩ := ih
          exact ⟨⟨x, List.mem_cons_of_mem _ h1, h2⟩, fun z hz hz2 => by rcases List.mem_cons.1 hz with rfl | hz; rw [hc] at hz2; cases hz2; exact h3 z hz hz2⟩
      | true =>
        simp only [if_true]
        cases o with
        | none =>
          refine ⟨⟨y, List.mem_cons_self, hc, rfl⟩, fun z hz hz2 => ?_⟩
          rcases List.mem_cons.1 hz with rfl | hz
          · exact Int.le_refl _
          · have := ih z hz; rw [this] at hz2; cases hz2
        | some r =>
          obtain ⟨⟨x, h1, h2, h4⟩, h3⟩ := ih
          by_cases hlt : y.fr < r
          · simp only [hlt, if_true]
            refine ⟨⟨y, List.mem_cons_self, hc, rfl⟩, fun z hz hz2 => ?_⟩
            rcases List.mem_cons.1 hz with rfl | hz
            · exact Int.le_refl _
            · have := h3 z hz hz2; omega
          · simp only [hlt, if_false]
            refine ⟨⟨x, List.mem_cons_of_mem _ h1, h2, h4⟩, fun z hz hz2 => ?_⟩
            rcases List.mem_cons.1 hz with rfl | hz
            · omega
            · exact h3 z hz hz2
  have h := this l.reverse
  rw [List.reverse_reverse] at h
  generalize l.foldl (cmpS rows a b) none = o at h ⊢
  cases o with
  | none => intro x hx; exact h x (List.mem_reverse.2 hx)
  | some r => exact ⟨by obtain ⟨⟨x, h1, h2⟩, _⟩ := h; exact ⟨x, List.mem_reverse.1 h1, h2⟩, fun x hx => h.2 x (List.mem_reverse.2 hx)⟩
theorem zf3 {rows : List Row} (h1 : sJ rows) {x : Row} (hx : x ∈ rows) (hk : x.kind = 2) : aF rows x.fr = (x.a, x.b) ∧ 0 ≤ x.fr ∧ x.fr ≤ 1114111 := by
  obtain ⟨e1, e2, e3⟩ := h1 x hx hk
  have hf : bU rows 2 x.fr = some (x.a, x.b) := by unfold bU; rw [if_pos e2]; exact e3
  exact ⟨by unfold aF; rw [hf], e2⟩
theorem zo3 {rows : List Row} (h1 : sJ rows) {r : Int} (h : aF rows r ≠ (0, 0)) : ∃ x ∈ rows, x.kind = 2 ∧ x.fr = r ∧ aF rows r = (x.a, x.b) := by
  cases hf : bU rows 2 r with
  | none => exact absurd (by unfold aF; rw [hf]) h
  | some p =>
    obtain ⟨y, hy, hk, f1, f2⟩ := zor hf
    obtain ⟨e1, _⟩ := h1 y hy hk
    have hr : y.fr = r := by omega
    have := (zf3 h1 hy hk).1
    rw [hr] at this
    exact ⟨y, hy, hk, hr, this⟩
theorem zo4 {rows : List Row} (h1 : sJ rows) {a b r : Int} (h : zac rows a b = some r) : aF rows r = (a, b) ∧ b ≠ 0 ∧ fR rows r = false ∧ (0 ≤ r ∧ r ≤ 1114111) ∧ ∃ x ∈ rows, x.kind = 2 ∧ x.fr = r := by
  have := zo2 rows a b rows
  unfold zac at h
  rw [h] at this
  obtain ⟨⟨x, hx, hc, rfl⟩, _⟩ := this
  simp only [i7, Bool.and_eq_true, decide_eq_true_eq, Bool.not_eq_true', decide_eq_false_iff_not] at hc
  obtain ⟨hk, ha, hb, h0, ho⟩ := hc
  obtain ⟨hp, hr⟩ := zf3 h1 hx hk
  exact ⟨by rw [hp, ha, hb], h0, ho, hr, x, hx, hk, rfl⟩
theorem zo5 {a b r : Int} (h : mS a b = some r) : bV r = true := by
  unfold mS at h
  split at h
  · rename_i hc; cases h; simp only [bV, Bool.and_eq_true, decide_eq_true_eq]; omega
  · split at h
    · rename_i hc; cases h; simp only [bV, Bool.and_eq_true, decide_eq_true_eq] at hc ⊢; omega
    · cases h
structure CSt where
  P : List Int
  s : Option Int
  M : List Int
def eF (key : Int → Int) (M : List Int) : Int := match M.getLast? with | some m => key m | none => 0
def CSt.out (st : CSt) : List Int := st.P ++ (st.s.toList ++ st.M)
def c5 (key : Int → Int) (st : CSt) (r : Int) : CSt := if key r = 0 then ⟨st.out, some r, []⟩ else ⟨st.P, st.s, st.M ++ [r]⟩
def dB (rows : List Row) (st : CSt) (r : Int) : CSt := match st.s with
  | none => c5 (aH rows 1) st r
  | some a => if st.M = [] ∨ eF (aH rows 1) st.M < aH rows 1 r then (match lO rows a r with
    | some c => ⟨st.P, some c, st.M⟩
    | none => c5 (aH rows 1) st r) else c5 (aH rows 1) st r
def bY (rows : List Row) (l : List Int) : CSt := l.foldl (dB rows) ⟨[], none, []⟩
def pK (rows : List Row) (l : List Int) : List Int := (bY rows l).out
theorem i9 (rows : List Row) (l : List Int) (r : Int) : bY rows (l ++ [r]) = dB rows (bY rows l) r := by simp [bY]
theorem pL (key : Int → Int) (st : CSt) (r : Int) : (c5 key st r).out = st.out ++ [r] := by
  unfold c5; split <;> simp [CSt.out]
theorem zo6 (rows : List Row) (st : CSt) (r : Int) : dB rows st r = c5 (aH rows 1) st r ∨ ∃ a c, st.s = some a ∧ lO rows a r = some c ∧ (st.M = [] ∨ eF (aH rows 1) st.M < aH rows 1 r) ∧ dB rows st r = ⟨st.P, some c, st.M⟩ := by
  unfold dB
  split
  · exact .inl rfl
  · rename_i a ha
    split
    · rename_i hf
      cases hc : lO rows a r with
      | none => exact .inl rfl
      | some c => exact .inr ⟨a, c, ha, hc, hf, rfl⟩
    · exact .inl rfl
structure TabC (rows : List Row) : Prop where
  one : sJ rows
  closed : zoq rows
  cls : d0 rows
  syl : ∀ x ∈ rows, x.kind = 2 → bV x.fr = false
  deep : ∀ x ∈ rows, x.kind = 2 → aN rows 7 x.fr = aN rows 8 x.fr
theorem TabC.full7 {rows : List Row} (h : TabC rows) (r : Int) : aN rows 7 r = aN rows 8 r := by
  by_cases hs : bV r = true
  · rw [gH hs, gH hs]
  · simp only [Bool.not_eq_true] at hs
    by_cases h0 : aF rows r = (0, 0)
    · rw [mO hs h0, mO hs h0]
    · obtain ⟨x, hx, hk, rfl, _⟩ := zo3 h.one h0
      exact h.deep x hx hk
theorem TabC.join {rows : List Row} (h : TabC rows) {a b c : Int} (ha : c4 rows a = true ∨ bV a = true) (hj : mS a b = some c) : aN rows 8 c = aN rows 8 a ++ [b] := by
  rw [gH (zo5 hj)]
  unfold mS at hj
  split at hj
  · rename_i hc
    cases hj
    have hr : c4 rows a = true := by
      rcases ha with ha | ha
      · exact ha
      · simp only [bV, Bool.and_eq_true, decide_eq_true_eq] at ha; omega
    rw [sZ hr]
    unfold dJ
    rw [if_pos (by omega)]
    simp only [List.cons_append, List.nil_append, List.cons.injEq, and_true]
    omega
  · split at hj
    · rename_i hc
      cases hj
      obtain ⟨⟨hs, h0⟩, h1, h2⟩ := hc
      rw [gH hs]
      simp only [bV, Bool.and_eq_true, decide_eq_true_eq] at hs
      unfold dJ
      rw [if_neg (by omega), if_pos h0]
      simp only [List.cons_append, List.nil_append, List.cons.injEq, and_true]
      omega
    · cases hj
theorem TabC.lead {rows : List Row} (h : TabC rows) {a : Int} (ha : 4352 ≤ a ∧ a < 4371) : c4 rows a = true := by
  have hx := h.closed (44032 + (a - 4352) * 588) a
  refine hx ?_
  have hs : bV (44032 + (a - 4352) * 588) = true := by simp only [bV, Bool.and_eq_true, decide_eq_true_eq]; omega
  rw [gH hs]
  unfold dJ
  rw [if_pos (by omega), show 4352 + (44032 + (a - 4352) * 588 - 44032) / 588 = a by omega]
  exact List.mem_cons_self
theorem TabC.pair {rows : List Row} (h : TabC rows) {a b c : Int} (hb : c4 rows b = true) (hc : lO rows a b = some c) : aN rows 8 c = aN rows 8 a ++ [b] := by
  unfold lO at hc
  split at hc
  · rename_i s hj
    cases hc
    refine h.join ?_ hj
    unfold mS at hj
    split at hj
    · rename_i hq; exact .inl (h.lead hq.1)
    · split at hj
      · rename_i hq; exact .inr hq.1.1
      · cases hj
  · obtain ⟨hp, h0, _, _, x, hx, hk, rfl⟩ := zo4 h.one hc
    have hs := h.syl x hx hk
    have hn : aF rows x.fr ≠ (0, 0) := by rw [hp]; intro e; cases e; exact h0 rfl
    rw [show (8 : Nat) = 7 + 1 from rfl]
    rw [aN, if_neg (by rw [hs]; simp), if_neg hn, hp]
    simp only
    rw [if_neg h0, h.full7, sZ hb]
theorem zf4 (key : Int → Int) (M : List Int) (r : Int) : eF key (M ++ [r]) = key r := by simp [eF]
structure InvC (rows : List Row) (st : CSt) (p : List Int) : Prop where
  e : Eqv (aH rows 1) (st.out.flatMap (aN rows 8)) p
  m : ∀ m ∈ st.M, aH rows 1 m ≠ 0 ∧ c4 rows m = true ∧ aH rows 1 m ≤ eF (aH rows 1) st.M
  q : st.M ≠ [] → ∃ p' q, p = p' ++ [q] ∧ eF (aH rows 1) st.M ≤ aH rows 1 q
theorem InvC.app {rows : List Row} {st : CSt} {p : List Int} (h : InvC rows st p) {r : Int} (hr : c4 rows r = true) (hc : bW (aH rows 1) (p ++ [r])) : InvC rows (c5 (aH rows 1) st r) (p ++ [r]) := by
  have he : Eqv (aH rows 1) ((c5 (aH rows 1) st r).out.flatMap (aN rows 8)) (p ++ [r]) := by
    rw [pL, List.flatMap_append, List.flatMap_singleton, sZ hr]
    simpa using h.e.app [] [r]
  refine ⟨he, ?_, ?_⟩
  · unfold c5
    split
    · intro m hm; cases hm
    · rename_i h0
      intro m hm
      simp only at hm ⊢
      rw [zf4]
      rcases List.mem_append.1 hm with hm | hm
      · obtain ⟨k1, k2, k3⟩ := h.m m hm
        refine ⟨k1, k2, ?_⟩
        obtain ⟨p', q, rfl, hq⟩ := h.q (List.ne_nil_of_mem hm)
        have := (lN.1 hc).2.2 q r (by simp) rfl h0
        omega
      · rw [List.mem_singleton] at hm; subst hm; exact ⟨h0, hr, Int.le_refl _⟩
  · unfold c5
    split
    · intro hn; exact absurd rfl hn
    · intro _; exact ⟨p, r, rfl, by simp only; rw [zf4]; exact Int.le_refl _⟩
theorem InvC.step {rows : List Row} (ht : TabC rows) {st : CSt} {p : List Int} (h : InvC rows st p) {r : Int} (hr : c4 rows r = true) (hc : bW (aH rows 1) (p ++ [r])) : InvC rows (dB rows st r) (p ++ [r]) := by
  rcases zo6 rows st r with e | ⟨a, c, hs, hpc, hf, e⟩
  · rw [e]; exact h.app hr hc
  · rw [e]
    have hM : st.M.flatMap (aN rows 8) = st.M := zfv fun m hm => (h.m m hm).2.1
    have he := h.e
    simp only [CSt.out, hs, Option.toList, List.flatMap_append, List.flatMap_singleton, hM] at he
    have hlt : st.M ≠ [] → eF (aH rows 1) st.M < aH rows 1 r := fun hn => hf.elim (fun e => absurd e hn) id
    refine ⟨?_, h.m, fun hn => ⟨p, r, rfl, Int.le_of_lt (hlt hn)⟩⟩
    simp only [CSt.out, Option.toList, List.flatMap_append, List.flatMap_singleton, hM, ht.pair hr hpc]
    refine Eqv.trans ?_ (by simpa using he.app [] [r])
    by_cases hn : st.M = []
    · rw [hn]; simp; exact .refl _
    · have h3 : eF (aH rows 1) st.M < aH rows 1 r := hlt hn
      have hr0 : aH rows 1 r ≠ 0 := by
        intro e0
        obtain ⟨m, hm⟩ := List.exists_mem_of_ne_nil _ hn
        obtain ⟨k1, _, k3⟩ := h.m m hm
        have := ht.cls m; omega
      have := (Eqv.ahead (key := aH rows 1) hr0 (B := st.M) [] fun m hm => ⟨(h.m m hm).1, by have := (h.m m hm).2.2; omega⟩).symm.app (st.P.flatMap (aN rows 8) ++ aN rows 8 a) []
      simpa using this
theorem zo7 {rows : List Row} (ht : TabC rows) {l : List Int} (hr : ∀ x ∈ l, c4 rows x = true) (hc : bW (aH rows 1) l) : InvC rows (bY rows l) l := by
  revert hr hc
  induction l using kA with
  | h0 => intro _ _; exact ⟨.refl _, (fun m hm => by cases hm), fun hn => absurd rfl hn⟩
  | h1 l r ih =>
    intro hr hc
    rw [i9]
    exact (ih (fun x hx => hr x (by simp [hx])) (lN.1 hc).1).step ht (hr r (by simp)) hc
end Go.Eng.Rows



namespace Go.Eng
open Go Go.Proofs Go.Eng.Rows Go.Eng.Trie
end Go.Eng



namespace Go.Eng.Rows
open Go Go.Eng Go.Eng.Trie Go.Eng.Srt
def Comp (rows : List Row) (s : List Int) : Prop := ∃ d, (∀ x ∈ d, c4 rows x = true) ∧ bW (aH rows 1) d ∧ pK rows d = s
section
variable {rows : List Row}
def iD (rows : List Row) (s : Option Int) (M : List Int) (r : Int) : Option Int := match s with
  | none => none
  | some a => if M = [] ∨ eF (aH rows 1) M < aH rows 1 r then lO rows a r else none
theorem jA (st : CSt) (r : Int) : dB rows st r = match iD rows st.s st.M r with | some c => ⟨st.P, some c, st.M⟩ | none => c5 (aH rows 1) st r := by
  unfold dB iD
  cases st.s with
  | none => rfl
  | some a =>
    simp only
    split
    · rfl
    · rfl
theorem zad {s : Option Int} {M : List Int} {r c : Int} (h : iD rows s M r = some c) : ∃ a, s = some a ∧ lO rows a r = some c ∧ (M = [] ∨ eF (aH rows 1) M < aH rows 1 r) := by
  unfold iD at h
  cases s with
  | none => cases h
  | some a =>
    simp only at h
    split at h
    · rename_i hf; exact ⟨a, rfl, h, hf⟩
    · cases h
theorem jB {d : List Int} {x : Int} : bW (aH rows 1) (d ++ [x]) ↔ bW (aH rows 1) d ∧ (∀ z, d.getLast? = some z → aH rows 1 x ≠ 0 → aH rows 1 z ≤ aH rows 1 x) := by
  rw [lN]
  constructor
  · rintro ⟨h1, _, h3⟩; exact ⟨h1, fun z hz hx => h3 z x hz rfl hx⟩
  · rintro ⟨h1, h3⟩; exact ⟨h1, trivial, fun z x' hz hx' h0 => by simp at hx'; subst hx'; exact h3 z hz h0⟩
theorem zae {d : List Int} {r x : Int} (h : bW (aH rows 1) (d ++ [r] ++ [x])) (hx : aH rows 1 x ≠ 0) : aH rows 1 r ≤ aH rows 1 x := (jB.1 h).2 r (by simp) hx
def Wit (rows : List Row) (d : List Int) (st : CSt) : Prop := ∃ e, (∀ x ∈ e, c4 rows x = true) ∧ bY rows e = st ∧ (st.out = [] → e = []) ∧ bW (aH rows 1) e ∧ ∀ x, bW (aH rows 1) (d ++ [x]) → bW (aH rows 1) (e ++ [x])
theorem Wit.snoc {d : List Int} {st : CSt} (h : Wit rows d st) {r : Int} (hr : c4 rows r = true) (hc : bW (aH rows 1) (d ++ [r])) (hn : (dB rows st r).out ≠ []) : Wit rows (d ++ [r]) (dB rows st r) := by
  obtain ⟨e, h1, h2, h3, h4, h5⟩ := h
  refine ⟨e ++ [r], fun x hx => ?_, by rw [i9, h2], fun hq => absurd hq hn, h5 r hc, fun x hx => ?_⟩
  · rcases List.mem_append.1 hx with hx | hx
    · exact h1 x hx
    · rw [List.mem_singleton] at hx; subst hx; exact hr
  · exact jB.2 ⟨h5 r hc, fun z hz h0 => by simp at hz; subst hz; exact zae hx h0⟩
theorem zf5 {key : Int → Int} {M : List Int} (h : M ≠ []) : ∃ m ∈ M, eF key M = key m := by
  rcases M.eq_nil_or_concat with rfl | ⟨D, z, rfl⟩
  · exact absurd rfl h
  · exact ⟨z, by simp, by simp [eF]⟩
theorem zf6 {d : List Int} (h : (bY rows d).out = []) : d = [] := by
  revert h
  induction d using kA with
  | h0 => exact fun _ => rfl
  | h1 d r ih =>
    rw [i9, jA]
    intro h
    split at h
    · simp [CSt.out] at h
    · rw [pL] at h; simp at h
theorem zaf {d : List Int} (h : (bY rows d).s = none) : (bY rows d).P = [] := by
  revert h
  induction d using kA with
  | h0 => exact fun _ => rfl
  | h1 d r ih =>
    rw [i9, jA]
    split
    · intro h; cases h
    · unfold c5
      split
      · intro h; cases h
      · exact ih
theorem zo8 (ht : TabC rows) {d : List Int} (hr : ∀ x ∈ d, c4 rows x = true) (hc : bW (aH rows 1) d) (hn : (bY rows d).M ≠ []) :
    Wit rows d ⟨(bY rows d).P, (bY rows d).s, (bY rows d).M.dropLast⟩ := by
  revert hr hc hn
  induction d using kA with
  | h0 => intro _ _ hn; exact absurd rfl hn
  | h1 d r ih =>
    intro hr hc
    have hr1 : ∀ x ∈ d, c4 rows x = true := fun x hx => hr x (by simp [hx])
    have hc1 := (jB.1 hc).1
    have hinv := zo7 ht hr1 hc1
    have hrr := hr r (by simp)
    rw [i9]
    have ih := ih hr1 hc1
    have hon := zf6 (rows := rows) (d := d)
    generalize hsd : bY rows d = st at *
    rw [jA]
    cases hd : iD rows st.s st.M r with
    | none =>
      simp only
      unfold c5
      split
      · intro hn; exact absurd rfl hn
      · rename_i h0
        intro _
        simp only [List.dropLast_concat]
        refine ⟨d, hr1, hsd, fun h => hon h, hc1, fun x hx => jB.2 ⟨hc1, fun z hz hx0 => ?_⟩⟩
        have := (jB.1 hc).2 z hz h0
        have := zae hx hx0
        omega
    | some c =>
      simp only
      intro hn
      obtain ⟨a, hs, hp, hf⟩ := zad hd
      have hlt := hf.elim (fun e => absurd e hn) id
      have hw := (ih hn).snoc hrr hc
      have he : dB rows ⟨st.P, st.s, st.M.dropLast⟩ r = ⟨st.P, some c, st.M.dropLast⟩ := by
        rw [jA]
        have : iD rows st.s st.M.dropLast r = some c := by
          unfold iD
          rw [hs]
          simp only
          rw [if_pos, hp]
          by_cases hdl : st.M.dropLast = []
          · exact .inl hdl
          · obtain ⟨m, hm, e⟩ := zf5 (key := aH rows 1) hdl
            have := (hinv.m m (List.dropLast_subset _ hm)).2.2
            exact .inr (by omega)
        simp only [this]
      rw [he] at hw
      exact hw (by simp [CSt.out])
def d6 (st : CSt) : CSt := match st.s, st.P with
  | none, P => ⟨P, none, st.M.tail⟩
  | some _, [] => ⟨[], none, st.M⟩
  | some c, _ :: P => ⟨P, some c, st.M⟩
theorem zo9 {st : CSt} (h : st.s = none → st.P = []) : (d6 st).out = st.out.tail := by
  obtain ⟨P, s, M⟩ := st
  cases s with
  | none =>
    have hp : P = [] := h rfl
    subst hp
    simp [d6, CSt.out]
  | some c => cases P <;> simp [d6, CSt.out]
theorem zpa (hk : d0 rows) (M : List Int) : 0 ≤ eF (aH rows 1) M := by
  by_cases h : M = []
  · subst h; exact Int.le_refl _
  · obtain ⟨m, _, e⟩ := zf5 (key := aH rows 1) h
    rw [e]; exact hk m
theorem zpb (ht : TabC rows) {d : List Int} (hr : ∀ x ∈ d, c4 rows x = true) (hc : bW (aH rows 1) d) (hn : d ≠ []) : Wit rows d (d6 (bY rows d)) := by
  revert hr hc hn
  induction d using kA with
  | h0 => intro _ _ hn; exact absurd rfl hn
  | h1 d r ih =>
    intro hr hc _
    have hr1 : ∀ x ∈ d, c4 rows x = true := fun x hx => hr x (by simp [hx])
    have hc1 := (jB.1 hc).1
    have hrr := hr r (by simp)
    by_cases hd0 : d = []
    · subst hd0
      refine ⟨[], fun x hx => (by cases hx), ?_, fun _ => rfl, trivial, fun x _ => trivial⟩
      rw [i9]
      show _ = d6 (c5 (aH rows 1) ⟨[], none, []⟩ r)
      unfold c5
      split <;> rfl
    · have ih := ih hr1 hc1 hd0
      have hP := zaf (rows := rows) (d := d)
      have hon : (bY rows d).out ≠ [] := fun h => hd0 (zf6 h)
      rw [i9]
      generalize bY rows d = st at *
      have key : (d6 (dB rows st r) = dB rows (d6 st) r ∧ (dB rows (d6 st) r).out ≠ []) → Wit rows (d ++ [r]) (d6 (dB rows st r)) := fun ⟨h1, h2⟩ => by
        rw [h1]; exact ih.snoc hrr hc h2
      obtain ⟨P, s, M⟩ := st
      cases s with
      | none =>
        obtain rfl : P = [] := hP rfl
        cases M with
        | nil => exact absurd rfl hon
        | cons m M =>
          refine key ?_
          have e1 : dB rows ⟨[], none, m :: M⟩ r = c5 (aH rows 1) ⟨[], none, m :: M⟩ r := rfl
          have e2 : dB rows (d6 ⟨[], none, m :: M⟩) r = c5 (aH rows 1) ⟨[], none, M⟩ r := rfl
          rw [e1, e2, pL]
          refine ⟨?_, by simp⟩
          unfold c5
          split <;> simp [d6, CSt.out]
      | some c =>
        cases P with
        | cons p P =>
          refine key ?_
          have e2 : d6 ⟨p :: P, some c, M⟩ = ⟨P, some c, M⟩ := rfl
          rw [e2, jA, jA]
          simp only
          cases iD rows (some c) M r with
          | none => simp only; rw [pL]; refine ⟨?_, by simp⟩; unfold c5; split <;> simp [d6, CSt.out]
          | some c' => exact ⟨rfl, by simp [CSt.out]⟩
        | nil =>
          have e2 : d6 ⟨[], some c, M⟩ = ⟨[], none, M⟩ := rfl
          have e3 : dB rows ⟨[], none, M⟩ r = c5 (aH rows 1) ⟨[], none, M⟩ r := rfl
          cases hdec : iD rows (some c) M r with
          | none =>
            refine key ?_
            rw [e2, e3, jA]
            simp only [hdec]
            rw [pL]
            refine ⟨?_, by simp⟩
            unfold c5
            split <;> simp [d6, CSt.out]
          | some c' =>
            obtain ⟨a, _, hp, hf⟩ := zad hdec
            have e4 : d6 (dB rows ⟨[], some c, M⟩ r) = ⟨[], none, M⟩ := by
              rw [jA]; simp only [hdec]; rfl
            rw [e4]
            rw [e2] at ih
            obtain ⟨e, h1, h2, h3, h4, h5⟩ := ih
            refine ⟨e, h1, h2, h3, h4, fun x hx => jB.2 ⟨h4, fun z hz hx0 => ?_⟩⟩
            by_cases h0 : aH rows 1 r = 0
            · have hl := zpa ht.cls M
              have hM : M = [] := hf.elim id fun h => by omega
              subst hM
              have := h3 rfl
              subst this
              simp at hz
            · have k1 := (jB.1 (h5 r hc)).2 z hz h0
              have k2 := zae hx hx0
              omega
theorem zpc {d : List Int} (hr : ∀ x ∈ d, c4 rows x = true) (hc : bW (aH rows 1) d) (hn : (bY rows d).s ≠ none) : ∃ e, (∀ x ∈ e, c4 rows x = true) ∧ bW (aH rows 1) e ∧ (bY rows e).out = (bY rows d).P := by
  revert hr hc hn
  induction d using kA with
  | h0 => intro _ _ hn; exact absurd rfl hn
  | h1 d r ih =>
    intro hr hc
    have hr1 : ∀ x ∈ d, c4 rows x = true := fun x hx => hr x (by simp [hx])
    have hc1 := (jB.1 hc).1
    have ih := ih hr1 hc1
    rw [i9, jA]
    cases hd : iD rows (bY rows d).s (bY rows d).M r with
    | none =>
      simp only
      unfold c5
      split
      · intro _; exact ⟨d, hr1, hc1, rfl⟩
      · exact ih
    | some c =>
      obtain ⟨a, hs, _⟩ := zad hd
      intro _
      exact ih (by rw [hs]; simp)
theorem Comp.nil : Comp rows [] := ⟨[], fun x hx => (by cases hx), trivial, rfl⟩
theorem Comp.tail (ht : TabC rows) {s : List Int} (h : Comp rows s) : Comp rows s.tail := by
  obtain ⟨d, h1, h2, rfl⟩ := h
  by_cases hd : d = []
  · subst hd; exact .nil
  · obtain ⟨e, k1, k2, _, k4, _⟩ := zpb ht h1 h2 hd
    exact ⟨e, k1, k4, by unfold pK; rw [k2, zo9 zaf]⟩
theorem Comp.dropLast (ht : TabC rows) {s : List Int} (h : Comp rows s) : Comp rows s.dropLast := by
  obtain ⟨d, h1, h2, rfl⟩ := h
  unfold pK
  by_cases hM : (bY rows d).M = []
  · cases hs : (bY rows d).s with
    | none =>
      have : (bY rows d).out = [] := by simp [CSt.out, zaf hs, hs, hM]
      rw [this]; exact .nil
    | some c =>
      obtain ⟨e, k1, k2, k3⟩ := zpc h1 h2 (by rw [hs]; simp)
      refine ⟨e, k1, k2, ?_⟩
      unfold pK
      rw [k3]
      simp [CSt.out, hs, hM]
  · obtain ⟨e, k1, k2, _, k4, _⟩ := zo8 ht h1 h2 hM
    refine ⟨e, k1, k4, ?_⟩
    unfold pK
    rw [k2]
    simp only [CSt.out]
    rw [List.dropLast_append_of_ne_nil (by simp [hM]), List.dropLast_append_of_ne_nil hM]
theorem Comp.drop (ht : TabC rows) {s : List Int} (h : Comp rows s) : ∀ k, Comp rows (s.drop k)
  | 0 => h
  | k + 1 => by
    have := (Comp.drop ht h k).tail ht
    rwa [List.tail_drop] at this
theorem Comp.take (ht : TabC rows) {s : List Int} (h : Comp rows s) (k : Nat) : Comp rows (s.take k) := by
  have : ∀ n, Comp rows (s.take (s.length - n)) := by
    intro n
    induction n with
    | zero => rw [Nat.sub_zero, List.take_length]; exact h
    | succ n ih =>
      have := ih.dropLast ht
      rw [List.dropLast_eq_take, List.take_take, List.length_take] at this
      rwa [show min (min (s.length - n) s.length - 1) (s.length - n) = s.length - (n + 1) by omega] at this
  by_cases hk : k ≤ s.length
  · have := this (s.length - k)
    rwa [show s.length - (s.length - k) = k by omega] at this
  · rw [List.take_of_length_le (by omega)]; exact h
end
end Go.Eng.Rows



namespace Go.Eng
open Go Go.Proofs
end Go.Eng



namespace Go.Eng
open Go Go.Proofs Go.Eng.Rows Go.Eng.Trie Go.Eng.Srt
section
variable {rows : List Row} {v : PV}
def zf7 (st : CSt) : Int := match st.s with | none => -1 | some _ => st.P.length
def JC (rows : List Row) (L : List Int) (x6 x7 i : Int) (s : List (List PV)) : Prop := (0 ≤ i ∧ i ≤ L.length) ∧ s = aA (bY rows (L.take i.toNat)).out ∧ x6 = zf7 (bY rows (L.take i.toNat)) ∧ x7 = eF (aH rows 1) (bY rows (L.take i.toNat)).M
theorem JC.next {L : List Int} {i : Int} (h0 : 0 ≤ i) (hi : i.toNat < L.length) {st : CSt} (he : dB rows (bY rows (L.take i.toNat)) L[i.toNat] = st) : JC rows L (zf7 st) (eF (aH rows 1) st.M) (i + 1) (aA st.out) := by
  have e : bY rows (L.take (i + 1).toNat) = st := by
    rw [show (i + 1).toNat = i.toNat + 1 by omega, cZ hi, i9, he]
  exact ⟨⟨by omega, by omega⟩, by rw [e], by rw [e], by rw [e]⟩
end
end Go.Eng



namespace Go.Eng
open Go Go.Proofs Go.Eng.Rows Go.Eng.Trie Go.Eng.Srt
theorem v22 : Try.prog.underlying 22 = some (.slice 21) := by kernel_rfl
theorem v21 : Try.prog.underlying 21 = some (.int .i32) := by kernel_rfl
theorem zpd {v : PV} (h : kP Try.prog 8 22 v) : ∃ nl l, v = .sl nl false (aA l) ∧ R32 l := by
  obtain ⟨nl, l, e, hl, _, hr⟩ := zjk v22 v21 (zdh (by kernel_rfl) h)
  cases e
  exact ⟨nl, l, rfl, hr⟩
end Go.Eng



namespace Go.Eng.Rows
open Go Go.Eng Go.Eng.Trie Go.Eng.Srt
def dF (L : List Int) (a b : Nat) : List Int := (L.take b).drop a
def cQ (rows : List Row) (L want : List Int) (a b : Nat) : Bool := decide (bX rows (dF L a b) = want)
def fU (p : Nat → Bool) (b : Nat) : Nat → Option Nat
  | 0 => none
  | k + 1 => if p b then some b else fU p (b + 1) k
def eL (rows : List Row) (L want : List Int) (a : Nat) : Nat → Option (Nat × Nat)
  | 0 => none
  | k + 1 => match fU (cQ rows L want a) a (L.length + 1 - a) with
    | some b => some (a, b)
    | none => eL rows L want (a + 1) k
def findL (rows : List Row) (L want : List Int) : Option (Nat × Nat) := eL rows L want 0 (L.length + 1)
theorem zf8 {p : Nat → Bool} : ∀ {k b : Nat}, (∀ j, j < k → p (b + j) = false) → fU p b k = none
  | 0, b, _ => rfl
  | k + 1, b, h => by
    rw [fU, if_neg (by have := h 0 (by omega); rw [Nat.add_zero] at this; rw [this]; simp)]
    exact zf8 fun j hj => by have := h (j + 1) (by omega); rwa [show b + (j + 1) = b + 1 + j by omega] at this
theorem zag {p : Nat → Bool} : ∀ {k b : Nat}, match fU p b k with
    | some c => b ≤ c ∧ c < b + k ∧ p c = true
    | none => ∀ j, b ≤ j → j < b + k → p j = false
  | 0, b => fun j h1 h2 => by omega
  | k + 1, b => by
    rw [fU]
    split
    · rename_i c heq
      split at heq
      · rename_i hp; cases heq; exact ⟨Nat.le_refl _, by omega, hp⟩
      · have := zag (p := p) (k := k) (b := b + 1); rw [heq] at this; exact ⟨by omega, by omega, this.2.2⟩
    · rename_i heq
      split at heq
      · cases heq
      · rename_i hp
        have := zag (p := p) (k := k) (b := b + 1)
        rw [heq] at this
        intro j h1 h2
        by_cases hj : j = b
        · subst hj; simpa using hp
        · exact this j (by omega) (by omega)
theorem zf9 {rows : List Row} {L want : List Int} : ∀ {k a : Nat}, a + k = L.length + 1 → match eL rows L want a k with
    | some (c, d) => a ≤ c ∧ c ≤ d ∧ d ≤ L.length ∧ cQ rows L want c d = true ∧ ∀ c' d', a ≤ c' → c' ≤ d' → d' ≤ L.length → cQ rows L want c' d' = true → c ≤ c'
    | none => ∀ c' d', a ≤ c' → c' ≤ d' → d' ≤ L.length → cQ rows L want c' d' = false
  | 0, a, h => fun c' d' h1 h2 h3 => by omega
  | k + 1, a, h => by
    rw [eL]
    have h1 := zag (p := cQ rows L want a) (k := L.length + 1 - a) (b := a)
    cases hf : fU (cQ rows L want a) a (L.length + 1 - a) with
    | some b =>
      rw [hf] at h1
      exact ⟨Nat.le_refl _, h1.1, by omega, h1.2.2, fun c' d' q1 _ _ _ => q1⟩
    | none =>
      rw [hf] at h1
      simp only
      have h2 := zf9 (rows := rows) (L := L) (want := want) (k := k) (a := a + 1) (by omega)
      cases hg : eL rows L want (a + 1) k with
      | some cd =>
        obtain ⟨c, d⟩ := cd
        rw [hg] at h2
        obtain ⟨q1, q2, q3, q4, q5⟩ := h2
        refine ⟨by omega, q2, q3, q4, fun c' d' r1 r2 r3 r4 => ?_⟩
        by_cases hc : c' = a
        · subst hc; rw [h1 d' r2 (by omega)] at r4; cases r4
        · exact q5 c' d' (by omega) r2 r3 r4
      | none =>
        rw [hg] at h2
        intro c' d' r1 r2 r3
        by_cases hc : c' = a
        · subst hc; exact h1 d' r2 (by omega)
        · exact h2 c' d' (by omega) r2 r3
theorem zpe {rows : List Row} {L want : List Int} : match findL rows L want with
    | some (c, d) => c ≤ d ∧ d ≤ L.length ∧ cQ rows L want c d = true ∧ ∀ c' d', c' ≤ d' → d' ≤ L.length → cQ rows L want c' d' = true → c ≤ c'
    | none => ∀ c' d', c' ≤ d' → d' ≤ L.length → cQ rows L want c' d' = false := by
  have := zf9 (rows := rows) (L := L) (want := want) (k := L.length + 1) (a := 0) (by omega)
  unfold findL
  cases h : eL rows L want 0 (L.length + 1) with
  | some cd =>
    obtain ⟨c, d⟩ := cd
    rw [h] at this
    obtain ⟨_, q2, q3, q4, q5⟩ := this
    exact ⟨q2, q3, q4, fun c' d' => q5 c' d' (by omega)⟩
  | none => rw [h] at this; exact fun c' d' => this c' d' (by omega)
theorem zga {L : List Int} {i : Nat} (h : i < L.length) : L.take (i + 1) = L.take i ++ [L[i]] := by
  rw [List.take_add_one, List.getElem?_eq_getElem h]; rfl
theorem zpf {L : List Int} {a b : Nat} (h : a ≤ b) (hb : b < L.length) : dF L a (b + 1) = dF L a b ++ [L[b]] := by
  unfold dF
  rw [zga hb, List.drop_append_of_le_length (by rw [List.length_take]; omega)]
theorem zah (L : List Int) (a : Nat) : dF L a a = [] := by
  unfold dF; exact List.drop_eq_nil_of_le (by rw [List.length_take]; omega)
def dK (rows : List Row) (L : List Int) (a b : Nat) : Nat := ((dF L a b).flatMap (aN rows 8)).length
theorem zgb (rows : List Row) {L : List Int} {a b : Nat} (h : a ≤ b) (hb : b < L.length) : dK rows L a (b + 1) = dK rows L a b + (aN rows 8 L[b]).length := by
  unfold dK; rw [zpf h hb]; simp
theorem zgc (rows : List Row) {L : List Int} {a b : Nat} (h : a ≤ b) : ∀ {k : Nat}, b + k ≤ L.length → dK rows L a b ≤ dK rows L a (b + k)
  | 0, _ => Nat.le_refl _
  | k + 1, hk => by
    have := zgc rows (L := L) h (k := k) (by omega)
    have h2 := zgb rows (L := L) (a := a) (b := b + k) (by omega) (by omega)
    rw [show b + (k + 1) = b + k + 1 by omega]; omega
theorem zpg (rows : List Row) (L : List Int) (a b : Nat) : dK rows L a b ≤ 768 * (b - a) := by
  unfold dK
  have : ∀ l : List Int, (l.flatMap (aN rows 8)).length ≤ 768 * l.length := fun l => by
    induction l with
    | nil => simp
    | cons x l ih =>
      have := hE rows 8 x
      rw [List.flatMap_cons, List.length_append, List.length_cons]; omega
  refine Nat.le_trans (this _) ?_
  unfold dF
  rw [List.length_drop, List.length_take]
  exact Nat.mul_le_mul_left _ (by omega)
theorem zai {rows : List Row} (hk : d0 rows) (L : List Int) (a b : Nat) : (bX rows (dF L a b)).length = dK rows L a b := by
  unfold bX dK; exact (sQ hk _).len.symm
theorem zph {rows : List Row} (hk : d0 rows) {L want : List Int} {a b : Nat} (h : a ≤ b) (hl : want.length < dK rows L a b) : ∀ j, b + j ≤ L.length → cQ rows L want a (b + j) = false := fun j hj => by
  have := zgc rows h hj
  unfold cQ
  rw [decide_eq_false_iff_not]
  intro e
  have := congrArg List.length e
  rw [zai hk] at this
  omega
theorem zpi {rows : List Row} (hk : d0 rows) {L want : List Int} {a b : Nat} (hl : dK rows L a b ≠ want.length) : cQ rows L want a b = false := by
  unfold cQ
  rw [decide_eq_false_iff_not]
  intro e
  exact hl (by rw [← zai hk, e])
theorem zpj {rows : List Row} {L want : List Int} (hw : want ≠ []) (a : Nat) : cQ rows L want a a = false := by
  unfold cQ
  rw [zah, decide_eq_false_iff_not]
  intro e; exact hw (by rw [← e]; rfl)
def gK (rows : List Row) (L want : List Int) (a b : Nat) : Option (Nat × Nat) := match fU (cQ rows L want a) b (L.length + 1 - b) with
  | some c => some (a, c)
  | none => eL rows L want (a + 1) (L.length - a)
theorem zgd {rows : List Row} {L want : List Int} (hw : want ≠ []) {a : Nat} (ha : a ≤ L.length) : eL rows L want a (L.length + 1 - a) = gK rows L want a (a + 1) := by
  rw [show L.length + 1 - a = (L.length - a) + 1 by omega, eL]
  unfold gK
  rw [show L.length + 1 - a = (L.length + 1 - (a + 1)) + 1 by omega, fU, if_neg (by rw [zpj hw]; simp)]
theorem zpk {rows : List Row} {L want : List Int} {a b : Nat} (hb : b ≤ L.length) (h : cQ rows L want a b = false) : gK rows L want a b = gK rows L want a (b + 1) := by
  unfold gK
  rw [show L.length + 1 - b = (L.length + 1 - (b + 1)) + 1 by omega, fU, if_neg (by rw [h]; simp)]
theorem zpl {rows : List Row} {L want : List Int} {a b : Nat} (hb : b ≤ L.length) (h : cQ rows L want a b = true) : gK rows L want a b = some (a, b) := by
  unfold gK
  rw [show L.length + 1 - b = (L.length + 1 - (b + 1)) + 1 by omega, fU, if_pos h]
theorem zge {rows : List Row} {L want : List Int} {a b : Nat} (h : ∀ j, b + j ≤ L.length → cQ rows L want a (b + j) = false) : gK rows L want a b = eL rows L want (a + 1) (L.length + 1 - (a + 1)) := by
  unfold gK
  rw [zf8 fun j hj => h j (by omega)]
  rw [show L.length + 1 - (a + 1) = L.length - a by omega]
theorem zpm {rows : List Row} {L want : List Int} (hw : want ≠ []) : eL rows L want L.length (L.length + 1 - L.length) = none := by
  rw [zgd hw (Nat.le_refl _), zge fun j hj => by omega]
  rw [Nat.sub_self]; rfl
end Go.Eng.Rows



namespace Go.Eng
open Go Go.Proofs
end Go.Eng



namespace Go.Eng
open Go Go.Proofs Go.Eng.Rows Go.Eng.Trie Go.Eng.Srt
theorem zpn (l : List Int) (k : Nat) : (l.take k).length ≤ k := by rw [List.length_take]; omega
theorem zaj {len : Nat} {i j : Int} (h0 : 0 ≤ i) (h1 : i ≤ j) (h2 : j ≤ len) : dC len (some i) (some j) none := ⟨h0, h1, h2, trivial⟩
theorem zak (L : List Int) (i j : Nat) : List.drop i (List.take j (aA L)) = aA (dF L i j) := by simp [aA, dF]
theorem R32.sub {L : List Int} (h : R32 L) (i j : Nat) : R32 (dF L i j) := fun x hx => h x (List.mem_of_mem_take (List.mem_of_mem_drop hx))
theorem zal (L : List Int) (i j : Nat) : (dF L i j).length ≤ L.length := by unfold dF; rw [List.length_drop, List.length_take]; omega
theorem w3 : Try.prog.underlying 3 = some (.int .i64) := by kernel_rfl
theorem zgf {v : PV} (h : kP Try.prog 8 3 v) : ∃ n : Int, v = .int .i64 n := by
  obtain ⟨m, e, _⟩ := zdf w3 (zdh (by kernel_rfl) h)
  cases e
  exact ⟨m, rfl⟩
end Go.Eng



namespace Go.Eng
open Go Go.Proofs
end Go.Eng



namespace Go.Eng
open Go Go.Proofs
end Go.Eng



namespace Go.Eng
open Go Go.Proofs Go.Eng.Rows Go.Eng.Trie
end Go.Eng



namespace Go.Eng
open Go Go.Proofs Go.Eng.Rows Go.Eng.Trie
section
variable {rows : List Row}
end
end Go.Eng



namespace Go.Eng
open Go Go.Proofs Go.Eng.Rows Go.Eng.Trie
section
variable {rows : List Row} {v : PV}
theorem zpo (hp : dA rows) (hv : lI rows v) {r : Int} (hr : -2147483648 ≤ r ∧ r ≤ 2147483647) : PCall Try.prog 47 [v, .int .i32 r] fun x => ∃ nl, x = .sl nl false (aA (aN rows 8 r)) := by
  obtain ⟨tc, tg, tj, tf, tp, made, sec, rfl, ht, hm⟩ := hv
  exact znl _ _ hp ht hr
end
end Go.Eng



namespace Go.Eng
open Go Go.Proofs
def zam (tc tg tj tf tp : PV) (M S : List (PV × PV)) (n f : Bool) (es : LL) (n2 f2 : Bool) (ss : LL) (n9 : Bool) (f9 : Bool) (s9 : LL) (x27 : Int) (n_0 : Bool) (s_0 : LL) : Env × Hp := ([(0, LV.pv (PV.ptr [tc, tg, tj, tf, tp, PV.mp M, PV.mp S])), (1, LV.pv (PV.sl n f es)), (9, .pv (.sl n9 f9 s9)), (10, LV.own 0), (25, LV.pv (PV.sl n f es)), (26, LV.pv (PV.int IntKind.i64 ↑es.length)), (27, .pv (.int IntKind.i64 x27))], [.sl (3, 1) true n_0 s_0])
def s7 (tc tg tj tf tp : PV) (M S : List (PV × PV)) (n f : Bool) (es : LL) (n2 f2 : Bool) (ss : LL) (n9 : Bool) (f9 : Bool) (s9 : LL) (x42 : Int) (n_0 : Bool) (s_0 : LL) : Env × Hp := ([(0, LV.pv (PV.ptr [tc, tg, tj, tf, tp, PV.mp M, PV.mp S])), (1, LV.pv (PV.sl n f es)), (9, .pv (.sl n9 f9 s9)), (10, LV.own 0), (41, LV.pv (PV.int IntKind.i64 ↑es.length)), (42, .pv (.int IntKind.i64 x42))], [.sl (3, 1) true n_0 s_0])
def s8 (tc tg tj tf tp : PV) (M S : List (PV × PV)) (n f : Bool) (es : LL) (n2 f2 : Bool) (ss : LL) (n9 : Bool) (f9 : Bool) (s9 : LL) (x13 : Int) (x14 : Int) (x15 : Int) (x42 : Int) (n_0 : Bool) (s_0 : LL) : Env × Hp := ([(0, LV.pv (PV.ptr [tc, tg, tj, tf, tp, PV.mp M, PV.mp S])), (1, LV.pv (PV.sl n f es)), (9, .pv (.sl n9 f9 s9)), (10, LV.own 0), (13, .pv (.int IntKind.i64 x13)), (14, .pv (.int IntKind.i64 x14)), (15, .pv (.int IntKind.i64 x15)), (41, LV.pv (PV.int IntKind.i64 ↑es.length)), (42, .pv (.int IntKind.i64 x42))], [.sl (3, 1) true n_0 s_0])
def zan (tc tg tj tf tp : PV) (M S : List (PV × PV)) (n f : Bool) (es : LL) (n2 f2 : Bool) (ss : LL) (J : Bool → Bool → (LL) → Int → Bool → (LL) → Prop) (μ : Bool → Bool → (LL) → Int → Bool → (LL) → Nat) (J2 : Bool → Bool → (LL) → Int → Bool → (LL) → Prop) (μ2 : Bool → Bool → (LL) → Int → Bool → (LL) → Nat) (J3 : Bool → Bool → (LL) → Int → Int → Int → Int → Bool → (LL) → Bool → Bool → (LL) → Int → Int → Int → Int → Bool → (LL) → Prop) (μ3 : Bool → Bool → (LL) → Int → Int → Int → Int → Bool → (LL) → Nat) (R : PV → Prop) : Prop :=
 PCall Try.prog 16 [PV.ptr [tc, tg, tj, tf, tp, PV.mp M, PV.mp S], PV.sl n2 f2 ss] fun (v : PV) ↦ ∃ (n1 : Bool), ∃ (f1 : Bool), ∃ (es1 : LL), v = PV.sl n1 f1 es1 ∧ if ((↑es1.length : Int) == 0) = true then R (PV.tup [Z6 0, Z6 0, Zb true])
 else ((0 : Int) ≤ (↑es.length : Int) ∧ (↑es.length : Int) ≤ (↑es.length : Int) ∧ (↑8 : Int) * (↑es.length : Int) ≤ 281474976710656 ∧ (↑es.length : Int) ≤ 9223372036854775807) ∧ (aB (zam tc tg tj tf tp M S n f es n2 f2 ss n1 f1 es1 (0 :
 Int) false (List.replicate (↑es.length : Int).toNat [Z6 0])) ∧ J n1 f1 es1 (0 : Int) false (List.replicate (↑es.length : Int).toNat [Z6 0])) ∧ ∀ (n9 f9 : Bool) (s9 : LL) (x27 : Int) (n_0 : Bool) (s_0 : LL), J n9 f9 s9 x27 n_0 s_0 → if
 decide (x27 < (↑es.length : Int)) = true then aO es x27 1 ∧ ∃ (n3 : Int), (es.getD x27.toNat []).head? = some (Z3 n3) ∧ PCall Try.prog 47 [PV.ptr [tc, tg, tj, tf, tp, PV.mp M, PV.mp S], Z3 n3] fun (v1 : PV) ↦ ∃ (n4 : Bool), ∃ (f3 :
 Bool), ∃ (es2 : LL), v1 = PV.sl n4 f3 es2 ∧ aO s_0 x27 1 ∧ (1 = 1 ∧ 1 ≤ (s_0.getD x27.toNat []).length) ∧ aB (zam tc tg tj tf tp M S n f es n2 f2 ss n9 f9 s9 (IntKind.i64.wrap (x27 + 1)) n_0 (s_0.set x27.toNat (Z6 (↑es2.length :
 Int) :: List.append._f [] PUnit.unit (List.drop 1 (s_0.getD x27.toNat []))))) ∧ J n9 f9 s9 (IntKind.i64.wrap (x27 + 1)) n_0 (s_0.set x27.toNat (Z6 (↑es2.length : Int) :: List.append._f [] PUnit.unit (List.drop 1 (s_0.getD x27.toNat [])))) ∧
 μ n9 f9 s9 (IntKind.i64.wrap (x27 + 1)) n_0 (s_0.set x27.toNat (Z6 (↑es2.length : Int) :: List.append._f [] PUnit.unit (List.drop 1 (s_0.getD x27.toNat [])))) < μ n9 f9 s9 x27 n_0 s_0 else (aB (s7 tc tg tj tf tp M S n f es n2 f2 ss
 n9 f9 s9 (0 : Int) n_0 s_0) ∧ J2 n9 f9 s9 (0 : Int) n_0 s_0) ∧ ∀ (n91 f91 : Bool) (s91 : LL) (x42 : Int) (n_01 : Bool) (s_01 : LL), J2 n91 f91 s91 x42 n_01 s_01 → if decide (x42 < (↑es.length : Int)) = true then (aB (s8 tc tg tj tf
 tp M S n f es n2 f2 ss n91 f91 s91 x42 (0 : Int) x42 x42 n_01 s_01) ∧ J3 n91 f91 s91 x42 (0 : Int) x42 x42 n_01 s_01 n91 f91 s91 x42 (0 : Int) x42 x42 n_01 s_01) ∧ ∀ (n92 f92 : Bool) (s92 : LL) (x13 x14 x15 x421 : Int) (n_02 : Bool) (s_02 :
 LL), J3 n91 f91 s91 x42 (0 : Int) x42 x42 n_01 s_01 n92 f92 s92 x13 x14 x15 x421 n_02 s_02 → if decide (x15 < (↑es.length : Int)) = true then aO s_02 x15 1 ∧ ∃ (n3 : Int), (List.drop 0 (s_02.getD x15.toNat [])).head? = some (Z6 n3) ∧ if
 decide (IntKind.i64.wrap (x14 + n3) > (↑s92.length : Int)) = true then aB (s7 tc tg tj tf tp M S n f es n2 f2 ss n92 f92 s92 (IntKind.i64.wrap (x421 + 1)) n_02 s_02) ∧ J2 n92 f92 s92 (IntKind.i64.wrap (x421 + 1)) n_02 s_02 ∧ μ2 n92
 f92 s92 (IntKind.i64.wrap (x421 + 1)) n_02 s_02 < μ2 n91 f91 s91 x42 n_01 s_01 else if (IntKind.i64.wrap (x14 + n3) == (↑s92.length : Int)) = true then (dC es.length (some x13) (some (IntKind.i64.wrap (x15 + 1))) none ∧ aR es 1) ∧ PCall
 Try.prog 16 [PV.ptr [tc, tg, tj, tf, tp, PV.mp M, PV.mp S], PV.sl n (f && decide (IntKind.i64.wrap (x15 + 1) = (↑es.length : Int))) (List.drop x13.toNat (List.take (IntKind.i64.wrap (x15 + 1)).toNat es))] fun (v1 : PV) ↦ ∃ (n4 : Bool), ∃
 (f3 : Bool), ∃ (es2 : LL), v1 = PV.sl n4 f3 es2 ∧ PCall Try.prog 48 [PV.sl n4 f3 es2, PV.sl n92 f92 s92] fun (v2 : PV) ↦ ∃ (b : Bool), v2 = Zb b ∧ if b = true then R (PV.tup [Z6 x13, Z6 (IntKind.i64.wrap (x15 + 1)), Zb true]) else aB
 (s8 tc tg tj tf tp M S n f es n2 f2 ss n92 f92 s92 x13 (IntKind.i64.wrap (x14 + n3)) (IntKind.i64.wrap (x15 + 1)) x421 n_02 s_02) ∧ J3 n91 f91 s91 x42 (0 : Int) x42 x42 n_01 s_01 n92 f92 s92 x13 (IntKind.i64.wrap (x14 + n3))
 (IntKind.i64.wrap (x15 + 1)) x421 n_02 s_02 ∧ μ3 n92 f92 s92 x13 (IntKind.i64.wrap (x14 + n3)) (IntKind.i64.wrap (x15 + 1)) x421 n_02 s_02 < μ3 n92 f92 s92 x13 x14 x15 x421 n_02 s_02 else aB (s8 tc tg tj tf tp M S n f es n2 f2 ss n92
 f92 s92 x13 (IntKind.i64.wrap (x14 + n3)) (IntKind.i64.wrap (x15 + 1)) x421 n_02 s_02) ∧ J3 n91 f91 s91 x42 (0 : Int) x42 x42 n_01 s_01 n92 f92 s92 x13 (IntKind.i64.wrap (x14 + n3)) (IntKind.i64.wrap (x15 + 1)) x421 n_02 s_02 ∧ μ3 n92 f92
 s92 x13 (IntKind.i64.wrap (x14 + n3)) (IntKind.i64.wrap (x15 + 1)) x421 n_02 s_02 < μ3 n92 f92 s92 x13 x14 x15 x421 n_02 s_02 else aB (s7 tc tg tj tf tp M S n f es n2 f2 ss n92 f92 s92 (IntKind.i64.wrap (x421 + 1)) n_02 s_02) ∧ J2
 n92 f92 s92 (IntKind.i64.wrap (x421 + 1)) n_02 s_02 ∧ μ2 n92 f92 s92 (IntKind.i64.wrap (x421 + 1)) n_02 s_02 < μ2 n91 f91 s91 x42 n_01 s_01 else R (PV.tup [Z6 0, Z6 0, Zb false])
theorem zpp (tc tg tj tf tp : PV) (M S : List (PV × PV)) (n f : Bool) (es : LL) (n2 f2 : Bool) (ss : LL) (J : Bool → Bool → (LL) → Int → Bool → (LL) → Prop) (μ : Bool → Bool → (LL) → Int → Bool → (LL) → Nat) (J2 : Bool → Bool → (LL) → Int → Bool → (LL) → Prop) (μ2 : Bool → Bool → (LL) → Int → Bool → (LL) → Nat) (J3 : Bool → Bool → (LL) → Int → Int → Int → Int → Bool → (LL) → Bool → Bool → (LL) → Int → Int → Int → Int → Bool → (LL) → Prop) (μ3 : Bool → Bool → (LL) → Int → Int → Int → Int → Bool → (LL) → Nat) {R : PV → Prop} (h : zan tc tg tj tf tp M S n f es n2 f2 ss J μ J2 μ2 J3 μ3 R) : PCall Try.prog 18 [.ptr [tc, tg, tj, tf, tp, .mp M, .mp S], .sl n f es, .sl n2 f2 ss] R :=
  PCall.of Try.func18 (by kernel_rfl) (by kernel_rfl) (Nat.le_of_ble_eq_true (by kernel_rfl)) (Eq.mpr (by kernel_rfl : aW Try.prog (fun _ => none) Try.f18 [0, 1, 2, 6, 7, 8, 9, 10, 11, 12, 13, 14, 15, 21, 25, 26, 27, 28, 41, 42, 43, 49, 58, 63] (fun zz_ => match zz_ with | 6 => some ⟨Bool × Bool × (LL) × Int × Bool × (LL), fun s => zam tc tg tj tf tp M S n f es n2 f2 ss s.1 s.2.1 s.2.2.1 s.2.2.2.1 s.2.2.2.2.1 s.2.2.2.2.2, fun _ s => J s.1 s.2.1 s.2.2.1 s.2.2.2.1 s.2.2.2.2.1 s.2.2.2.2.2, fun s => μ s.1 s.2.1 s.2.2.1 s.2.2.2.1 s.2.2.2.2.1 s.2.2.2.2.2, fun e h => (gN e 9, gF e 9, gS e 9, gI e 27, oN h 0, oS h 0), [], [0, 1, 9, 10, 25, 26, 27], [], fun p => ∀ (n9 : Bool) (f9 : Bool) (s9 : LL) (x27 : Int) (n_0 : Bool) (s_0 : LL), p (n9, f9, s9, x27, n_0, s_0), fun p h s => h s.1 s.2.1 s.2.2.1 s.2.2.2.1 s.2.2.2.2.1 s.2.2.2.2.2⟩ | 11 => some ⟨Bool × Bool × (LL) × Int × Bool × (LL), fun s => s7 tc tg tj tf tp M S n f es n2 f2 ss s.1 s.2.1 s.2.2.1 s.2.2.2.1 s.2.2.2.2.1 s.2.2.2.2.2, fun _ s => J2 s.1 s.2.1 s.2.2.1 s.2.2.2.1 s.2.2.2.2.1 s.2.2.2.2.2, fun s => μ2 s.1 s.2.1 s.2.2.1 s.2.2.2.1 s.2.2.2.2.1 s.2.2.2.2.2, fun e h => (gN e 9, gF e 9, gS e 9, gI e 42, oN h 0, oS h 0), [], [0, 1, 9, 10, 41, 42], [], fun p => ∀ (n9 : Bool) (f9 : Bool) (s9 : LL) (x42 : Int) (n_0 : Bool) (s_0 : LL), p (n9, f9, s9, x42, n_0, s_0), fun p h s => h s.1 s.2.1 s.2.2.1 s.2.2.2.1 s.2.2.2.2.1 s.2.2.2.2.2⟩ | 15 => some ⟨Bool × Bool × (LL) × Int × Int × Int × Int × Bool × (LL), fun s => s8 tc tg tj tf tp M S n f es n2 f2 ss s.1 s.2.1 s.2.2.1 s.2.2.2.1 s.2.2.2.2.1 s.2.2.2.2.2.1 s.2.2.2.2.2.2.1 s.2.2.2.2.2.2.2.1 s.2.2.2.2.2.2.2.2, fun t s => J3 t.1 t.2.1 t.2.2.1 t.2.2.2.1 t.2.2.2.2.1 t.2.2.2.2.2.1 t.2.2.2.2.2.2.1 t.2.2.2.2.2.2.2.1 t.2.2.2.2.2.2.2.2 s.1 s.2.1 s.2.2.1 s.2.2.2.1 s.2.2.2.2.1 s.2.2.2.2.2.1 s.2.2.2.2.2.2.1 s.2.2.2.2.2.2.2.1 s.2.2.2.2.2.2.2.2, fun s => μ3 s.1 s.2.1 s.2.2.1 s.2.2.2.1 s.2.2.2.2.1 s.2.2.2.2.2.1 s.2.2.2.2.2.2.1 s.2.2.2.2.2.2.2.1 s.2.2.2.2.2.2.2.2, fun e h => (gN e 9, gF e 9, gS e 9, gI e 13, gI e 14, gI e 15, gI e 42, oN h 0, oS h 0), [], [0, 1, 9, 10, 13, 14, 15, 41, 42], [], fun p => ∀ (n9 : Bool) (f9 : Bool) (s9 : LL) (x13 : Int) (x14 : Int) (x15 : Int) (x42 : Int) (n_0 : Bool) (s_0 : LL), p (n9, f9, s9, x13, x14, x15, x42, n_0, s_0), fun p h s => h s.1 s.2.1 s.2.2.1 s.2.2.2.1 s.2.2.2.2.1 s.2.2.2.2.2.1 s.2.2.2.2.2.2.1 s.2.2.2.2.2.2.2.1 s.2.2.2.2.2.2.2.2⟩ | _ => none) (Try.f18.body.getD .skip) [.ptr [tc, tg, tj, tf, tp, .mp M, .mp S], .sl n f es, .sl n2 f2 ss] R = zan tc tg tj tf tp M S n f es n2 f2 ss J μ J2 μ2 J3 μ3 R) h)

def zao (tc tg tj tf tp : PV) (M S : List (PV × PV)) (n f : Bool) (es : LL) (n2 f2 : Bool) (ss : LL) (R : PV → Prop) : Prop :=
 PCall Try.prog 18 [PV.ptr [tc, tg, tj, tf, tp, PV.mp M, PV.mp S], PV.sl n f es, PV.sl n2 f2 ss] fun (v : PV) ↦ ∃ (vs : List PV), v = PV.tup vs ∧ vs.length = 3 ∧ ∃ (x : PV), vs.head? = some x ∧ ∃ (n1 : Int), x = Z6 n1 ∧ ∃ (x1 : PV),
 vs.tail.head? = some x1 ∧ ∃ (n3 : Int), x1 = Z6 n3 ∧ ∃ (x2 : PV), vs.tail.tail.head? = some x2 ∧ ∃ (b : Bool), x2 = Zb b ∧ R (Zb b)
theorem zpq (tc tg tj tf tp : PV) (M S : List (PV × PV)) (n f : Bool) (es : LL) (n2 f2 : Bool) (ss : LL) {R : PV → Prop} (h : zao tc tg tj tf tp M S n f es n2 f2 ss R) : PCall Try.prog 20 [.ptr [tc, tg, tj, tf, tp, .mp M, .mp S], .sl n f es, .sl n2 f2 ss] R :=
  PCall.of Try.func20 (by kernel_rfl) (by kernel_rfl) (Nat.le_of_ble_eq_true (by kernel_rfl)) (Eq.mpr (by kernel_rfl : aW Try.prog (fun _ => none) Try.f20 [0, 1, 2, 6, 9] (fun _ => none) (Try.f20.body.getD .skip) [.ptr [tc, tg, tj, tf, tp, .mp M, .mp S], .sl n f es, .sl n2 f2 ss] R = zao tc tg tj tf tp M S n f es n2 f2 ss R) h)

def zap  (R : PV → Prop) : Prop :=
 PCall Try.prog 12 [] fun (v : PV) ↦ ∃ (n : Bool), ∃ (f : Bool), ∃ (es : LL), v = PV.sl n f es ∧ PCall Try.prog 11 [PV.sl n f es] fun (v1 : PV) ↦ PCall Try.prog 18 [v1, PV.sl false true [[Z3 120], [Z3 233], [Z3 121]], PV.sl false true [[Z3
 101], [Z3 769]]] fun (v2 : PV) ↦ ∃ (vs : List PV), v2 = PV.tup vs ∧ vs.length = 3 ∧ ∃ (x : PV), vs.head? = some x ∧ ∃ (n1 : Int), x = Z6 n1 ∧ ∃ (x1 : PV), vs.tail.head? = some x1 ∧ ∃ (n2 : Int), x1 = Z6 n2 ∧ ∃ (x2 : PV), vs.tail.tail.head?
 = some x2 ∧ ∃ (b : Bool), x2 = Zb b ∧ PCall Try.prog 18 [v1, PV.sl false true [[Z3 120], [Z3 101], [Z3 769]], PV.sl false true [[Z3 233]]] fun (v3 : PV) ↦ ∃ (vs1 : List PV), v3 = PV.tup vs1 ∧ vs1.length = 3 ∧ ∃ (x3 : PV), vs1.head? = some
 x3 ∧ ∃ (n3 : Int), x3 = Z6 n3 ∧ ∃ (x4 : PV), vs1.tail.head? = some x4 ∧ ∃ (n4 : Int), x4 = Z6 n4 ∧ ∃ (x5 : PV), vs1.tail.tail.head? = some x5 ∧ ∃ (b1 : Bool), x5 = Zb b1 ∧ if (n1 == 1 && n2 == 2 && b && n3 == 1 && n4 == 3 && b1) = true then
 PCall Try.prog 20 [v1, PV.sl false true [[Z3 233]], PV.sl false true [[Z3 101]]] fun (v4 : PV) ↦ ∃ (b2 : Bool), v4 = Zb b2 ∧ R (Zb !b2) else R (Zb false)
theorem zpr  {R : PV → Prop} (h : zap  R) : PCall Try.prog 21 [] R :=
  PCall.of Try.func21 (by kernel_rfl) (by kernel_rfl) (Nat.le_of_ble_eq_true (by kernel_rfl)) (Eq.mpr (by kernel_rfl : aW Try.prog (fun _ => none) Try.f21 [0, 1, 2, 3, 4, 5, 6, 7] (fun _ => none) (Try.f21.body.getD .skip) [] R = zap  R) h)

end Go.Eng



namespace Go.Eng
open Go Go.Proofs Go.Eng.Rows Go.Eng.Trie Go.Eng.Srt
def zgg : Option (Nat × Nat) → PV
  | some (a, b) => .tup [.int .i64 a, .int .i64 b, .bool true]
  | none => .tup [.int .i64 0, .int .i64 0, .bool false]
def fC (rows : List Row) (L : List Int) (i : Nat) : List (List PV) := (L.take i).map (fun r => [PV.int .i64 (aN rows 8 r).length]) ++ List.replicate (L.length - i) [PV.int .i64 0]
section
variable {rows : List Row} {v : PV}
theorem zgh {L : List Int} {i : Nat} (h : i ≤ L.length) : (fC rows L i).length = L.length := by
  unfold fC
  rw [List.length_append, List.length_map, List.length_take, List.length_replicate]; omega
theorem zps {L : List Int} {i : Nat} (h : i < L.length) : (fC rows L i).getD i [] = [PV.int .i64 0] := by
  unfold fC
  rw [List.getD, List.getElem?_append_right (by rw [List.length_map, List.length_take]; omega), List.length_map, List.length_take, List.getElem?_replicate, if_pos (by omega)]; rfl
theorem zpt {L : List Int} {i : Nat} (h : i < L.length) : (fC rows L i).set i [PV.int .i64 (aN rows 8 L[i]).length] = fC rows L (i + 1) := by
  unfold fC
  rw [List.set_append_right _ _ (by rw [List.length_map, List.length_take]; omega), List.length_map, List.length_take, zga h, List.map_append, List.append_assoc]
  congr 1
  rw [show i - min i L.length = 0 by omega, show L.length - i = (L.length - (i + 1)) + 1 by omega, List.replicate_succ, List.set_cons_zero]; rfl
theorem zpu {L : List Int} {i : Nat} (h : i < L.length) : (fC rows L L.length).getD i [] = [PV.int .i64 (aN rows 8 L[i]).length] := by
  unfold fC
  rw [Nat.sub_self, List.replicate_zero, List.append_nil, List.take_length, List.getD, List.getElem?_map, List.getElem?_eq_getElem h]; rfl
theorem zpv (rows : List Row) (L : List Int) : findL rows L [] = some (0, 0) := by
  unfold Rows.findL
  rw [eL, Nat.sub_zero, fU, if_pos (by unfold cQ; rw [zah]; exact decide_eq_true rfl)]
theorem zpw (es : List (List PV)) (k : Nat) (w x : PV) (h : es.getD k [] = [x]) : es.set k (w :: List.append._f [] PUnit.unit (List.drop 1 (es.getD k []))) = es.set k [w] := by rw [h]; rfl
theorem tC {L : List Int} (h : R32 L) (i j : Nat) : R32 (dF L i j) := fun x hx => h x (List.mem_of_mem_take (List.mem_of_mem_drop hx))
theorem zaq (hp : dA rows) (hk : d0 rows) (hv : lI rows v) (n f n2 f2 : Bool) (L P : List Int) (hr : R32 L) (hL : L.length < 100000) (hr2 : R32 P) (hL2 : P.length < 1000000) :
    PCall Try.prog 18 [v, .sl n f (aA L), .sl n2 f2 (aA P)] fun x => x = zgg (findL rows L (bX rows P)) := by
  have hv' := hv
  obtain ⟨tc, tg, tj, tf, tp, made, sec, rfl, ht, hm⟩ := hv
  have hwl := zfw hk P
  refine zpp _ _ _ _ _ _ _ _ _ _ _ _ _
    (fun _ _ s i _ z => s = aA (bX rows P) ∧ (0 ≤ i ∧ i ≤ L.length) ∧ z = fC rows L i.toNat) (fun _ _ _ i _ _ => L.length - i.toNat)
    (fun _ _ s i _ z => s = aA (bX rows P) ∧ (0 ≤ i ∧ i ≤ L.length) ∧ z = fC rows L L.length ∧ findL rows L (bX rows P) = eL rows L (bX rows P) i.toNat (L.length + 1 - i.toNat)) (fun _ _ _ i _ _ => L.length - i.toNat)
    (fun _ _ _ y13 _ _ _ _ _ _ _ s x13 x14 x15 x42 _ z => (y13 = x13 ∧ y13 = x42) ∧ s = aA (bX rows P) ∧ (0 ≤ y13 ∧ y13 < L.length ∧ y13 ≤ x15 ∧ x15 ≤ L.length) ∧ z = fC rows L L.length ∧ x14 = (dK rows L y13.toNat x15.toNat : Nat) ∧ findL rows L (bX rows P) = gK rows L (bX rows P) y13.toNat (x15.toNat + 1)) (fun _ _ _ _ _ x15 _ _ _ => L.length - x15.toNat) ?_
  unfold zan
  refine (zf1 hp hk hv' n2 f2 P hr2 hL2).mono ?_
  rintro _ ⟨n1, f1, rfl⟩
  refine ⟨_, _, _, rfl, aI (fun hc => ?_) (fun hc => ?_)⟩
  · simp only [beq_iff_eq, bG] at hc
    have : bX rows P = [] := List.eq_nil_of_length_eq_zero (by omega)
    rw [this, zpv]; rfl
  simp only [beq_iff_eq, bG] at hc
  have hw0 : bX rows P ≠ [] := fun e => by rw [e] at hc; exact hc rfl
  generalize hwant : bX rows P = want at *
  have hl8 : ((aA L).length : Int) = L.length := by rw [bG]
  rw [hl8]
  refine ⟨⟨by omega, Int.le_refl _, by omega, by omega⟩, ⟨rfl, rfl, ⟨Int.le_refl _, by omega⟩, ?_⟩, ?_⟩
  · unfold fC; simp
  rintro n9 f9 _ i n0 _ ⟨rfl, ⟨i0, i1⟩, rfl⟩
  refine aI (fun hc => ?_) (fun hc => ?_)
  · simp only [decide_eq_true_eq] at hc
    have hi : i.toNat < L.length := by omega
    obtain ⟨g1, g2⟩ := j7 i0 hi
    have hx := hr _ (List.getElem_mem hi)
    have hw : IntKind.i64.wrap (i + 1) = i + 1 := aD (by omega) (by omega)
    have hzl := zgh (rows := rows) (L := L) (i := i.toNat) (by omega)
    have hzg := zps (rows := rows) hi
    refine ⟨g1, L[i.toNat], by rw [g2]; rfl, ?_⟩
    refine (zpo hp hv' hx).mono ?_
    rintro _ ⟨n3, rfl⟩
    rw [hw]
    refine ⟨_, _, _, rfl, ⟨i0, by rw [hzl]; omega, by rw [hzg]; rfl⟩, ⟨rfl, by rw [hzg]; exact Nat.le_refl _⟩, rfl, ⟨rfl, by omega, ?_⟩, by dsimp only; omega⟩
    · rw [zpw _ _ _ _ hzg, show (i + 1).toNat = i.toNat + 1 by omega, ← zpt hi, bG]
  · simp only [decide_eq_true_eq] at hc
    have hie : i.toNat = L.length := by omega
    rw [hie]
    refine ⟨⟨rfl, rfl, ⟨Int.le_refl _, by omega⟩, rfl, rfl⟩, ?_⟩
    clear hc hie i0 i1 i
    rintro n4 f4 _ i n5 _ ⟨rfl, ⟨i0, i1⟩, rfl, hf⟩
    refine aI (fun hc => ?_) (fun hc => ?_)
    · simp only [decide_eq_true_eq] at hc
      have hz0 : dK rows L i.toNat i.toNat = 0 := by unfold dK; rw [zah]; rfl
      refine ⟨⟨rfl, ⟨rfl, rfl⟩, rfl, ⟨i0, hc, Int.le_refl _, i1⟩, rfl, by rw [hz0]; rfl, by rw [hf]; exact zgd hw0 (by omega)⟩, ?_⟩
      rintro n6 f6 _ _ _ j _ n7 _ ⟨⟨rfl, rfl⟩, rfl, ⟨_, _, j0, j1⟩, rfl, rfl, hf2⟩
      have hw : IntKind.i64.wrap (i + 1) = i + 1 := aD (by omega) (by omega)
      rw [hw]
      have nextI : (∀ k, j.toNat + 1 + k ≤ L.length → cQ rows L want i.toNat (j.toNat + 1 + k) = false) → findL rows L want = eL rows L want (i + 1).toNat (L.length + 1 - (i + 1).toNat) := fun h => by
        rw [hf2, zge h, show (i + 1).toNat = i.toNat + 1 by omega]
      refine aI (fun hc2 => ?_) (fun hc2 => ?_)
      · simp only [decide_eq_true_eq] at hc2
        have hj : j.toNat < L.length := by omega
        have hzl := zgh (rows := rows) (L := L) (i := L.length) (Nat.le_refl _)
        have hzg := zpu (rows := rows) hj
        have hsn := zgb rows (L := L) (a := i.toNat) (b := j.toNat) (by omega) hj
        have hle := zpg rows L i.toNat (j.toNat + 1)
        have hwn : IntKind.i64.wrap ((dK rows L i.toNat j.toNat : Nat) + ((aN rows 8 L[j.toNat]).length : Int)) = (dK rows L i.toNat (j.toNat + 1) : Nat) := by
          rw [hsn]
          have : ((dK rows L i.toNat j.toNat : Nat) : Int) + ((aN rows 8 L[j.toNat]).length : Int) = ((dK rows L i.toNat j.toNat + (aN rows 8 L[j.toNat]).length : Nat) : Int) := by omega
          rw [this]; exact aD (by omega) (by omega)
        have hwj : IntKind.i64.wrap (j + 1) = j + 1 := aD (by omega) (by omega)
        refine ⟨⟨by omega, by rw [hzl]; omega, by rw [hzg]; rfl⟩, (aN rows 8 L[j.toNat]).length, by rw [hzg]; rfl, ?_⟩
        rw [hwn, hwj, bG]
        have nextJ : cQ rows L want i.toNat (j.toNat + 1) = false → findL rows L want = gK rows L want i.toNat ((j + 1).toNat + 1) := fun h => by
          rw [hf2, zpk (by omega) h, show (j + 1).toNat = j.toNat + 1 by omega]
        have hj1 : (j + 1).toNat = j.toNat + 1 := by omega
        refine aI (fun h3 => ?_) (fun h3 => ?_)
        · simp only [gt_iff_lt, decide_eq_true_eq] at h3
          exact ⟨rfl, ⟨rfl, ⟨by omega, by omega⟩, rfl, nextI fun k hk2 => zph hk (by omega) (by omega) k hk2⟩, by dsimp only; omega⟩
        · simp only [gt_iff_lt, decide_eq_true_eq] at h3
          refine aI (fun h4 => ?_) (fun h4 => ?_)
          · simp only [beq_iff_eq] at h4
            rw [zak, hj1]
            refine ⟨⟨zaj (by omega) (by omega) (by rw [bG]; omega), dE _⟩, ?_⟩
            have hsl := zal L i.toNat (j.toNat + 1)
            have hnl := zai hk L i.toNat (j.toNat + 1)
            refine (zf1 hp hk hv' _ _ _ (tC hr _ _) (by omega)).mono ?_
            rintro _ ⟨n8, f8, rfl⟩
            refine ⟨_, _, _, rfl, ?_⟩
            refine (zow _ _ _ _ _ _ (by omega)).mono ?_
            rintro _ rfl
            refine ⟨_, rfl, aI (fun h5 => ?_) (fun h5 => ?_)⟩
            · rw [hf2, zpl (by omega) h5]
              show _ = PV.tup [.int .i64 (i.toNat : Int), .int .i64 ((j.toNat + 1 : Nat) : Int), .bool true]
              rw [show (i.toNat : Int) = i by omega, show ((j.toNat + 1 : Nat) : Int) = j + 1 by omega]
            · exact ⟨rfl, ⟨⟨rfl, rfl⟩, rfl, ⟨i0, hc, by omega, by omega⟩, rfl, by rw [hj1], nextJ (by simpa [cQ] using h5)⟩, by dsimp only; omega⟩
          · simp only [beq_iff_eq] at h4
            exact ⟨rfl, ⟨⟨rfl, rfl⟩, rfl, ⟨i0, hc, by omega, by omega⟩, rfl, by rw [hj1], nextJ (zpi hk (by omega))⟩, by dsimp only; omega⟩
      · simp only [decide_eq_true_eq] at hc2
        exact ⟨rfl, ⟨rfl, ⟨by omega, by omega⟩, rfl, nextI fun k hk2 => by omega⟩, by dsimp only; omega⟩
    · simp only [decide_eq_true_eq] at hc
      have hie : i.toNat = L.length := by omega
      rw [hf, hie, zpm hw0]; rfl
theorem zpx (hp : dA rows) (hk : d0 rows) (hv : lI rows v) (n f n2 f2 : Bool) (L P : List Int) (hr : R32 L) (hL : L.length < 100000) (hr2 : R32 P) (hL2 : P.length < 1000000) :
    PCall Try.prog 20 [v, .sl n f (aA L), .sl n2 f2 (aA P)] fun x => x = .bool (findL rows L (bX rows P)).isSome := by
  have hv' := hv
  obtain ⟨tc, tg, tj, tf, tp, made, sec, rfl, ht, hm⟩ := hv
  refine zpq _ _ _ _ _ _ _ _ _ _ _ _ _ ?_; unfold zao
  refine (zaq hp hk hv' n f n2 f2 L P hr hL hr2 hL2).mono ?_
  rintro _ rfl
  cases findL rows L (bX rows P) with
  | none => exact ⟨_, rfl, rfl, _, rfl, _, rfl, _, rfl, _, rfl, _, rfl, _, rfl, rfl⟩
  | some p => exact ⟨_, rfl, rfl, _, rfl, _, rfl, _, rfl, _, rfl, _, rfl, _, rfl, rfl⟩
end
theorem f1' : findL tab [120, 233, 121] (bX tab [101, 769]) = some (1, 2) := by kernel_rfl
theorem f2' : findL tab [120, 101, 769] (bX tab [233]) = some (1, 3) := by kernel_rfl
theorem f3' : findL tab [233] (bX tab [101]) = none := by kernel_rfl
theorem awake21 : PCall Try.prog 21 [] fun v => v = .bool true := by
  refine zpr ?_; unfold zap
  refine p42.mono ?_
  rintro _ ⟨n, f, rfl⟩
  refine ⟨_, _, _, rfl, ?_⟩
  refine (zfy n f).mono fun t ht => ?_
  have ff : ∀ (l m : List Int), l.length < 10 → m.length < 10 → R32 l → R32 m → PCall Try.prog 18 [t, .sl false true (aA l), .sl false true (aA m)] fun x => x = zgg (findL tab l (bX tab m)) := fun l m h1 h2 r1 r2 =>
    zaq pJ sY ht _ _ _ _ l m r1 (by omega) r2 (by omega)
  refine (ff [120, 233, 121] [101, 769] (by simp) (by simp) (fun x hx => by simp at hx; omega) (fun x hx => by simp at hx; omega)).mono ?_
  rintro _ rfl
  rw [f1']
  refine ⟨_, rfl, rfl, _, rfl, _, rfl, _, rfl, _, rfl, _, rfl, _, rfl, ?_⟩
  refine (ff [120, 101, 769] [233] (by simp) (by simp) (fun x hx => by simp at hx; omega) (fun x hx => by simp at hx; omega)).mono ?_
  rintro _ rfl
  rw [f2']
  refine ⟨_, rfl, rfl, _, rfl, _, rfl, _, rfl, _, rfl, _, rfl, _, rfl, bN rfl ?_⟩
  refine (zpx pJ sY ht _ _ _ _ [233] [101] (fun x hx => by simp at hx; omega) (by simp) (fun x hx => by simp at hx; omega) (by simp)).mono ?_
  rintro _ rfl
  rw [f3']
  exact ⟨_, rfl, rfl⟩
end Go.Eng



namespace Go.Eng
open Go Go.Proofs
def zar (n f : Bool) (es : LL) (i j : Int) (R : PV → Prop) : Prop :=
 PCall Try.prog 10 [PV.sl n f es, Z6 30] fun (v : PV) ↦ ∃ (n1 : Bool), ∃ (f1 : Bool), ∃ (es1 : LL), v = PV.sl n1 f1 es1 ∧ if (decide (i < 0) || decide (i > j) || decide (j > (↑es1.length : Int))) = true then PCall Try.prog 21 [] fun (v1 :
 PV) ↦ ∃ (b : Bool), v1 = Zb b ∧ R (Zb b) else PCall Try.prog 12 [] fun (v1 : PV) ↦ ∃ (n2 : Bool), ∃ (f2 : Bool), ∃ (es2 : LL), v1 = PV.sl n2 f2 es2 ∧ PCall Try.prog 11 [PV.sl n2 f2 es2] fun (v2 : PV) ↦ (dC es1.length (some i) (some j)
 none ∧ aR es1 1) ∧ PCall Try.prog 18 [v2, PV.sl n1 f1 es1, PV.sl n1 (f1 && decide (j = (↑es1.length : Int))) (List.drop i.toNat (List.take j.toNat es1))] fun (v3 : PV) ↦ ∃ (vs : List PV), v3 = PV.tup vs ∧ vs.length = 3 ∧ ∃ (x : PV),
 vs.head? = some x ∧ ∃ (n3 : Int), x = Z6 n3 ∧ ∃ (x1 : PV), vs.tail.head? = some x1 ∧ ∃ (n4 : Int), x1 = Z6 n4 ∧ ∃ (x2 : PV), vs.tail.tail.head? = some x2 ∧ ∃ (b : Bool), x2 = Zb b ∧ if (b && decide (n3 ≤ i) && decide (n3 ≤ n4) && decide (n4
 ≤ (↑es1.length : Int))) = true then (dC es1.length (some n3) (some n4) none ∧ aR es1 1) ∧ (dC es1.length (some i) (some j) none ∧ aR es1 1) ∧ PCall Try.prog 22 [PV.sl n2 f2 es2, PV.sl n1 (f1 && decide (n4 = (↑es1.length : Int)))
 (List.drop n3.toNat (List.take n4.toNat es1)), PV.sl n1 (f1 && decide (j = (↑es1.length : Int))) (List.drop i.toNat (List.take j.toNat es1))] fun (v4 : PV) ↦ ∃ (b1 : Bool), v4 = Zb b1 ∧ if b1 = true then PCall Try.prog 21 [] fun (v5 : PV) ↦
 ∃ (b2 : Bool), v5 = Zb b2 ∧ R (Zb b2) else R (Zb false) else R (Zb false)
theorem zpy (n f : Bool) (es : LL) (i j : Int) {R : PV → Prop} (h : zar n f es i j R) : PCall Try.prog 6 [.sl n f es, .int .i64 i, .int .i64 j] R :=
  PCall.of Try.func6 (by kernel_rfl) (by kernel_rfl) (Nat.le_of_ble_eq_true (by kernel_rfl)) (Eq.mpr (by kernel_rfl : aW Try.prog (fun _ => none) Try.f6 [0, 1, 2, 6, 7, 8, 9, 10, 11, 26] (fun _ => none) (Try.f6.body.getD .skip) [.sl n f es, .int .i64 i, .int .i64 j] R = zar n f es i j R) h)

end Go.Eng



namespace Go.Eng
open Go Go.Proofs Go.Eng.Rows Go.Eng.Trie Go.Eng.Srt
theorem zpz (n f : Bool) (l : List Int) (hr : R32 l) (i j : Int) : PCall Try.prog 6 [.sl n f (aA l), .int .i64 i, .int .i64 j] fun v => v = .bool true := by
  refine zpy _ _ _ _ _ ?_; unfold zar
  refine (zos n f l 30 (by omega)).mono ?_
  rintro _ ⟨n1, f1, rfl⟩
  refine ⟨_, _, _, rfl, ?_⟩
  have ll := zpn l 30
  have rl := hr.take 30
  generalize l.take 30 = l at *
  refine aI (fun hb => ?_) (fun hb => ?_)
  · refine awake21.mono ?_
    rintro _ rfl
    exact ⟨_, rfl, rfl⟩
  · simp only [Bool.or_eq_true, decide_eq_true_eq, bG, gt_iff_lt, not_or, Int.not_lt] at hb
    refine p42.mono ?_
    rintro _ ⟨n2, f2, rfl⟩
    refine ⟨_, _, _, rfl, ?_⟩
    refine (zfy n2 f2).mono fun t ht => ?_
    have hs : dC (aA l).length (some i) (some j) none := zaj hb.1.1 hb.1.2 (by rw [bG]; exact hb.2)
    have hle := zal l i.toNat j.toNat
    rw [zak]
    refine ⟨⟨hs, dE _⟩, ?_⟩
    refine (zaq pJ sY ht _ _ _ _ l (dF l i.toNat j.toNat) rl (by omega) (tC rl _ _) (by omega)).mono ?_
    rintro _ rfl
    have hsp := zpe (rows := tab) (L := l) (want := bX tab (dF l i.toNat j.toNat))
    have hit : cQ tab l (bX tab (dF l i.toNat j.toNat)) i.toNat j.toNat = true := by unfold cQ; exact decide_eq_true rfl
    cases hf : Rows.findL tab l (bX tab (dF l i.toNat j.toNat)) with
    | none =>
      rw [hf] at hsp
      rw [hsp i.toNat j.toNat (by omega) (by omega)] at hit
      cases hit
    | some p =>
      obtain ⟨c, d⟩ := p
      rw [hf] at hsp
      obtain ⟨q1, q2, q3, q4⟩ := hsp
      have q5 := q4 i.toNat j.toNat (by omega) (by omega) hit
      have hle2 := zal l c d
      refine ⟨_, rfl, rfl, _, rfl, _, rfl, _, rfl, _, rfl, _, rfl, _, rfl, bN ?_ ?_⟩
      · simp only [Bool.and_eq_true, decide_eq_true_eq, bG, Bool.true_and]; omega
      · rw [zak, Int.toNat_natCast, Int.toNat_natCast]
        refine ⟨⟨zaj (by omega) (by omega) (by rw [bG]; omega), dE _⟩, ⟨hs, dE _⟩, ?_⟩
        refine (zo1 pJ sY _ _ _ _ _ _ zfx _ _ (tC rl _ _) (tC rl _ _) (by omega) (by omega)).mono ?_
        rintro _ rfl
        refine ⟨_, rfl, bN q3 ?_⟩
        refine awake21.mono ?_
        rintro _ rfl
        exact ⟨_, rfl, rfl⟩
theorem lawFindPart {pvs : List PV} (h : oL Try.prog 8 Try.f6.params.toList pvs) : PCall Try.prog 6 pvs fun v => v = .bool true := by
  obtain ⟨v0, r0, rfl, h0, v1, r1, rfl, h1, v2, r2, rfl, h2, rfl⟩ : oL Try.prog 8 [22, 3, 3] pvs := h
  obtain ⟨nl, l, rfl, hr⟩ := zpd h0
  obtain ⟨i, rfl⟩ := zgf h1
  obtain ⟨j, rfl⟩ := zgf h2
  exact zpz _ _ l hr i j
end Go.Eng


