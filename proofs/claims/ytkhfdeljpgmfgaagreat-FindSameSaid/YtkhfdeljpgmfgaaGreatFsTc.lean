/- Abstract states run over the code; what each function gives, printed by program and checked by the kernel; and what follows of it. -/
import Derived.Test.YtkhfdeljpgmfgaaGreatFsTb
set_option linter.unusedVariables false
set_option linter.unusedSimpArgs false
set_option maxRecDepth 100000
set_option linter.constructorNameAsVariable false
namespace Go.Eng
open Go Go.Proofs Go.Eng.Rows Go.Eng.Trie
section
variable {rows : List Row} {tc tg tj tf tp : PV} (M S : List (PV × PV))
def z2q (T : PV) (L : List Int) (r1 : LV) (h' : Hp) : Prop := ∃ nl, r1 = .tup [] ∧ h' = [.box [.pv T, .own 1], .sl (21, 1) true nl (i32s L)]
theorem z33 (hp : zat rows) (ht : Tri rows tc tg tj tf tp) : ∀ (d : Nat) (r : Int) (nl : Bool) (pre : List Int), d ≤ 8 → (-2147483648 ≤ r ∧ r ≤ 2147483647) → pre.length + 3 * 2 ^ d ≤ 1000000000 →
    ACall Tryz.prog 70 [.box 0 0, .pv (.int .i32 r), .pv (.int .i64 d)] [.box [.pv (.ptr [tc, tg, tj, tf, tp, .mp M, .mp S]), .own 1], .sl (21, 1) false nl (i32s pre)] (z2q (.ptr [tc, tg, tj, tf, tp, .mp M, .mp S]) (pre ++ zak rows d r)) := by
  intro d
  induction d with
  | zero =>
    intro r nl pre hd hr hb
    refine ze1 _ _ _ _ _ _ _ _ _ _ _ ?_; unfold zby
    refine (zt7 r).mono ?_
    intro v hv
    by_cases hs : sylB r = true
    · rw [if_pos hs] at hv; subst hv
      refine ⟨_, _, _, rfl, iteT (by simp) ⟨⟨zcf _, ?_⟩, _, rfl, by rw [zb1 hs, zd1]⟩⟩
      have := zer r
      simp only [zac]; omega
    · rw [if_neg hs] at hv; subst hv
      simp only [Bool.not_eq_true] at hs
      refine ⟨_, _, _, rfl, iteF (by simp) ?_⟩
      refine (zxk M S ht hr).mono ?_
      rintro _ rfl
      refine ⟨_, rfl, rfl, _, rfl, _, rfl, _, rfl, _, rfl, _, rfl, _, rfl, iteT (by simp) ⟨⟨zcf [_], ?_⟩, nl && false, rfl, ?_⟩⟩
      · simp only [zac]; omega
      · have : zak rows 0 r = [r] := by simp [zak, hs]
        rw [this, zd1]; rfl
  | succ d ih =>
    intro r nl pre hd hr hb
    have hg := ze7 hp r
    have hw : IntKind.i64.wrap (((d + 1 : Nat) : Int) - 1) = (d : Int) := by rw [show (((d + 1 : Nat) : Int) - 1) = (d : Int) by omega]; exact zaa (by omega) (by omega)
    have h2 : 2 ^ (d + 1) = 2 * 2 ^ d := by rw [Nat.pow_succ]; omega
    have h3 : 1 ≤ 2 ^ d := Nat.one_le_two_pow
    refine ze1 _ _ _ _ _ _ _ _ _ _ _ ?_; unfold zby
    rw [hw]
    refine (zt7 r).mono ?_
    intro v hv
    by_cases hs : sylB r = true
    · rw [if_pos hs] at hv; subst hv
      refine ⟨_, _, _, rfl, iteT (by simp) ⟨⟨zcf _, ?_⟩, _, rfl, by rw [zb1 hs, zd1]⟩⟩
      have := zer r
      simp only [zac]; omega
    · rw [if_neg hs] at hv; subst hv
      simp only [Bool.not_eq_true] at hs
      refine ⟨_, _, _, rfl, iteF (by simp) ?_⟩
      refine (zxk M S ht hr).mono ?_
      rintro _ rfl
      refine ⟨_, rfl, rfl, _, rfl, _, rfl, _, rfl, _, rfl, _, rfl, _, rfl, ?_⟩
      by_cases h0 : zag rows r = (0, 0)
      · refine iteT (by simp [h0]) ⟨⟨zcf [_], ?_⟩, nl && false, rfl, ?_⟩
        · simp only [zac]; omega
        · rw [zga hs h0, zd1]; rfl
      · refine iteF (by simp [h0]; omega) ?_
        have ea := zcv rows d (zag rows r).1
        have heq : zak rows (d + 1) r = zak rows d (zag rows r).1 ++ (if (zag rows r).2 = 0 then [] else zak rows d (zag rows r).2) := by
          rw [zak]; simp [hs, h0]
        rw [heq]
        refine (ih (zag rows r).1 nl pre (by omega) (by omega) (by omega)).mono ?_
        rintro r1 h' ⟨nl1, rfl, rfl⟩
        refine ⟨(nl1, _), ⟨rfl, rfl⟩, ⟨trivial, trivial, trivial⟩, iteD (fun hb2 => ?_) (fun hb2 => ?_)⟩
        · simp only [bne_iff_ne, ne_eq] at hb2
          rw [if_neg hb2]
          refine (ih (zag rows r).2 nl1 (pre ++ zak rows d (zag rows r).1) (by omega) (by omega) (by rw [List.length_append]; omega)).mono ?_
          rintro r2 h2 ⟨nl2, rfl, rfl⟩
          exact ⟨(nl2, _), ⟨rfl, rfl⟩, ⟨trivial, trivial, trivial⟩, nl2, rfl, by rw [← List.append_assoc]; rfl⟩
        · simp only [bne_iff_ne, ne_eq, Decidable.not_not] at hb2
          rw [if_pos hb2, List.append_nil]
          exact ⟨nl1, rfl, rfl⟩
theorem z34 (hp : zat rows) (ht : Tri rows tc tg tj tf tp) : ∀ (d : Nat) (r : Int), d ≤ 8 → (-2147483648 ≤ r ∧ r ≤ 2147483647) →
    ACall Tryz.prog 70 [.box 0 0, .pv (.int .i32 r), .pv (.int .i64 d)] [.box [.pv (.ptr [tc, tg, tj, tf, tp, .mp M, .mp S]), .pv (.sl true true [])]] (z2q (.ptr [tc, tg, tj, tf, tp, .mp M, .mp S]) (zak rows d r)) := by
  intro d
  have mk : ∀ {L : List Int} {args : List LV} {h : Hp}, ACall Tryz.prog 70 args h (fun r1 h' => ∃ m nl, r1 = .tup [] ∧ h' = [.box [.pv (.ptr [tc, tg, tj, tf, tp, .mp M, .mp S]), .own 1], .sl (21, 1) m nl (i32s L)]) → ACall Tryz.prog 70 args h (z2q (.ptr [tc, tg, tj, tf, tp, .mp M, .mp S]) L) := fun {L args h} hc => by
    refine ACall.mark 0 [] hc ?_
    rintro r h' ⟨m, nl, rfl, rfl⟩
    exact ⟨nl, rfl, rfl⟩
  have base : ∀ (L : List Int), L.length ≤ 768 → ApOK true [] (i32s L) 1 4 := fun L hL => ⟨rfl, .inl rfl, fun e he => (by cases he), zcf L, by simp only [List.length_nil, zac]; omega⟩
  induction d with
  | zero =>
    intro r hd hr
    refine mk (zeh _ _ _ _ _ _ _ _ _ ?_); unfold zbn
    refine (zt7 r).mono ?_
    intro v hv
    by_cases hs : sylB r = true
    · rw [if_pos hs] at hv; subst hv
      have := zer r
      exact ⟨_, _, _, rfl, iteT (by simp) ⟨base _ (by omega), _, _, rfl, by rw [zb1 hs]; rfl⟩⟩
    · rw [if_neg hs] at hv; subst hv
      simp only [Bool.not_eq_true] at hs
      refine ⟨_, _, _, rfl, iteF (by simp) ?_⟩
      refine (zxk M S ht hr).mono ?_
      rintro _ rfl
      refine ⟨_, rfl, rfl, _, rfl, _, rfl, _, rfl, _, rfl, _, rfl, _, rfl, iteT (by simp) ⟨base [_] (by simp), false, false, rfl, ?_⟩⟩
      have : zak rows 0 r = [r] := by simp [zak, hs]
      rw [this]; rfl
  | succ d ih =>
    intro r hd hr
    have hg := ze7 hp r
    have hw : IntKind.i64.wrap (((d + 1 : Nat) : Int) - 1) = (d : Int) := by rw [show (((d + 1 : Nat) : Int) - 1) = (d : Int) by omega]; exact zaa (by omega) (by omega)
    have hpow : 2 ^ d ≤ 2 ^ 8 := Nat.pow_le_pow_right (by omega) (by omega)
    refine mk (zeh _ _ _ _ _ _ _ _ _ ?_); unfold zbn
    rw [hw]
    refine (zt7 r).mono ?_
    intro v hv
    by_cases hs : sylB r = true
    · rw [if_pos hs] at hv; subst hv
      have := zer r
      exact ⟨_, _, _, rfl, iteT (by simp) ⟨base _ (by omega), _, _, rfl, by rw [zb1 hs]; rfl⟩⟩
    · rw [if_neg hs] at hv; subst hv
      simp only [Bool.not_eq_true] at hs
      refine ⟨_, _, _, rfl, iteF (by simp) ?_⟩
      refine (zxk M S ht hr).mono ?_
      rintro _ rfl
      refine ⟨_, rfl, rfl, _, rfl, _, rfl, _, rfl, _, rfl, _, rfl, _, rfl, ?_⟩
      by_cases h0 : zag rows r = (0, 0)
      · refine iteT (by simp [h0]) ⟨base [_] (by simp), false, false, rfl, ?_⟩
        rw [zga hs h0]; rfl
      · refine iteF (by simp [h0]; omega) ?_
        have ea := zcv rows d (zag rows r).1
        have heq : zak rows (d + 1) r = zak rows d (zag rows r).1 ++ (if (zag rows r).2 = 0 then [] else zak rows d (zag rows r).2) := by
          rw [zak]; simp [hs, h0]
        rw [heq]
        refine (ih (zag rows r).1 (by omega) (by omega)).mono ?_
        rintro r1 h' ⟨nl1, rfl, rfl⟩
        refine ⟨(nl1, _), ⟨rfl, rfl⟩, ⟨trivial, trivial⟩, iteD (fun hb2 => ?_) (fun hb2 => ?_)⟩
        · simp only [bne_iff_ne, ne_eq] at hb2
          rw [if_neg hb2]
          refine (z33 M S hp ht d (zag rows r).2 nl1 (zak rows d (zag rows r).1) (by omega) (by omega) (by omega)).mono ?_
          rintro r2 h2 ⟨nl2, rfl, rfl⟩
          exact ⟨(nl2, _), ⟨rfl, rfl⟩, ⟨trivial, trivial, trivial⟩, true, nl2, rfl, rfl⟩
        · simp only [bne_iff_ne, ne_eq, Decidable.not_not] at hb2
          rw [if_pos hb2, List.append_nil]
          exact ⟨true, nl1, rfl, rfl⟩
theorem z4w (hp : zat rows) (ht : Tri rows tc tg tj tf tp) {r : Int} (hr : -2147483648 ≤ r ∧ r ≤ 2147483647) : PCall Tryz.prog 40 [.ptr [tc, tg, tj, tf, tp, .mp M, .mp S], .int .i32 r] fun v => ∃ nl, v = .sl nl false (i32s (zak rows 8 r)) := by
  refine zph _ _ _ _ _ _ _ _ ?_; unfold zf0
  refine ⟨rfl, ?_⟩
  refine (z34 M S hp ht 8 r (by omega) hr).mono ?_
  rintro r1 h' ⟨nl, rfl, rfl⟩
  exact ⟨(nl, _), ⟨rfl, rfl⟩, ⟨trivial, trivial⟩, nl, rfl⟩
end
end Go.Eng



namespace Go.Eng.Srt
open Go Go.Eng
section
variable {α : Type} (key : α → Int)
def Srtd (l : List α) : Prop := l.Pairwise fun x y => key x ≤ key y
def Stab (l r : List α) : Prop := l.Perm r ∧ ∀ c, l.filter (fun x => decide (key x = c)) = r.filter (fun x => decide (key x = c))
variable {key}
theorem Stab.refl (l : List α) : Stab key l l := ⟨List.Perm.refl _, fun _ => rfl⟩
theorem Stab.trans {a b c : List α} (h : Stab key a b) (k : Stab key b c) : Stab key a c := ⟨h.1.trans k.1, fun x => (h.2 x).trans (k.2 x)⟩
theorem Stab.symm {a b : List α} (h : Stab key a b) : Stab key b a := ⟨h.1.symm, fun x => (h.2 x).symm⟩
theorem Stab.app {a b c d : List α} (h : Stab key a b) (k : Stab key c d) : Stab key (a ++ c) (b ++ d) := ⟨h.1.append k.1, fun x => by rw [List.filter_append, List.filter_append, h.2, k.2]⟩
theorem Stab.len {a b : List α} (h : Stab key a b) : a.length = b.length := h.1.length_eq
theorem Stab.mem {a b : List α} (h : Stab key a b) {x : α} : x ∈ a ↔ x ∈ b := h.1.mem_iff
theorem Stab.rot {a b : List α} (h : ∀ x ∈ a, ∀ y ∈ b, key x ≠ key y) : Stab key (a ++ b) (b ++ a) := by
  refine ⟨List.perm_append_comm, fun c => ?_⟩
  rw [List.filter_append, List.filter_append]
  by_cases hc : ∃ x ∈ a, key x = c
  · obtain ⟨x, hx, hxc⟩ := hc
    have : b.filter (fun x => decide (key x = c)) = [] := List.filter_eq_nil_iff.2 fun y hy => by
      simp only [decide_eq_true_eq]; intro e; exact h x hx y hy (hxc.trans e.symm)
    rw [this]; simp
  · have : a.filter (fun x => decide (key x = c)) = [] := List.filter_eq_nil_iff.2 fun y hy => by
      simp only [decide_eq_true_eq]; intro e; exact hc ⟨y, hy, e⟩
    rw [this]; simp
theorem Stab.rot1 {u v : List α} {a b : List α} (h : ∀ x ∈ a, ∀ y ∈ b, key x ≠ key y) : Stab key (u ++ (a ++ b) ++ v) (u ++ (b ++ a) ++ v) := ((Stab.refl u).app (.rot h)).app (.refl v)
theorem Stab.uniq : ∀ {l r : List α}, Srtd key l → Srtd key r → Stab key l r → l = r
  | [], r, _, _, h => by have := h.len; cases r with | nil => rfl | cons => simp at this
  | x :: l, [], _, _, h => by have := h.len; simp at this
  | x :: l, y :: r, hl, hr, h => by
    have hk : key x = key y := by
      have h1 : key x ≤ key y := by
        rcases List.mem_cons.1 (h.mem.2 List.mem_cons_self : y ∈ x :: l) with e | e
        · rw [e]; exact Int.le_refl _
        · exact (List.pairwise_cons.1 hl).1 y e
      have h2 : key y ≤ key x := by
        rcases List.mem_cons.1 (h.mem.1 List.mem_cons_self : x ∈ y :: r) with e | e
        · rw [e]; exact Int.le_refl _
        · exact (List.pairwise_cons.1 hr).1 x e
      omega
    have hxy : x = y := by
      have := h.2 (key x)
      rw [List.filter_cons, List.filter_cons, if_pos (by simp), if_pos (by simp [hk])] at this
      exact (List.cons.inj this).1
    subst hxy
    have ht : Stab key l r := ⟨(List.perm_cons x).1 h.1, fun c => by
      have := h.2 c
      rw [List.filter_cons, List.filter_cons] at this
      split at this
      · exact (List.cons.inj this).2
      · exact this⟩
    rw [Stab.uniq (List.pairwise_cons.1 hl).2 (List.pairwise_cons.1 hr).2 ht]
theorem zdd {a b : List α} : Srtd key (a ++ b) ↔ Srtd key a ∧ Srtd key b ∧ ∀ x ∈ a, ∀ y ∈ b, key x ≤ key y := List.pairwise_append
end
section
variable {α : Type}
theorem zok (u v : List α) (x : α) : (u ++ x :: v)[u.length]? = some x := by simp
theorem zm0 (u v : List α) (x y : α) : (u ++ x :: v).set u.length y = u ++ y :: v := by simp
theorem zzx (u v w : List α) (x y : α) : ((u ++ x :: (v ++ y :: w)).set u.length y).set (u.length + 1 + v.length) x = u ++ y :: (v ++ x :: w) := by
  rw [zm0]
  have e : u ++ y :: (v ++ y :: w) = (u ++ y :: v) ++ y :: w := by simp
  have e2 : u.length + 1 + v.length = (u ++ y :: v).length := by simp; omega
  rw [e, e2, zm0]
  simp
theorem zrj (u w : List α) (x y : α) : ((u ++ x :: y :: w).set (u.length + 1) x).set u.length y = u ++ y :: x :: w := by
  have e : u ++ x :: y :: w = (u ++ [x]) ++ y :: w := by simp
  have e2 : u.length + 1 = (u ++ [x]).length := by simp
  rw [e, e2, zm0]
  have e3 : (u ++ [x]) ++ x :: w = u ++ x :: (x :: w) := by simp
  rw [e3, zm0]
theorem zvj (u w : List α) (x y : α) : ((u ++ x :: y :: w).set u.length y).set (u.length + 1) x = u ++ y :: x :: w := by
  simp
end
end Go.Eng.Srt



namespace Go.Eng
open Go Go.Proofs Go.Eng.Rows Go.Eng.Srt
def znm (T : PV) (key : Int → Int) : Prop := ∀ a b : Int, (-2147483648 ≤ a ∧ a ≤ 2147483647) → (-2147483648 ≤ b ∧ b ≤ 2147483647) → PCall Tryz.prog 100 [.int .i32 a, .int .i32 b, .ptr [T]] fun v => ∃ n : Int, v = .int .i64 n ∧ (n < 0 ↔ key a < key b)
theorem za9 {D : List Int} {k : Nat} {v : Int} (h : D[k]? = some v) : (i32s D).getD k [] = [.int .i32 v] := by
  simp [i32s, List.getD, h]
theorem zxn (D : List Int) (k : Nat) (v : Int) : (i32s D).set k [.int .i32 v] = i32s (D.set k v) := by simp [i32s, List.map_set]
theorem zrk {D : List Int} (h : R32 D) {k : Nat} {v : Int} (hv : D[k]? = some v) : -2147483648 ≤ v ∧ v ≤ 2147483647 := h v (List.mem_of_getElem? hv)
theorem zlo (D : List Int) {i j : Nat} {x y : Int} (hi : D[i]? = some x) (hj : D[j]? = some y) (hij : i ≠ j) (p q : Int) :
    ((i32s D).set i (.int .i32 p :: List.append._f [] PUnit.unit (List.drop 1 ((i32s D).getD i [])))).set j (.int .i32 q :: List.append._f [] PUnit.unit (List.drop 1 (((i32s D).set i (.int .i32 p :: List.append._f [] PUnit.unit (List.drop 1 ((i32s D).getD i [])))).getD j []))) = i32s ((D.set i p).set j q) ∧
    ((i32s D).getD i []).length = 1 ∧ ((i32s D).getD j []).length = 1 ∧ (((i32s D).set i (.int .i32 p :: List.append._f [] PUnit.unit (List.drop 1 ((i32s D).getD i [])))).getD j []).length = 1 := by
  rw [za9 hi, za9 hj]
  have e1 : (i32s D).set i (.int .i32 p :: List.append._f [] PUnit.unit (List.drop 1 [PV.int .i32 x])) = i32s (D.set i p) := zxn D i p
  have hj2 : (D.set i p)[j]? = some y := by rw [List.getElem?_set_ne hij]; exact hj
  rw [e1, za9 hj2]
  exact ⟨zxn _ _ _, rfl, rfl, rfl⟩
def z4x (key : Int → Int) (nl : Bool) (T : PV) (P S R : List Int) (r : LV) (h' : Hp) : Prop := ∃ S' : List Int, r = .tup [] ∧ h' = [.sl (21, 1) false nl (i32s (P ++ S' ++ R)), .box [.pv T]] ∧ Srtd key S' ∧ Stab key S S'
section
variable {key : Int → Int} {T : PV}
theorem aIns (hc : znm T key) (lo hi : Nat) (nl : Bool) (P S R : List Int) (a b : Int) (ha : 0 ≤ a) (hP : P.length = lo + a.toNat) (hb : b = a + S.length) (hhi : (lo : Int) + b ≤ hi) (hr : R32 (P ++ S ++ R)) (hlen : hi < 1000000000000) :
    ACall Tryz.prog 131 [.sub 0 lo hi, .pv (.int .i64 a), .pv (.int .i64 b), .fn 100 [.box 1 0]] [.sl (21, 1) false nl (i32s (P ++ S ++ R)), .box [.pv T]] (z4x key nl T P S R) := by
  refine zc5 _ _ _ _ _ _ _
    (fun i s => ∃ A B, s = i32s (P ++ (A ++ B) ++ R) ∧ Srtd key A ∧ Stab key S (A ++ B) ∧ (i ≤ b → (A.length : Int) = i - a) ∧ a < i ∧ (b < i → S = [])) (fun i _ => (b + 1 - i).toNat)
    (fun i _ _ i' j s => i = i' ∧ ∃ A x B C, s = i32s (P ++ (A ++ x :: (B ++ C)) ++ R) ∧ (A.length : Int) = j - a ∧ (B.length : Int) = i - j ∧ Srtd key (A ++ B) ∧ (∀ y ∈ B, key x < key y) ∧ Stab key S (A ++ x :: (B ++ C)) ∧ a ≤ j) (fun _ j _ => (j - a).toNat) ?_
  unfold zay
  have hwa : IntKind.i64.wrap (a + 1) = a + 1 := zaa (by omega) (by omega)
  rw [hwa]
  refine ⟨⟨rfl, S.take 1, S.drop 1, by rw [List.take_append_drop], ?_, by rw [List.take_append_drop]; exact .refl _, fun h => ?_, by omega, fun h => ?_⟩, ?_⟩
  · cases S with
    | nil => exact List.Pairwise.nil
    | cons x l => exact List.pairwise_singleton _ _
  · cases S with
    | nil => simp at hb; omega
    | cons x l => simp; omega
  · cases S with
    | nil => rfl
    | cons x l => simp at hb; omega
  rintro i _ ⟨A, B, rfl, hA, hst, hAB, hi0, hi1⟩
  refine iteD (fun hc1 => ?_) (fun hc1 => ?_)
  · simp only [decide_eq_true_eq] at hc1
    have hlAB := hst.len
    rw [List.length_append] at hlAB
    have hiw : IntKind.i64.wrap (i + 1) = i + 1 := zaa (by omega) (by omega)
    cases B with
    | nil =>
      have := hAB (by omega)
      simp at hlAB; omega
    | cons x C =>
      have hAl := hAB (by omega)
      refine ⟨⟨rfl, rfl, A, x, [], C, rfl, hAl, by simp, by simpa using hA, fun y hy => (by cases hy), hst, by omega⟩, ?_⟩
      clear hst hlAB hA hAl hAB
      rintro _ j _ ⟨rfl, A, x, B, C, rfl, hAl, hBl, hAB, hxB, hst, hja⟩
      have hR : R32 (P ++ (A ++ x :: (B ++ C)) ++ R) := fun y hy => hr y (by
        simp only [List.mem_append] at hy ⊢
        rcases hy with (hy | hy) | hy
        · exact .inl (.inl hy)
        · exact .inl (.inr (hst.mem.2 (by simpa using hy)))
        · exact .inr hy)
      have hlen2 := hst.len
      simp only [List.length_append, List.length_cons] at hlen2
      have fin : (∀ y ∈ A, key y ≤ key x) → ∃ A' B', i32s (P ++ (A ++ x :: (B ++ C)) ++ R) = i32s (P ++ (A' ++ B') ++ R) ∧ Srtd key A' ∧ Stab key S (A' ++ B') ∧ (i + 1 ≤ b → (A'.length : Int) = i + 1 - a) ∧ a < i + 1 ∧ (b < i + 1 → S = []) := fun hAx => by
        refine ⟨A ++ x :: B, C, by simp, ?_, by simpa using hst, fun _ => by simp; omega, by omega, fun h => by omega⟩
        obtain ⟨s1, s2, s3⟩ := zdd.1 hAB
        refine zdd.2 ⟨s1, List.pairwise_cons.2 ⟨fun y hy => Int.le_of_lt (hxB y hy), s2⟩, fun y hy z hz => ?_⟩
        rcases List.mem_cons.1 hz with rfl | hz
        · exact hAx y hy
        · exact s3 y hy z hz
      have hmu1 : (b + 1 - (i + 1)).toNat < (b + 1 - i).toNat := by omega
      refine iteD (fun hc2 => ?_) (fun hc2 => ?_)
      · simp only [decide_eq_true_eq, gt_iff_lt] at hc2
        have hwj : IntKind.i64.wrap (j - 1) = j - 1 := zaa (by omega) (by omega)
        rw [hwj]
        obtain ⟨A0, y, rfl⟩ : ∃ A0 y, A = A0 ++ [y] := by
          rcases List.eq_nil_or_concat A with h | ⟨A0, y, h⟩
          · subst h; simp at hAl; omega
          · exact ⟨A0, y, by simpa using h⟩
        simp only [List.length_append, List.length_cons, List.length_nil] at hAl
        have hD : P ++ (A0 ++ [y] ++ x :: (B ++ C)) ++ R = (P ++ A0) ++ y :: x :: (B ++ C ++ R) := by simp
        have hk : lo + (j - 1).toNat = (P ++ A0).length := by simp; omega
        have hk1 : lo + j.toNat = (P ++ A0).length + 1 := by simp; omega
        have gy : (P ++ (A0 ++ [y] ++ x :: (B ++ C)) ++ R)[lo + (j - 1).toNat]? = some y := by rw [hD, hk]; simp
        have gx : (P ++ (A0 ++ [y] ++ x :: (B ++ C)) ++ R)[lo + j.toNat]? = some x := by
          rw [hD, hk1, List.getElem?_append_right (by omega)]; simp
        obtain ⟨t1, t2, t3, t4⟩ := zlo _ gx gy (by omega) y x
        have hsw : ((P ++ (A0 ++ [y] ++ x :: (B ++ C)) ++ R).set (lo + j.toNat) y).set (lo + (j - 1).toNat) x = P ++ (A0 ++ x :: ((y :: B) ++ C)) ++ R := by
          rw [hD, hk, hk1, zrj]; simp
        rw [hsw] at t1
        refine ⟨⟨by omega, by omega, t2⟩, x, by rw [za9 gx]; rfl, ⟨by omega, by omega, t3⟩, y, by rw [za9 gy]; rfl, ?_⟩
        refine (hc x y (zrk hR gx) (zrk hR gy)).mono ?_
        rintro _ ⟨n2, rfl, hn2⟩
        refine ⟨n2, rfl, rfl, iteD (fun hlt => ?_) (fun hlt => ?_)⟩
        · simp only [decide_eq_true_eq] at hlt
          have hkey := hn2.1 hlt
          refine ⟨⟨by omega, by omega, t3⟩, y, by rw [za9 gy]; rfl, ⟨by omega, by omega, t2⟩, x, by rw [za9 gx]; rfl, ⟨by omega, by omega, t2⟩, ?_⟩
          have hsrt : Srtd key (A0 ++ y :: B) := by simpa using hAB
          have hst2 : Stab key S (A0 ++ x :: ((y :: B) ++ C)) := by
            refine hst.trans ?_
            have := Stab.rot1 (key := key) (u := A0) (v := B ++ C) (a := [y]) (b := [x]) (fun p hp q hq => by simp at hp hq; subst hp; subst hq; omega)
            simpa using this
          have hle1 : 1 ≤ ((i32s (P ++ (A0 ++ [y] ++ x :: (B ++ C)) ++ R)).getD (lo + j.toNat) []).length := by rw [t2]; exact Nat.le_refl _
          refine ⟨?_, ?_⟩
          all_goals
            refine ⟨⟨rfl, hle1⟩, ⟨by omega, by omega, t4⟩, ⟨rfl, by rw [t4]; exact Nat.le_refl _⟩, ?_⟩
            exact ⟨rfl, ⟨rfl, A0, x, y :: B, C, t1, by omega, by rw [List.length_cons]; omega, hsrt, fun z hz => (by rcases List.mem_cons.1 hz with rfl | hz; exact hkey; exact hxB z hz), hst2, by omega⟩, by dsimp only; omega⟩
        · simp only [decide_eq_true_eq] at hlt
          have hkey : ¬ key x < key y := fun h => hlt (hn2.2 h)
          rw [hiw]
          refine ⟨rfl, fin fun z hz => ?_, hmu1⟩
          rcases List.mem_append.1 hz with hz | hz
          · have := (zdd.1 (zdd.1 hAB).1).2.2 z hz y (by simp)
            omega
          · simp only [List.mem_singleton] at hz; subst hz; omega
      · simp only [decide_eq_true_eq, gt_iff_lt] at hc2
        have hA0 : A = [] := List.length_eq_zero_iff.1 (by omega)
        subst hA0
        rw [hiw]
        exact ⟨rfl, fin fun z hz => (by cases hz), hmu1⟩
  · simp only [decide_eq_true_eq] at hc1
    have hB : B = [] := by
      by_cases hib : i ≤ b
      · have h1 := hAB hib
        have h2 := hst.len
        rw [List.length_append] at h2
        exact List.length_eq_zero_iff.1 (by omega)
      · have h0 := hi1 (by omega)
        subst h0
        have h2 := hst.len
        rw [List.length_append] at h2
        exact List.length_eq_zero_iff.1 (by simp at h2; omega)
    subst hB
    exact ⟨A, rfl, by simp, hA, by simpa using hst⟩
end
end Go.Eng



namespace Go.Eng
open Go Go.Proofs Go.Eng.Rows Go.Eng.Srt
section
variable {T : PV}
theorem zxo (lo hi : Nat) (nl : Bool) (P X Q Y R : List Int) (a b n : Int) (ha : 0 ≤ a) (hP : P.length = lo + a.toNat) (hX : (X.length : Int) = n) (hY : (Y.length : Int) = n) (hQ : b = a + n + Q.length) (hhi : (lo : Int) + b + n ≤ hi) (hlen : hi < 1000000000000) :
    ACall Tryz.prog 135 [.sub 0 lo hi, .pv (.int .i64 a), .pv (.int .i64 b), .pv (.int .i64 n), .fn 100 [.box 1 0]] [.sl (21, 1) false nl (i32s (P ++ (X ++ (Q ++ (Y ++ R))))), .box [.pv T]]
      fun r h' => r = .tup [] ∧ h' = [.sl (21, 1) false nl (i32s (P ++ (Y ++ (Q ++ (X ++ R))))), .box [.pv T]] := by
  refine zd6 _ _ _ _ _ _ _ _
    (fun i s => 0 ≤ i ∧ i ≤ n ∧ s = i32s (P ++ (Y.take i.toNat ++ (X.drop i.toNat ++ (Q ++ (X.take i.toNat ++ (Y.drop i.toNat ++ R))))))) (fun i _ => (n - i).toNat) ?_
  unfold za4
  refine ⟨⟨rfl, Int.le_refl _, by omega, by simp⟩, ?_⟩
  rintro i _ ⟨i0, i1, rfl⟩
  refine iteD (fun hc => ?_) (fun hc => ?_)
  · simp only [decide_eq_true_eq] at hc
    have hix : i.toNat < X.length := by omega
    have hiy : i.toNat < Y.length := by omega
    have wb : IntKind.i64.wrap (b + i) = b + i := zaa (by omega) (by omega)
    have wa : IntKind.i64.wrap (a + i) = a + i := zaa (by omega) (by omega)
    have wi : IntKind.i64.wrap (i + 1) = i + 1 := zaa (by omega) (by omega)
    have hn : (i + 1).toNat = i.toNat + 1 := by omega
    rw [wb, wa, wi]
    have lt : (Y.take i.toNat).length = i.toNat := by rw [List.length_take]; omega
    have ltx : (X.take i.toNat).length = i.toNat := by rw [List.length_take]; omega
    have dx : X.drop i.toNat = X[i.toNat] :: X.drop (i.toNat + 1) := List.drop_eq_getElem_cons hix
    have dy : Y.drop i.toNat = Y[i.toNat] :: Y.drop (i.toNat + 1) := List.drop_eq_getElem_cons hiy
    have tx : X.take (i.toNat + 1) = X.take i.toNat ++ [X[i.toNat]] := zas hix
    have ty : Y.take (i.toNat + 1) = Y.take i.toNat ++ [Y[i.toNat]] := zas hiy
    have ldx : (X.drop (i.toNat + 1)).length = X.length - (i.toNat + 1) := List.length_drop
    obtain ⟨D, hDe⟩ : ∃ D, D = P ++ (Y.take i.toNat ++ (X.drop i.toNat ++ (Q ++ (X.take i.toNat ++ (Y.drop i.toNat ++ R))))) := ⟨_, rfl⟩
    rw [← hDe]
    have hD : D = (P ++ Y.take i.toNat) ++ X[i.toNat] :: ((X.drop (i.toNat + 1) ++ Q ++ X.take i.toNat) ++ Y[i.toNat] :: (Y.drop (i.toNat + 1) ++ R)) := by rw [hDe, dx, dy]; simp only [List.append_assoc, List.cons_append, List.nil_append]
    have hka : lo + (a + i).toNat = (P ++ Y.take i.toNat).length := by rw [List.length_append, lt]; omega
    have hkb : lo + (b + i).toNat = (P ++ Y.take i.toNat).length + 1 + (X.drop (i.toNat + 1) ++ Q ++ X.take i.toNat).length := by simp only [List.length_append, lt, ltx, ldx]; omega
    have hsw : (D.set (lo + (a + i).toNat) Y[i.toNat]).set (lo + (b + i).toNat) X[i.toNat] = P ++ (Y.take (i + 1).toNat ++ (X.drop (i + 1).toNat ++ (Q ++ (X.take (i + 1).toNat ++ (Y.drop (i + 1).toNat ++ R))))) := by
      rw [hD, hka, hkb, zzx, hn, tx, ty]; simp only [List.append_assoc, List.cons_append, List.nil_append]
    have gx : D[lo + (a + i).toNat]? = some X[i.toNat] := by rw [hD, hka, zok]
    have gy : D[lo + (b + i).toNat]? = some Y[i.toNat] := by
      have e : ∀ (u v w : List Int) (x y : Int), u ++ x :: (v ++ y :: w) = (u ++ x :: v) ++ y :: w := fun u v w x y => by simp
      have e2 : ∀ (u v : List Int) (x : Int), u.length + 1 + v.length = (u ++ x :: v).length := fun u v x => by simp; omega
      rw [hD, hkb, e, e2 _ _ X[i.toNat], zok]
    obtain ⟨t1, t2, t3, t4⟩ := zlo _ gx gy (by omega) Y[i.toNat] X[i.toNat]
    rw [hsw] at t1
    have hla : 1 ≤ ((i32s D).getD (lo + (a + i).toNat) []).length := by rw [t2]; exact Nat.le_refl _
    refine ⟨⟨by omega, by omega, t3⟩, Y[i.toNat], by rw [za9 gy]; rfl, ⟨by omega, by omega, t2⟩, X[i.toNat], by rw [za9 gx]; rfl, ⟨by omega, by omega, t2⟩, ?_⟩
    refine ⟨?_, ?_⟩
    all_goals exact ⟨⟨rfl, hla⟩, ⟨by omega, by omega, t4⟩, ⟨rfl, by rw [t4]; exact Nat.le_refl _⟩, rfl, ⟨by omega, by omega, t1⟩, by dsimp only; omega⟩
  · simp only [decide_eq_true_eq] at hc
    have hi : i = n := by omega
    subst hi
    rw [List.take_of_length_le (by omega), List.take_of_length_le (by omega), List.drop_of_length_le (by omega), List.drop_of_length_le (by omega)]
    exact ⟨rfl, by simp⟩
theorem z2r (lo hi : Nat) (nl : Bool) (P X Y R : List Int) (a m b : Int) (ha : 0 ≤ a) (hP : P.length = lo + a.toNat) (hX : m = a + X.length) (hY : b = m + Y.length) (hx : X ≠ []) (hy : Y ≠ []) (hhi : (lo : Int) + b ≤ hi) (hlen : hi < 1000000000000) :
    ACall Tryz.prog 134 [.sub 0 lo hi, .pv (.int .i64 a), .pv (.int .i64 m), .pv (.int .i64 b), .fn 100 [.box 1 0]] [.sl (21, 1) false nl (i32s (P ++ (X ++ (Y ++ R)))), .box [.pv T]]
      fun r h' => r = .tup [] ∧ h' = [.sl (21, 1) false nl (i32s (P ++ (Y ++ (X ++ R)))), .box [.pv T]] := by
  have hxl := List.length_pos_iff.2 hx
  have hyl := List.length_pos_iff.2 hy
  refine zey _ _ _ _ _ _ _ _
    (fun i j s => 0 < i ∧ 0 < j ∧ i + j ≤ b - a ∧ ∃ P1 U V R1 : List Int, s = i32s (P1 ++ (U ++ (V ++ R1))) ∧ P1 ++ (V ++ (U ++ R1)) = P ++ (Y ++ (X ++ R)) ∧ (U.length : Int) = i ∧ (V.length : Int) = j ∧ ((P1.length : Int) + i = lo + m) ∧ (lo : Int) + a ≤ P1.length ∧ m + j ≤ b) (fun i j _ => (i + j).toNat) ?_
  unfold zbe
  have w1 : IntKind.i64.wrap (m - a) = X.length := by rw [zaa (by omega) (by omega)]; omega
  have w2 : IntKind.i64.wrap (b - m) = Y.length := by rw [zaa (by omega) (by omega)]; omega
  rw [w1, w2]
  refine ⟨⟨rfl, by omega, by omega, by omega, P, X, Y, R, rfl, rfl, rfl, rfl, by omega, by omega, by omega⟩, ?_⟩
  rintro i j _ ⟨i0, j0, hij, P1, U, V, R1, rfl, he, hU, hV, hP1, hPa, hmj⟩
  have wmi : IntKind.i64.wrap (m - i) = m - i := zaa (by omega) (by omega)
  rw [wmi]
  have lens : ∀ (s t : List Int), s.length = t.length → (i32s s).length = (i32s t).length := fun s t h => by simp [h]
  refine iteD (fun hne => ?_) (fun hne => ?_)
  · simp only [bne_iff_ne, ne_eq] at hne
    refine iteD (fun hgt => ?_) (fun hgt => ?_)
    · simp only [decide_eq_true_eq, gt_iff_lt] at hgt
      have w3 : IntKind.i64.wrap (i - j) = i - j := zaa (by omega) (by omega)
      rw [w3]
      obtain ⟨U1, U2, rfl, hU1⟩ : ∃ U1 U2, U = U1 ++ U2 ∧ (U1.length : Int) = j := ⟨U.take j.toNat, U.drop j.toNat, by rw [List.take_append_drop], by rw [List.length_take]; omega⟩
      rw [List.length_append] at hU
      have := zxo (T := T) lo hi nl P1 U1 U2 V R1 (m - i) m j (by omega) (by omega) hU1 hV (by omega) (by omega) hlen
      rw [show P1 ++ (U1 ++ U2 ++ (V ++ R1)) = P1 ++ (U1 ++ (U2 ++ (V ++ R1))) by simp]
      refine this.mono ?_
      rintro r h' ⟨rfl, rfl⟩
      refine ⟨_, ⟨rfl, rfl⟩, ⟨trivial, ⟨rfl, rfl, lens _ _ (by simp only [List.length_append]; omega)⟩, trivial⟩, rfl, ⟨by omega, by omega, by omega, P1 ++ V, U2, U1, R1, by simp, by rw [← he]; simp, by omega, hU1, by rw [List.length_append]; omega, by rw [List.length_append]; omega, by omega⟩, by dsimp only; omega⟩
    · simp only [decide_eq_true_eq, gt_iff_lt] at hgt
      have w3 : IntKind.i64.wrap (j - i) = j - i := zaa (by omega) (by omega)
      have w4 : IntKind.i64.wrap (m + j) = m + j := zaa (by omega) (by omega)
      have w5 : IntKind.i64.wrap (m + j - i) = m + j - i := zaa (by omega) (by omega)
      rw [w4, w5, w3]
      obtain ⟨V1, V2, rfl, hV1⟩ : ∃ V1 V2, V = V1 ++ V2 ∧ (V1.length : Int) = j - i := ⟨V.take (j - i).toNat, V.drop (j - i).toNat, by rw [List.take_append_drop], by rw [List.length_take]; omega⟩
      rw [List.length_append] at hV
      have := zxo (T := T) lo hi nl P1 U V1 V2 R1 (m - i) (m + j - i) i (by omega) (by omega) hU (by omega) (by omega) (by omega) hlen
      rw [show P1 ++ (U ++ (V1 ++ V2 ++ R1)) = P1 ++ (U ++ (V1 ++ (V2 ++ R1))) by simp]
      refine this.mono ?_
      rintro r h' ⟨rfl, rfl⟩
      refine ⟨_, ⟨rfl, rfl⟩, ⟨trivial, ⟨rfl, rfl, lens _ _ (by simp only [List.length_append]; omega)⟩, trivial⟩, rfl, ⟨by omega, by omega, by omega, P1, V2, V1, U ++ R1, by simp, by rw [← he]; simp, by omega, hV1, by omega, by omega, by omega⟩, by dsimp only; omega⟩
  · simp only [bne_iff_ne, ne_eq, Decidable.not_not] at hne
    have := zxo (T := T) lo hi nl P1 U [] V R1 (m - i) m i (by omega) (by omega) hU (by omega) (by simp) (by omega) hlen
    refine ACall.mono (by simpa using this) ?_
    rintro r h' ⟨rfl, rfl⟩
    refine ⟨_, ⟨rfl, rfl⟩, ⟨trivial, ⟨rfl, rfl, lens _ _ (by simp only [List.length_append]; omega)⟩, trivial⟩, rfl, ?_⟩
    rw [← he]
end
end Go.Eng



namespace Go.Eng.Srt
open Go Go.Eng
variable {key : Int → Int}
theorem Srtd.get {l : List Int} (h : Srtd key l) {i j : Nat} (hij : i ≤ j) (hj : j < l.length) : key (l.getD i 0) ≤ key (l.getD j 0) := by
  have hi : i < l.length := by omega
  simp only [List.getD, List.getElem?_eq_getElem hi, List.getElem?_eq_getElem hj, Option.getD_some]
  rcases Nat.lt_or_ge i j with h1 | h1
  · exact (List.pairwise_iff_getElem.1 h) i j hi hj h1
  · have : i = j := by omega
    subst this; exact Int.le_refl _
theorem zff {l : List Int} {x : Int} (h : x ∈ l) : ∃ i, i < l.length ∧ l.getD i 0 = x := by
  obtain ⟨i, hi, rfl⟩ := List.getElem_of_mem h
  exact ⟨i, hi, by simp [List.getD, hi]⟩
theorem zjt {l : List Int} {i : Nat} (h : i < l.length) : l[i]? = some (l.getD i 0) := by simp [List.getD, h]
theorem Srtd.sub {l m : List Int} (h : Srtd key l) (hs : m.Sublist l) : Srtd key m := List.Pairwise.sublist hs h
theorem z0u {x : Int} {A B : List Int} (hs : Srtd key (A ++ B)) (h1 : ∀ y ∈ A, key y ≤ key x) (h2 : ∀ y ∈ B, key x ≤ key y) : Srtd key (A ++ x :: B) := by
  obtain ⟨s1, s2, s3⟩ := zdd.1 hs
  refine zdd.2 ⟨s1, List.pairwise_cons.2 ⟨h2, s2⟩, fun y hy z hz => ?_⟩
  rcases List.mem_cons.1 hz with rfl | hz
  · exact h1 y hy
  · exact s3 y hy z hz
theorem z4y {X1 X2 Y1 Y2 S1 S2 : List Int} (hX : Srtd key (X1 ++ X2)) (hY : Srtd key (Y1 ++ Y2)) (f1 : ∀ x ∈ X2, ∀ y ∈ Y1, key y < key x) (f2 : ∀ x ∈ X1, ∀ y ∈ Y2, key x ≤ key y)
    (h1 : Srtd key S1) (k1 : Stab key (X1 ++ Y1) S1) (h2 : Srtd key S2) (k2 : Stab key (X2 ++ Y2) S2) : Srtd key (S1 ++ S2) ∧ Stab key ((X1 ++ X2) ++ (Y1 ++ Y2)) (S1 ++ S2) := by
  obtain ⟨_, _, x3⟩ := zdd.1 hX
  obtain ⟨_, _, y3⟩ := zdd.1 hY
  refine ⟨zdd.2 ⟨h1, h2, fun x hx y hy => ?_⟩, ?_⟩
  · rcases List.mem_append.1 (k1.mem.2 hx) with hx | hx <;> rcases List.mem_append.1 (k2.mem.2 hy) with hy | hy
    · exact x3 x hx y hy
    · exact f2 x hx y hy
    · exact Int.le_of_lt (f1 y hy x hx)
    · exact y3 x hx y hy
  · refine Stab.trans ?_ (k1.app k2)
    have := Stab.rot1 (key := key) (u := X1) (v := Y2) (a := X2) (b := Y1) (fun x hx y hy => by have := f1 x hx y hy; omega)
    simpa using this
end Go.Eng.Srt



namespace Go.Eng
open Go Go.Proofs Go.Eng.Rows Go.Eng.Srt
def SymQ (key : Int → Int) (nl : Bool) (T : PV) (P S R : List Int) (r : LV) (h' : Hp) : Prop := ∃ S' : List Int, r = .tup [] ∧ h' = [.sl (21, 1) false nl (i32s (P ++ (S' ++ R))), .box [.pv T]] ∧ Srtd key S' ∧ Stab key S S'
section
variable {key : Int → Int} {T : PV}
theorem mid2 {i j : Int} (h0 : 0 ≤ i) (h1 : i ≤ j) (h2 : j ≤ 1000000000000) : IntKind.i64.wrap ((IntKind.u64.wrap (IntKind.i64.wrap (i + j))).fdiv (2 ^ 1)) = (i + j) / 2 := z0q h0 h1 (by omega)
theorem z4z (hc : znm T key) (lo hi : Nat) (nl : Bool) (P Y R : List Int) (x : Int) (a m b : Int) (ha : 0 ≤ a) (hP : P.length = lo + a.toNat) (hm : m = a + 1) (hb : b = m + Y.length) (hhi : (lo : Int) + b ≤ hi) (hr : R32 (P ++ ([x] ++ (Y ++ R)))) (hlen : hi < 1000000000000) (hY : Srtd key Y) :
    ACall Tryz.prog 132 [.sub 0 lo hi, .pv (.int .i64 a), .pv (.int .i64 m), .pv (.int .i64 b), .fn 100 [.box 1 0]] [.sl (21, 1) false nl (i32s (P ++ ([x] ++ (Y ++ R)))), .box [.pv T]] (SymQ key nl T P ([x] ++ Y) R) := by
  have hat : ∀ h : Int, m ≤ h → h < b → (P ++ ([x] ++ (Y ++ R)))[lo + h.toNat]? = some (Y.getD (h - m).toNat 0) := fun h h1 h2 => by
    have e : P ++ ([x] ++ (Y ++ R)) = (P ++ [x]) ++ (Y ++ R) := by simp
    rw [e, List.getElem?_append_right (by simp; omega), show lo + h.toNat - (P ++ [x]).length = (h - m).toNat by simp; omega, List.getElem?_append_left (by omega)]
    exact zjt (by omega)
  have hax : (P ++ ([x] ++ (Y ++ R)))[lo + a.toNat]? = some x := by rw [← hP]; exact zok P (Y ++ R) x
  refine za8 _ _ _ _ _ _ _ _
    (fun i j s => s = i32s (P ++ ([x] ++ (Y ++ R))) ∧ m ≤ i ∧ i ≤ j ∧ j ≤ b ∧ (∀ h, m ≤ h → h < i → key (Y.getD (h - m).toNat 0) < key x) ∧ (∀ h, j ≤ h → h < b → ¬ key (Y.getD (h - m).toNat 0) < key x)) (fun i j _ => (j - i).toNat)
    (fun i k s => m ≤ i ∧ i ≤ b ∧ (∀ h, m ≤ h → h < i → key (Y.getD (h - m).toNat 0) < key x) ∧ (∀ h, i ≤ h → h < b → ¬ key (Y.getD (h - m).toNat 0) < key x) ∧ a ≤ k ∧ k ≤ i - 1 ∧ s = i32s (P ++ (Y.take (k - a).toNat ++ (x :: (Y.drop (k - a).toNat ++ R))))) (fun i k _ => (i - 1 - k).toNat)
    (fun _ _ _ => True) (fun _ _ _ => 0) (fun _ _ _ => True) (fun _ _ _ => 0) (fun _ _ _ => True) (fun _ _ _ => 0) ?_
  unfold zan
  have w1 : IntKind.i64.wrap (m - a) = 1 := by rw [zaa (by omega) (by omega)]; omega
  refine iteT (by rw [w1]; rfl) ⟨⟨rfl, rfl, Int.le_refl _, by omega, Int.le_refl _, fun h h1 h2 => by omega, fun h h1 h2 => by omega⟩, ?_⟩
  rintro i j _ ⟨rfl, i0, hij, hjb, hlt, hge⟩
  refine iteD (fun hc1 => ?_) (fun hc1 => ?_)
  · simp only [decide_eq_true_eq] at hc1
    rw [mid2 (by omega) (by omega) (by omega)]
    obtain ⟨h, hh⟩ : ∃ h, h = (i + j) / 2 := ⟨_, rfl⟩
    rw [← hh]
    have b1 : i ≤ h ∧ h < j := by omega
    have gy := hat h (by omega) (by omega)
    have wh : IntKind.i64.wrap (h + 1) = h + 1 := zaa (by omega) (by omega)
    rw [wh]
    refine ⟨⟨by omega, by omega, by rw [za9 gy]; rfl⟩, _, by rw [za9 gy]; rfl, ⟨by omega, by omega, by rw [za9 hax]; rfl⟩, x, by rw [za9 hax]; rfl, ?_⟩
    refine (hc _ x (zrk hr gy) (zrk hr hax)).mono ?_
    rintro _ ⟨n2, rfl, hn2⟩
    refine ⟨n2, rfl, rfl, iteD (fun hl => ?_) (fun hl => ?_)⟩
    · simp only [decide_eq_true_eq] at hl
      have hk := hn2.1 hl
      refine ⟨rfl, ⟨rfl, by omega, by omega, by omega, fun q q1 q2 => ?_, hge⟩, by dsimp only; omega⟩
      have := hY.get (i := (q - m).toNat) (j := (h - m).toNat) (by omega) (by omega)
      omega
    · simp only [decide_eq_true_eq] at hl
      have hk : ¬ key (Y.getD (h - m).toNat 0) < key x := fun h => hl (hn2.2 h)
      refine ⟨rfl, ⟨rfl, by omega, by omega, by omega, hlt, fun q q1 q2 => ?_⟩, by dsimp only; omega⟩
      have := hY.get (i := (h - m).toNat) (j := (q - m).toNat) (by omega) (by omega)
      omega
  · simp only [decide_eq_true_eq] at hc1
    have : i = j := by omega
    subst this
    refine ⟨⟨rfl, i0, hjb, hlt, hge, Int.le_refl _, by omega, by simp⟩, ?_⟩
    clear hc1 hij hjb hlt hge i0
    rintro i k _ ⟨i0, ib, hlt, hge, k0, k1, rfl⟩
    have wi : IntKind.i64.wrap (i - 1) = i - 1 := zaa (by omega) (by omega)
    rw [wi]
    refine iteD (fun hc2 => ?_) (fun hc2 => ?_)
    · simp only [decide_eq_true_eq] at hc2
      have wk : IntKind.i64.wrap (k + 1) = k + 1 := zaa (by omega) (by omega)
      rw [wk]
      have hlk : (k - a).toNat < Y.length := by omega
      have hn : (k + 1 - a).toNat = (k - a).toNat + 1 := by omega
      have dy : Y.drop (k - a).toNat = Y[(k - a).toNat] :: Y.drop ((k - a).toNat + 1) := List.drop_eq_getElem_cons hlk
      have ty : Y.take ((k - a).toNat + 1) = Y.take (k - a).toNat ++ [Y[(k - a).toNat]] := zas hlk
      have lt : (Y.take (k - a).toNat).length = (k - a).toNat := by rw [List.length_take]; omega
      obtain ⟨D, hDe⟩ : ∃ D, D = P ++ (Y.take (k - a).toNat ++ (x :: (Y.drop (k - a).toNat ++ R))) := ⟨_, rfl⟩
      have hRD : R32 D := fun y hy => hr y (by
        rw [hDe] at hy
        simp only [List.mem_append, List.mem_cons] at hy ⊢
        rcases hy with hy | hy | hy | hy | hy
        · exact .inl hy
        · exact .inr (.inr (.inl (List.mem_of_mem_take hy)))
        · exact .inr (.inl (by simp [hy]))
        · exact .inr (.inr (.inl (List.mem_of_mem_drop hy)))
        · exact .inr (.inr (.inr hy)))
      rw [← hDe]
      have hD : D = (P ++ Y.take (k - a).toNat) ++ x :: Y[(k - a).toNat] :: (Y.drop ((k - a).toNat + 1) ++ R) := by rw [hDe, dy]; simp only [List.append_assoc, List.cons_append, List.nil_append]
      have hk0 : lo + k.toNat = (P ++ Y.take (k - a).toNat).length := by rw [List.length_append, lt]; omega
      have hk1 : lo + (k + 1).toNat = (P ++ Y.take (k - a).toNat).length + 1 := by rw [List.length_append, lt]; omega
      have gx : D[lo + k.toNat]? = some x := by rw [hD, hk0, zok]
      have gy : D[lo + (k + 1).toNat]? = some Y[(k - a).toNat] := by rw [hD, hk1, List.getElem?_append_right (by omega)]; simp
      have hsw : (D.set (lo + k.toNat) Y[(k - a).toNat]).set (lo + (k + 1).toNat) x = P ++ (Y.take (k + 1 - a).toNat ++ (x :: (Y.drop (k + 1 - a).toNat ++ R))) := by
        rw [hD, hk0, hk1, zvj, hn, ty]; simp only [List.append_assoc, List.cons_append, List.nil_append]
      obtain ⟨t1, t2, t3, t4⟩ := zlo D gx gy (by omega) Y[(k - a).toNat] x
      rw [hsw] at t1
      have hla : 1 ≤ ((i32s D).getD (lo + k.toNat) []).length := by rw [t2]; exact Nat.le_refl _
      refine ⟨⟨by omega, by omega, t3⟩, Y[(k - a).toNat], by rw [za9 gy]; rfl, ⟨by omega, by omega, t2⟩, x, by rw [za9 gx]; rfl, ⟨by omega, by omega, t2⟩, ?_⟩
      refine ⟨?_, ?_⟩
      all_goals exact ⟨⟨rfl, hla⟩, ⟨by omega, by omega, t4⟩, ⟨rfl, by rw [t4]; exact Nat.le_refl _⟩, rfl, ⟨i0, ib, hlt, hge, by omega, by omega, t1⟩, by dsimp only; omega⟩
    · simp only [decide_eq_true_eq] at hc2
      have hk : (k - a).toNat = (i - m).toNat := by omega
      rw [hk]
      have h1 : ∀ y ∈ Y.take (i - m).toNat, key y < key x := fun y hy => by
        obtain ⟨q, hq, rfl⟩ := zff hy
        rw [List.length_take] at hq
        have e : (Y.take (i - m).toNat).getD q 0 = Y.getD q 0 := by simp only [List.getD]; rw [List.getElem?_take_of_lt (by omega)]
        rw [e]
        have := hlt (m + q) (by omega) (by omega)
        rwa [show (m + (q : Int) - m).toNat = q by omega] at this
      have h2 : ∀ y ∈ Y.drop (i - m).toNat, key x ≤ key y := fun y hy => by
        obtain ⟨q, hq, rfl⟩ := zff hy
        rw [List.length_drop] at hq
        have e : (Y.drop (i - m).toNat).getD q 0 = Y.getD ((i - m).toNat + q) 0 := by simp only [List.getD, List.getElem?_drop]
        rw [e]
        have := hge (i + q) (by omega) (by omega)
        rw [show (i + (q : Int) - m).toNat = (i - m).toNat + q by omega] at this
        omega
      have hYs : Srtd key (Y.take (i - m).toNat ++ Y.drop (i - m).toNat) := by rw [List.take_append_drop]; exact hY
      refine ⟨Y.take (i - m).toNat ++ x :: Y.drop (i - m).toNat, rfl, by simp, z0u hYs (fun y hy => Int.le_of_lt (h1 y hy)) h2, ?_⟩
      have := Stab.rot1 (key := key) (u := []) (v := Y.drop (i - m).toNat) (a := [x]) (b := Y.take (i - m).toNat) (fun p hp q hq => by simp at hp; subst hp; have := h1 q hq; omega)
      simpa using this
end
end Go.Eng



namespace Go.Eng
open Go Go.Proofs Go.Eng.Rows Go.Eng.Srt
section
variable {key : Int → Int} {T : PV}
theorem z40 (hc : znm T key) (lo hi : Nat) (nl : Bool) (P X R : List Int) (y : Int) (a m b : Int) (ha : 0 ≤ a) (hP : P.length = lo + a.toNat) (hm : m = a + X.length) (hX1 : X.length ≠ 1) (hb : b = m + 1) (hhi : (lo : Int) + b ≤ hi) (hr : R32 (P ++ (X ++ ([y] ++ R)))) (hlen : hi < 1000000000000) (hX : Srtd key X) :
    ACall Tryz.prog 132 [.sub 0 lo hi, .pv (.int .i64 a), .pv (.int .i64 m), .pv (.int .i64 b), .fn 100 [.box 1 0]] [.sl (21, 1) false nl (i32s (P ++ (X ++ ([y] ++ R)))), .box [.pv T]] (SymQ key nl T P (X ++ [y]) R) := by
  have hat : ∀ h : Int, a ≤ h → h < m → (P ++ (X ++ ([y] ++ R)))[lo + h.toNat]? = some (X.getD (h - a).toNat 0) := fun h h1 h2 => by
    rw [List.getElem?_append_right (by omega), show lo + h.toNat - P.length = (h - a).toNat by omega, List.getElem?_append_left (by omega)]
    exact zjt (by omega)
  have hay : (P ++ (X ++ ([y] ++ R)))[lo + m.toNat]? = some y := by
    have e : P ++ (X ++ ([y] ++ R)) = (P ++ X) ++ y :: R := by simp
    rw [e, show lo + m.toNat = (P ++ X).length by simp; omega, zok]
  refine za8 _ _ _ _ _ _ _ _
    (fun _ _ _ => True) (fun _ _ _ => 0) (fun _ _ _ => True) (fun _ _ _ => 0)
    (fun i j s => s = i32s (P ++ (X ++ ([y] ++ R))) ∧ a ≤ i ∧ i ≤ j ∧ j ≤ m ∧ (∀ h, a ≤ h → h < i → ¬ key y < key (X.getD (h - a).toNat 0)) ∧ (∀ h, j ≤ h → h < m → key y < key (X.getD (h - a).toNat 0))) (fun i j _ => (j - i).toNat)
    (fun i k s => a ≤ i ∧ i ≤ m ∧ (∀ h, a ≤ h → h < i → ¬ key y < key (X.getD (h - a).toNat 0)) ∧ (∀ h, i ≤ h → h < m → key y < key (X.getD (h - a).toNat 0)) ∧ i ≤ k ∧ k ≤ m ∧ s = i32s (P ++ (X.take (k - a).toNat ++ (y :: (X.drop (k - a).toNat ++ R))))) (fun i k _ => (k - i).toNat)
    (fun _ _ _ => True) (fun _ _ _ => 0) ?_
  unfold zan
  have w1 : IntKind.i64.wrap (m - a) = X.length := by rw [zaa (by omega) (by omega)]; omega
  have w2 : IntKind.i64.wrap (b - m) = 1 := by rw [zaa (by omega) (by omega)]; omega
  refine iteF (by rw [w1]; simp; omega) (iteT (by rw [w2]; rfl) ⟨⟨rfl, rfl, Int.le_refl _, by omega, Int.le_refl _, fun h h1 h2 => by omega, fun h h1 h2 => by omega⟩, ?_⟩)
  rintro i j _ ⟨rfl, i0, hij, hjb, hlt, hge⟩
  refine iteD (fun hc1 => ?_) (fun hc1 => ?_)
  · simp only [decide_eq_true_eq] at hc1
    rw [mid2 (by omega) (by omega) (by omega)]
    obtain ⟨h, hh⟩ : ∃ h, h = (i + j) / 2 := ⟨_, rfl⟩
    rw [← hh]
    have b1 : i ≤ h ∧ h < j := by omega
    have gx := hat h (by omega) (by omega)
    have wh : IntKind.i64.wrap (h + 1) = h + 1 := zaa (by omega) (by omega)
    rw [wh]
    refine ⟨⟨by omega, by omega, by rw [za9 hay]; rfl⟩, y, by rw [za9 hay]; rfl, ⟨by omega, by omega, by rw [za9 gx]; rfl⟩, _, by rw [za9 gx]; rfl, ?_⟩
    refine (hc y _ (zrk hr hay) (zrk hr gx)).mono ?_
    rintro _ ⟨n2, rfl, hn2⟩
    refine ⟨n2, rfl, rfl, iteD (fun hl => ?_) (fun hl => ?_)⟩
    · simp only [Bool.not_eq_true', decide_eq_false_iff_not] at hl
      have hk : ¬ key y < key (X.getD (h - a).toNat 0) := fun h => hl (hn2.2 h)
      refine ⟨rfl, ⟨rfl, by omega, by omega, by omega, fun q q1 q2 => ?_, hge⟩, by dsimp only; omega⟩
      have := hX.get (i := (q - a).toNat) (j := (h - a).toNat) (by omega) (by omega)
      omega
    · simp only [Bool.not_eq_true', decide_eq_false_iff_not, Decidable.not_not] at hl
      have hk := hn2.1 hl
      refine ⟨rfl, ⟨rfl, by omega, by omega, by omega, hlt, fun q q1 q2 => ?_⟩, by dsimp only; omega⟩
      have := hX.get (i := (h - a).toNat) (j := (q - a).toNat) (by omega) (by omega)
      omega
  · simp only [decide_eq_true_eq] at hc1
    have : i = j := by omega
    subst this
    have hml : (m - a).toNat = X.length := by omega
    refine ⟨⟨rfl, i0, hjb, hlt, hge, by omega, Int.le_refl _, by rw [hml]; simp⟩, ?_⟩
    clear hc1 hij hjb hlt hge i0
    rintro i k _ ⟨i0, ib, hlt, hge, k0, k1, rfl⟩
    refine iteD (fun hc2 => ?_) (fun hc2 => ?_)
    · simp only [decide_eq_true_eq, gt_iff_lt] at hc2
      have wk : IntKind.i64.wrap (k - 1) = k - 1 := zaa (by omega) (by omega)
      rw [wk]
      have hlk : (k - 1 - a).toNat < X.length := by omega
      have hn : (k - a).toNat = (k - 1 - a).toNat + 1 := by omega
      have dx : X.drop (k - 1 - a).toNat = X[(k - 1 - a).toNat] :: X.drop ((k - 1 - a).toNat + 1) := List.drop_eq_getElem_cons hlk
      have tx : X.take ((k - 1 - a).toNat + 1) = X.take (k - 1 - a).toNat ++ [X[(k - 1 - a).toNat]] := zas hlk
      have lt : (X.take (k - 1 - a).toNat).length = (k - 1 - a).toNat := by rw [List.length_take]; omega
      obtain ⟨D, hDe⟩ : ∃ D, D = P ++ (X.take (k - a).toNat ++ (y :: (X.drop (k - a).toNat ++ R))) := ⟨_, rfl⟩
      have hRD : R32 D := fun z hz => hr z (by
        rw [hDe] at hz
        simp only [List.mem_append, List.mem_cons] at hz ⊢
        rcases hz with hz | hz | hz | hz | hz
        · exact .inl hz
        · exact .inr (.inl (List.mem_of_mem_take hz))
        · exact .inr (.inr (.inl (by simp [hz])))
        · exact .inr (.inl (List.mem_of_mem_drop hz))
        · exact .inr (.inr (.inr hz)))
      rw [← hDe]
      have hD : D = (P ++ X.take (k - 1 - a).toNat) ++ X[(k - 1 - a).toNat] :: y :: (X.drop ((k - 1 - a).toNat + 1) ++ R) := by rw [hDe, hn, tx]; simp only [List.append_assoc, List.cons_append, List.nil_append]
      have hk0 : lo + (k - 1).toNat = (P ++ X.take (k - 1 - a).toNat).length := by rw [List.length_append, lt]; omega
      have hk1 : lo + k.toNat = (P ++ X.take (k - 1 - a).toNat).length + 1 := by rw [List.length_append, lt]; omega
      have gx : D[lo + (k - 1).toNat]? = some X[(k - 1 - a).toNat] := by rw [hD, hk0, zok]
      have gy : D[lo + k.toNat]? = some y := by rw [hD, hk1, List.getElem?_append_right (by omega)]; simp
      have hsw : (D.set (lo + k.toNat) X[(k - 1 - a).toNat]).set (lo + (k - 1).toNat) y = P ++ (X.take (k - 1 - a).toNat ++ (y :: (X.drop (k - 1 - a).toNat ++ R))) := by
        rw [hD, hk0, hk1, zrj, dx]; simp only [List.append_assoc, List.cons_append, List.nil_append]
      obtain ⟨t1, t2, t3, t4⟩ := zlo D gy gx (by omega) X[(k - 1 - a).toNat] y
      rw [hsw] at t1
      have hla : 1 ≤ ((i32s D).getD (lo + k.toNat) []).length := by rw [t2]; exact Nat.le_refl _
      refine ⟨⟨by omega, by omega, t3⟩, X[(k - 1 - a).toNat], by rw [za9 gx]; rfl, ⟨by omega, by omega, t2⟩, y, by rw [za9 gy]; rfl, ⟨by omega, by omega, t2⟩, ?_⟩
      refine ⟨?_, ?_⟩
      all_goals exact ⟨⟨rfl, hla⟩, ⟨by omega, by omega, t4⟩, ⟨rfl, by rw [t4]; exact Nat.le_refl _⟩, rfl, ⟨i0, ib, hlt, hge, by omega, by omega, t1⟩, by dsimp only; omega⟩
    · simp only [decide_eq_true_eq, gt_iff_lt] at hc2
      have hk : k = i := by omega
      subst hk
      have h1 : ∀ z ∈ X.take (k - a).toNat, key z ≤ key y := fun z hz => by
        obtain ⟨q, hq, rfl⟩ := zff hz
        rw [List.length_take] at hq
        have e : (X.take (k - a).toNat).getD q 0 = X.getD q 0 := by simp only [List.getD]; rw [List.getElem?_take_of_lt (by omega)]
        rw [e]
        have := hlt (a + q) (by omega) (by omega)
        rw [show (a + (q : Int) - a).toNat = q by omega] at this
        omega
      have h2 : ∀ z ∈ X.drop (k - a).toNat, key y < key z := fun z hz => by
        obtain ⟨q, hq, rfl⟩ := zff hz
        rw [List.length_drop] at hq
        have e : (X.drop (k - a).toNat).getD q 0 = X.getD ((k - a).toNat + q) 0 := by simp only [List.getD, List.getElem?_drop]
        rw [e]
        have := hge (k + q) (by omega) (by omega)
        rwa [show (k + (q : Int) - a).toNat = (k - a).toNat + q by omega] at this
      have hXs : Srtd key (X.take (k - a).toNat ++ X.drop (k - a).toNat) := by rw [List.take_append_drop]; exact hX
      refine ⟨X.take (k - a).toNat ++ y :: X.drop (k - a).toNat, rfl, by simp, z0u hXs h1 (fun z hz => Int.le_of_lt (h2 z hz)), ?_⟩
      have := Stab.rot1 (key := key) (u := X.take (k - a).toNat) (v := []) (a := X.drop (k - a).toNat) (b := [y]) (fun p hp q hq => by simp at hq; subst hq; have := h2 p hp; omega)
      rw [← List.append_assoc, List.take_append_drop] at this
      simpa using this
end
end Go.Eng



namespace Go.Eng
open Go Go.Proofs Go.Eng.Rows Go.Eng.Srt
section
variable {key : Int → Int} {T : PV} (lo hi : Nat) (nl : Bool)
abbrev hpS (nl : Bool) (T : PV) (t : List (List PV)) : Hp := [.sl (21, 1) false nl t, .box [.pv T]]
abbrev z2s (nl : Bool) (T : PV) (t : List (List PV)) (K : List (List PV) → Prop) : LV → Hp → Prop := fun r h' => ∃ t1, (r = .tup [] ∧ h' = hpS nl T t1) ∧ (True ∧ ((21, 1) = (21, 1) ∧ nl = nl ∧ t.length = t1.length) ∧ True) ∧ K t1
def zt9 (T : PV) (mid e b : Int) (Q : LV → Hp → Prop) (t : List (List PV)) : Prop :=
  if (decide (mid < e) && decide (e < b)) = true then ACall Tryz.prog 132 [.sub 0 lo hi, .pv (.int .i64 mid), .pv (.int .i64 e), .pv (.int .i64 b), .fn 100 [.box 1 0]] (hpS nl T t) (z2s nl T t fun t1 => Q (.tup []) (hpS nl T t1)) else Q (.tup []) (hpS nl T t)
def zua (T : PV) (a s mid e b : Int) (Q : LV → Hp → Prop) (t : List (List PV)) : Prop :=
  if (decide (a < s) && decide (s < mid)) = true then ACall Tryz.prog 132 [.sub 0 lo hi, .pv (.int .i64 a), .pv (.int .i64 s), .pv (.int .i64 mid), .fn 100 [.box 1 0]] (hpS nl T t) (z2s nl T t (zt9 lo hi nl T mid e b Q)) else zt9 lo hi nl T mid e b Q t
def zxp (T : PV) (a s m mid e b : Int) (Q : LV → Hp → Prop) (t : List (List PV)) : Prop :=
  if (decide (s < m) && decide (m < e)) = true then ACall Tryz.prog 134 [.sub 0 lo hi, .pv (.int .i64 s), .pv (.int .i64 m), .pv (.int .i64 e), .fn 100 [.box 1 0]] (hpS nl T t) (z2s nl T t (zua lo hi nl T a s mid e b Q)) else zua lo hi nl T a s mid e b Q t
theorem R32.of {l m : List Int} (h : R32 l) (hm : ∀ x ∈ m, x ∈ l) : R32 m := fun x hx => h x (hm x hx)
def z0v (T : PV) (key : Int → Int) (N : Int) : Prop := ∀ (P X Y R : List Int) (a m b : Int), 0 ≤ a → P.length = lo + a.toNat → m = a + X.length → b = m + Y.length → X ≠ [] → Y ≠ [] → (lo : Int) + b ≤ hi → R32 (P ++ (X ++ (Y ++ R))) → Srtd key X → Srtd key Y → b - a < N →
  ACall Tryz.prog 132 [.sub 0 lo hi, .pv (.int .i64 a), .pv (.int .i64 m), .pv (.int .i64 b), .fn 100 [.box 1 0]] (hpS nl T (i32s (P ++ (X ++ (Y ++ R))))) (SymQ key nl T P (X ++ Y) R)
theorem z2t {N : Int} (ih : z0v lo hi nl T key N) (hlen : hi < 1000000000000) (P X1 X2 Y1 Y2 R : List Int) (a s m mid e b : Int) (ha : 0 ≤ a) (hP : P.length = lo + a.toNat) (h1 : s = a + X1.length) (h2 : m = s + X2.length) (h3 : e = m + Y1.length) (h4 : b = e + Y2.length) (h5 : mid = s + Y1.length)
    (hhi : (lo : Int) + b ≤ hi) (hr : R32 (P ++ (X1 ++ (X2 ++ (Y1 ++ (Y2 ++ R)))))) (hX : Srtd key (X1 ++ X2)) (hY : Srtd key (Y1 ++ Y2)) (f1 : ∀ x ∈ X2, ∀ y ∈ Y1, key y < key x) (f2 : ∀ x ∈ X1, ∀ y ∈ Y2, key x ≤ key y) (n1 : mid - a < N) (n2 : b - mid < N) :
    zxp lo hi nl T a s m mid e b (SymQ key nl T P ((X1 ++ X2) ++ (Y1 ++ Y2)) R) (i32s (P ++ (X1 ++ (X2 ++ (Y1 ++ (Y2 ++ R)))))) := by
  have hl1 : ∀ {u v : List Int}, u.length = v.length → (i32s u).length = (i32s v).length := fun h => by simp [h]
  obtain ⟨x1, x2, x3⟩ := zdd.1 hX
  obtain ⟨y1, y2, y3⟩ := zdd.1 hY
  have t3 : ∀ S1 : List Int, Srtd key S1 → Stab key (X1 ++ Y1) S1 → zt9 lo hi nl T mid e b (SymQ key nl T P ((X1 ++ X2) ++ (Y1 ++ Y2)) R) (i32s (P ++ (S1 ++ (X2 ++ (Y2 ++ R))))) := fun S1 s1 k1 => by
    have kl := k1.len
    rw [List.length_append] at kl
    have fin : ∀ S2 : List Int, Srtd key S2 → Stab key (X2 ++ Y2) S2 → SymQ key nl T P ((X1 ++ X2) ++ (Y1 ++ Y2)) R (.tup []) (hpS nl T (i32s (P ++ (S1 ++ (S2 ++ R))))) := fun S2 s2 k2 => by
      obtain ⟨c1, c2⟩ := z4y hX hY f1 f2 s1 k1 s2 k2
      exact ⟨S1 ++ S2, rfl, by simp, c1, c2⟩
    unfold zt9
    refine iteD (fun hc => ?_) (fun hc => ?_)
    · simp only [Bool.and_eq_true, decide_eq_true_eq] at hc
      have nx : X2 ≠ [] := fun h => by subst h; simp at h2; omega
      have ny : Y2 ≠ [] := fun h => by subst h; simp at h4; omega
      have := ih (P ++ S1) X2 Y2 R mid e b (by omega) (by rw [List.length_append]; omega) (by omega) h4 nx ny hhi (hr.of fun x hx => by
        simp only [List.mem_append] at hx ⊢
        rcases hx with (hx | hx) | hx | hx | hx
        · exact .inl hx
        · rcases List.mem_append.1 (k1.mem.2 hx) with hx | hx
          · exact .inr (.inl hx)
          · exact .inr (.inr (.inr (.inl hx)))
        · exact .inr (.inr (.inl hx))
        · exact .inr (.inr (.inr (.inr (.inl hx))))
        · exact .inr (.inr (.inr (.inr (.inr hx))))) x2 y2 n2
      rw [show P ++ (S1 ++ (X2 ++ (Y2 ++ R))) = (P ++ S1) ++ (X2 ++ (Y2 ++ R)) by simp]
      refine this.mono ?_
      rintro r h' ⟨S2, rfl, rfl, s2, k2⟩
      refine ⟨_, ⟨rfl, rfl⟩, ⟨trivial, ⟨rfl, rfl, hl1 ?_⟩, trivial⟩, ?_⟩
      · have := k2.len
        simp only [List.length_append] at this ⊢; omega
      · have := fin S2 s2 k2
        rw [← List.append_assoc P] at this
        exact this
    · simp only [Bool.and_eq_true, decide_eq_true_eq] at hc
      have hz : X2 = [] ∨ Y2 = [] := by
        rcases Nat.eq_zero_or_pos X2.length with h | h
        · exact .inl (List.length_eq_zero_iff.1 h)
        · exact .inr (List.length_eq_zero_iff.1 (by omega))
      have s2 : Srtd key (X2 ++ Y2) := by
        rcases hz with h | h
        · subst h; exact y2
        · subst h; simpa using x2
      have := fin (X2 ++ Y2) s2 (.refl _)
      rw [List.append_assoc X2 Y2] at this
      exact this
  have t2 : zua lo hi nl T a s mid e b (SymQ key nl T P ((X1 ++ X2) ++ (Y1 ++ Y2)) R) (i32s (P ++ (X1 ++ (Y1 ++ (X2 ++ (Y2 ++ R)))))) := by
    unfold zua
    refine iteD (fun hc => ?_) (fun hc => ?_)
    · simp only [Bool.and_eq_true, decide_eq_true_eq] at hc
      have nx : X1 ≠ [] := fun h => by subst h; simp at h1; omega
      have ny : Y1 ≠ [] := fun h => by subst h; simp at h5; omega
      refine (ih P X1 Y1 (X2 ++ (Y2 ++ R)) a s mid ha hP h1 h5 nx ny (by omega) (hr.of fun x hx => by
        simp only [List.mem_append] at hx ⊢
        rcases hx with hx | hx | hx | hx | hx | hx
        · exact .inl hx
        · exact .inr (.inl hx)
        · exact .inr (.inr (.inr (.inl hx)))
        · exact .inr (.inr (.inl hx))
        · exact .inr (.inr (.inr (.inr (.inl hx))))
        · exact .inr (.inr (.inr (.inr (.inr hx))))) x1 y1 n1).mono ?_
      rintro r h' ⟨S1, rfl, rfl, s1, k1⟩
      refine ⟨_, ⟨rfl, rfl⟩, ⟨trivial, ⟨rfl, rfl, hl1 ?_⟩, trivial⟩, t3 S1 s1 k1⟩
      have := k1.len
      simp only [List.length_append] at this ⊢; omega
    · simp only [Bool.and_eq_true, decide_eq_true_eq] at hc
      have hz : X1 = [] ∨ Y1 = [] := by
        rcases Nat.eq_zero_or_pos X1.length with h | h
        · exact .inl (List.length_eq_zero_iff.1 h)
        · exact .inr (List.length_eq_zero_iff.1 (by omega))
      have s2 : Srtd key (X1 ++ Y1) := by
        rcases hz with h | h
        · subst h; exact y1
        · subst h; simpa using x1
      have := t3 (X1 ++ Y1) s2 (.refl _)
      rw [List.append_assoc X1 Y1] at this
      exact this
  unfold zxp
  refine iteD (fun hc => ?_) (fun hc => ?_)
  · simp only [Bool.and_eq_true, decide_eq_true_eq] at hc
    have nx : X2 ≠ [] := fun h => by subst h; simp at h2; omega
    have ny : Y1 ≠ [] := fun h => by subst h; simp at h3; omega
    have := z2r (T := T) lo hi nl (P ++ X1) X2 Y1 (Y2 ++ R) s m e (by omega) (by rw [List.length_append]; omega) h2 h3 nx ny (by omega) hlen
    rw [show P ++ (X1 ++ (X2 ++ (Y1 ++ (Y2 ++ R)))) = (P ++ X1) ++ (X2 ++ (Y1 ++ (Y2 ++ R))) by simp]
    refine this.mono ?_
    rintro r h' ⟨rfl, rfl⟩
    refine ⟨_, ⟨rfl, rfl⟩, ⟨trivial, ⟨rfl, rfl, hl1 ?_⟩, trivial⟩, ?_⟩
    · simp only [List.length_append]; omega
    · rw [List.append_assoc P]; exact t2
  · simp only [Bool.and_eq_true, decide_eq_true_eq] at hc
    have hz : X2 = [] ∨ Y1 = [] := by
      rcases Nat.eq_zero_or_pos X2.length with h | h
      · exact .inl (List.length_eq_zero_iff.1 h)
      · exact .inr (List.length_eq_zero_iff.1 (by omega))
    have e : P ++ (X1 ++ (X2 ++ (Y1 ++ (Y2 ++ R)))) = P ++ (X1 ++ (Y1 ++ (X2 ++ (Y2 ++ R)))) := by
      rcases hz with h | h <;> subst h <;> simp
    rw [e]; exact t2
end
end Go.Eng



namespace Go.Eng
open Go Go.Proofs Go.Eng.Rows Go.Eng.Srt
section
variable {key : Int → Int} {T : PV}
theorem z0w (hc : znm T key) (lo hi : Nat) (nl : Bool) (hlen : hi < 1000000000000) : ∀ N : Nat, z0v lo hi nl T key N := by
  intro N
  induction N with
  | zero =>
    intro P X Y R a m b ha hP hm hb hx hy hhi hr hX hY hN
    omega
  | succ N ih =>
    intro P X Y R a m b ha hP hm hb hx hy hhi hr hX hY hN
    have hxl := List.length_pos_iff.2 hx
    have hyl := List.length_pos_iff.2 hy
    by_cases hx1 : X.length = 1
    · obtain ⟨x, rfl⟩ := List.length_eq_one_iff.1 hx1
      exact z4z hc lo hi nl P Y R x a m b ha hP (by simpa using hm) hb hhi hr hlen hY
    by_cases hy1 : Y.length = 1
    · obtain ⟨y, rfl⟩ := List.length_eq_one_iff.1 hy1
      exact z40 hc lo hi nl P X R y a m b ha hP hm hx1 (by simpa using hb) hhi hr hlen hX
    obtain ⟨mid, hmid⟩ : ∃ mid, mid = (a + b) / 2 := ⟨_, rfl⟩
    have hat : ∀ h : Int, a ≤ h → h < m → (P ++ (X ++ (Y ++ R)))[lo + h.toNat]? = some (X.getD (h - a).toNat 0) := fun h h1 h2 => by
      rw [List.getElem?_append_right (by omega), show lo + h.toNat - P.length = (h - a).toNat by omega, List.getElem?_append_left (by omega)]
      exact zjt (by omega)
    have hbt : ∀ h : Int, m ≤ h → h < b → (P ++ (X ++ (Y ++ R)))[lo + h.toNat]? = some (Y.getD (h - m).toNat 0) := fun h h1 h2 => by
      rw [← List.append_assoc, List.getElem?_append_right (by rw [List.length_append]; omega), show lo + h.toNat - (P ++ X).length = (h - m).toNat by rw [List.length_append]; omega, List.getElem?_append_left (by omega)]
      exact zjt (by omega)
    obtain ⟨s0, hs0⟩ : ∃ s0, s0 = if m > mid then mid + m - b else a := ⟨_, rfl⟩
    obtain ⟨r0, hr0⟩ : ∃ r0, r0 = if m > mid then mid else m := ⟨_, rfl⟩
    have rng : a ≤ s0 ∧ s0 ≤ r0 ∧ r0 ≤ m ∧ mid + m - s0 ≤ b ∧ m ≤ mid + m - r0 := by
      rw [hs0, hr0]; split <;> omega
    refine za8 _ _ _ _ _ _ _ _
      (fun _ _ _ => True) (fun _ _ _ => 0) (fun _ _ _ => True) (fun _ _ _ => 0) (fun _ _ _ => True) (fun _ _ _ => 0) (fun _ _ _ => True) (fun _ _ _ => 0)
      (fun i j s => s = i32s (P ++ (X ++ (Y ++ R))) ∧ s0 ≤ i ∧ i ≤ j ∧ j ≤ r0 ∧ (∀ c, s0 ≤ c → c < i → ¬ key (Y.getD (mid - 1 - c).toNat 0) < key (X.getD (c - a).toNat 0)) ∧ (∀ c, j ≤ c → c < r0 → key (Y.getD (mid - 1 - c).toNat 0) < key (X.getD (c - a).toNat 0))) (fun i j _ => (j - i).toNat) ?_
    unfold zan
    have w1 : IntKind.i64.wrap (m - a) = X.length := by rw [zaa (by omega) (by omega)]; omega
    have w2 : IntKind.i64.wrap (b - m) = Y.length := by rw [zaa (by omega) (by omega)]; omega
    have w3 : IntKind.i64.wrap (mid + m) = mid + m := zaa (by omega) (by omega)
    have w4 : IntKind.i64.wrap (mid + m - b) = mid + m - b := zaa (by omega) (by omega)
    have w5 : IntKind.i64.wrap (mid + m - 1) = mid + m - 1 := zaa (by omega) (by omega)
    rw [w1, w2, mid2 ha (by omega) (by omega), ← hmid, w3, w4, w5]
    -- what the loop is, and what follows it
    have body : ∀ (x20 x21 : Int) (s : List (List PV)), (s = i32s (P ++ (X ++ (Y ++ R))) ∧ s0 ≤ x20 ∧ x20 ≤ x21 ∧ x21 ≤ r0 ∧ (∀ c, s0 ≤ c → c < x20 → ¬ key (Y.getD (mid - 1 - c).toNat 0) < key (X.getD (c - a).toNat 0)) ∧ (∀ c, x21 ≤ c → c < r0 → key (Y.getD (mid - 1 - c).toNat 0) < key (X.getD (c - a).toNat 0))) →
        (x20 < x21 → ∃ h, h = (x20 + x21) / 2 ∧ IntKind.i64.wrap (mid + m - 1 - h) = mid + m - 1 - h ∧ IntKind.i64.wrap (h + 1) = h + 1 ∧ (0 ≤ mid + m - 1 - h ∧ mid + m - 1 - h < (hi : Int) - lo ∧ (s.getD (lo + (mid + m - 1 - h).toNat) []).length = 1) ∧ (0 ≤ h ∧ h < (hi : Int) - lo ∧ (s.getD (lo + h.toNat) []).length = 1) ∧
          ∃ n n1, (List.drop 0 (s.getD (lo + (mid + m - 1 - h).toNat) [])).head? = some (PV.int .i32 n) ∧ (List.drop 0 (s.getD (lo + h.toNat) [])).head? = some (PV.int .i32 n1) ∧ (-2147483648 ≤ n ∧ n ≤ 2147483647) ∧ (-2147483648 ≤ n1 ∧ n1 ≤ 2147483647) ∧
          (¬ key n < key n1 → (s = i32s (P ++ (X ++ (Y ++ R))) ∧ s0 ≤ h + 1 ∧ h + 1 ≤ x21 ∧ x21 ≤ r0 ∧ (∀ c, s0 ≤ c → c < h + 1 → ¬ key (Y.getD (mid - 1 - c).toNat 0) < key (X.getD (c - a).toNat 0)) ∧ (∀ c, x21 ≤ c → c < r0 → key (Y.getD (mid - 1 - c).toNat 0) < key (X.getD (c - a).toNat 0))) ∧ (x21 - (h + 1)).toNat < (x21 - x20).toNat) ∧
          (key n < key n1 → (s = i32s (P ++ (X ++ (Y ++ R))) ∧ s0 ≤ x20 ∧ x20 ≤ h ∧ h ≤ r0 ∧ (∀ c, s0 ≤ c → c < x20 → ¬ key (Y.getD (mid - 1 - c).toNat 0) < key (X.getD (c - a).toNat 0)) ∧ (∀ c, h ≤ c → c < r0 → key (Y.getD (mid - 1 - c).toNat 0) < key (X.getD (c - a).toNat 0))) ∧ (h - x20).toNat < (x21 - x20).toNat)) ∧
        (¬ x20 < x21 → IntKind.i64.wrap (mid + m - x20) = mid + m - x20 ∧ zxp lo hi nl T a x20 m mid (mid + m - x20) b (SymQ key nl T P (X ++ Y) R) s) := by
      rintro i j _ ⟨rfl, i0, hij, hjr, hge, hlt⟩
      refine ⟨fun hc1 => ?_, fun hc1 => ?_⟩
      · obtain ⟨h, hh⟩ : ∃ h, h = (i + j) / 2 := ⟨_, rfl⟩
        have b1 : i ≤ h ∧ h < j := by omega
        have gx := hat h (by omega) (by omega)
        have gy := hbt (mid + m - 1 - h) (by omega) (by omega)
        rw [show (mid + m - 1 - h - m).toNat = (mid - 1 - h).toNat by omega] at gy
        refine ⟨h, hh, zaa (by omega) (by omega), zaa (by omega) (by omega), ⟨by omega, by omega, by rw [za9 gy]; rfl⟩, ⟨by omega, by omega, by rw [za9 gx]; rfl⟩, _, _, by rw [za9 gy]; rfl, by rw [za9 gx]; rfl, zrk hr gy, zrk hr gx, fun hk => ?_, fun hk => ?_⟩
        · refine ⟨⟨rfl, by omega, by omega, hjr, fun c c1 c2 => ?_, hlt⟩, by omega⟩
          have u := hX.get (i := (c - a).toNat) (j := (h - a).toNat) (by omega) (by omega)
          have v := hY.get (i := (mid - 1 - h).toNat) (j := (mid - 1 - c).toNat) (by omega) (by omega)
          omega
        · refine ⟨⟨rfl, i0, by omega, by omega, hge, fun c c1 c2 => ?_⟩, by omega⟩
          have u := hX.get (i := (h - a).toNat) (j := (c - a).toNat) (by omega) (by omega)
          have v := hY.get (i := (mid - 1 - c).toNat) (j := (mid - 1 - h).toNat) (by omega) (by omega)
          omega
      · have hij2 : i = j := by omega
        subst hij2
        refine ⟨zaa (by omega) (by omega), ?_⟩
        have l1 : (X.take (i - a).toNat).length = (i - a).toNat := by rw [List.length_take]; omega
        have l2 : (X.drop (i - a).toNat).length = X.length - (i - a).toNat := List.length_drop
        have l3 : (Y.take (mid - i).toNat).length = (mid - i).toNat := by rw [List.length_take]; omega
        have l4 : (Y.drop (mid - i).toNat).length = Y.length - (mid - i).toNat := List.length_drop
        have eX : X.take (i - a).toNat ++ X.drop (i - a).toNat = X := List.take_append_drop _ _
        have eY : Y.take (mid - i).toNat ++ Y.drop (mid - i).toNat = Y := List.take_append_drop _ _
        have tk : ∀ (L : List Int) (k q : Nat), q < k → (L.take k).getD q 0 = L.getD q 0 := fun L k q h => by simp only [List.getD]; rw [List.getElem?_take_of_lt h]
        have dk : ∀ (L : List Int) (k q : Nat), (L.drop k).getD q 0 = L.getD (k + q) 0 := fun L k q => by simp only [List.getD, List.getElem?_drop]
        have f1 : ∀ x ∈ X.drop (i - a).toNat, ∀ y ∈ Y.take (mid - i).toNat, key y < key x := fun x hx y hy => by
          obtain ⟨q, hq, rfl⟩ := zff hx
          obtain ⟨p, hp, rfl⟩ := zff hy
          rw [l2] at hq
          rw [l3] at hp
          rw [tk _ _ _ hp, dk]
          have hir : i < r0 := by rw [hr0]; split <;> omega
          have k0 := hlt i (Int.le_refl _) hir
          have u := hX.get (i := (i - a).toNat) (j := (i - a).toNat + q) (by omega) (by omega)
          have v := hY.get (i := p) (j := (mid - 1 - i).toNat) (by omega) (by omega)
          omega
        have f2 : ∀ x ∈ X.take (i - a).toNat, ∀ y ∈ Y.drop (mid - i).toNat, key x ≤ key y := fun x hx y hy => by
          obtain ⟨q, hq, rfl⟩ := zff hx
          obtain ⟨p, hp, rfl⟩ := zff hy
          rw [l1] at hq
          rw [l4] at hp
          rw [tk _ _ _ hq, dk]
          have his : s0 ≤ i - 1 := by rw [hs0]; split <;> omega
          have k0 := hge (i - 1) his (by omega)
          rw [show (mid - 1 - (i - 1)).toNat = (mid - i).toNat by omega] at k0
          have u := hX.get (i := q) (j := (i - 1 - a).toNat) (by omega) (by omega)
          have v := hY.get (i := (mid - i).toNat) (j := (mid - i).toNat + p) (by omega) (by omega)
          omega
        have := z2t lo hi nl (N := N) ih hlen P (X.take (i - a).toNat) (X.drop (i - a).toNat) (Y.take (mid - i).toNat) (Y.drop (mid - i).toNat) R a i m mid (mid + m - i) b ha hP (by omega) (by omega) (by omega) (by omega) (by omega) hhi
          (by rw [← List.append_assoc (Y.take _), eY, ← List.append_assoc (X.take _), eX]; exact hr) (by rw [eX]; exact hX) (by rw [eY]; exact hY) f1 f2 (by omega) (by omega)
        rw [← List.append_assoc (Y.take _) _ R, eY, ← List.append_assoc (X.take _) _ (Y ++ R), eX] at this
        exact this
    refine iteF (by simp; omega) (iteF (by simp; omega) ?_)
    refine iteD (fun hm2 => ?_) (fun hm2 => ?_)
    · simp only [decide_eq_true_eq] at hm2
      rw [if_pos hm2] at hs0 hr0
      refine ⟨⟨rfl, rfl, by omega, by omega, by omega, fun c c1 c2 => by omega, fun c c1 c2 => by omega⟩, ?_⟩
      rintro i j s hJ
      obtain ⟨b1, b2⟩ := body i j s hJ
      refine iteD (fun hc1 => ?_) (fun hc1 => ?_)
      · simp only [decide_eq_true_eq] at hc1
        obtain ⟨h, hh, e1, e2, e3, e4, n, n1, g1, g2, r1, r2, k1, k2⟩ := b1 hc1
        rw [mid2 (by omega) (by omega) (by omega), ← hh, e1, e2]
        refine ⟨e3, n, g1, e4, n1, g2, ?_⟩
        refine (hc n n1 r1 r2).mono ?_
        rintro _ ⟨n2, rfl, hn2⟩
        refine ⟨n2, rfl, rfl, iteD (fun hl => ?_) (fun hl => ?_)⟩
        · simp only [Bool.not_eq_true', decide_eq_false_iff_not] at hl
          obtain ⟨q1, q2⟩ := k1 fun h => hl (hn2.2 h)
          exact ⟨rfl, q1, q2⟩
        · simp only [Bool.not_eq_true', decide_eq_false_iff_not, Decidable.not_not] at hl
          obtain ⟨q1, q2⟩ := k2 (hn2.1 hl)
          exact ⟨rfl, q1, q2⟩
      · simp only [decide_eq_true_eq] at hc1
        obtain ⟨e1, e2⟩ := b2 hc1
        rw [e1]
        exact e2
    · simp only [decide_eq_true_eq] at hm2
      rw [if_neg hm2] at hs0 hr0
      refine ⟨⟨rfl, rfl, by omega, by omega, by omega, fun c c1 c2 => by omega, fun c c1 c2 => by omega⟩, ?_⟩
      rintro i j s hJ
      obtain ⟨b1, b2⟩ := body i j s hJ
      refine iteD (fun hc1 => ?_) (fun hc1 => ?_)
      · simp only [decide_eq_true_eq] at hc1
        obtain ⟨h, hh, e1, e2, e3, e4, n, n1, g1, g2, r1, r2, k1, k2⟩ := b1 hc1
        rw [mid2 (by omega) (by omega) (by omega), ← hh, e1, e2]
        refine ⟨e3, n, g1, e4, n1, g2, ?_⟩
        refine (hc n n1 r1 r2).mono ?_
        rintro _ ⟨n2, rfl, hn2⟩
        refine ⟨n2, rfl, rfl, iteD (fun hl => ?_) (fun hl => ?_)⟩
        · simp only [Bool.not_eq_true', decide_eq_false_iff_not] at hl
          obtain ⟨q1, q2⟩ := k1 fun h => hl (hn2.2 h)
          exact ⟨rfl, q1, q2⟩
        · simp only [Bool.not_eq_true', decide_eq_false_iff_not, Decidable.not_not] at hl
          obtain ⟨q1, q2⟩ := k2 (hn2.1 hl)
          exact ⟨rfl, q1, q2⟩
      · simp only [decide_eq_true_eq] at hc1
        obtain ⟨e1, e2⟩ := b2 hc1
        rw [e1]
        exact e2
end
end Go.Eng



namespace Go.Eng
open Go Go.Proofs Go.Eng.Rows Go.Eng.Srt
section
variable {key : Int → Int} {T : PV}
def zsq (key : Int → Int) (k : Nat) (Bs : List (List Int)) : Prop := ∀ B ∈ Bs, B.length = k ∧ Srtd key B
theorem zsr {k : Nat} : ∀ {Bs : List (List Int)}, zsq key k Bs → Bs.flatten.length = k * Bs.length
  | [], _ => by simp
  | B :: Bs, h => by
    rw [List.flatten_cons, List.length_append, (h B List.mem_cons_self).1, zsr (Bs := Bs) fun C hC => h C (List.mem_cons_of_mem _ hC), List.length_cons, Nat.mul_add]; omega
theorem zju (Bs : List (List Int)) : Bs = [] ∨ (∃ X, Bs = [X]) ∨ ∃ X Y Bs', Bs = X :: Y :: Bs' := by
  match Bs with
  | [] => exact .inl rfl
  | [X] => exact .inr (.inl ⟨X, rfl⟩)
  | X :: Y :: Bs' => exact .inr (.inr ⟨X, Y, Bs', rfl⟩)
theorem zub {k : Nat} {Bs : List (List Int)} {B : List Int} (h : zsq key k Bs) (hl : B.length = k) (hs : Srtd key B) : zsq key k (Bs ++ [B]) := fun C hC => by
  rcases List.mem_append.1 hC with hC | hC
  · exact h C hC
  · simp only [List.mem_singleton] at hC; subst hC; exact ⟨hl, hs⟩
theorem zpu {P S R S' : List Int} (h : R32 (P ++ (S ++ R))) (k : Stab key S S') : R32 (P ++ (S' ++ R)) := h.of fun x hx => by
  simp only [List.mem_append] at hx ⊢
  rcases hx with hx | hx | hx
  · exact .inl hx
  · exact .inr (.inl (k.mem.2 hx))
  · exact .inr (.inr hx)
theorem z2u (hc : znm T key) (lo hi : Nat) (nl : Bool) (P S R : List Int) (hP : P.length = lo) (hS : hi = lo + S.length) (hr : R32 (P ++ (S ++ R))) (hlen : hi < 1000000000000) :
    ACall Tryz.prog 119 [.sub 0 lo hi, .pv (.int .i64 ((hi - lo : Nat) : Int)), .fn 100 [.box 1 0]] (hpS nl T (i32s (P ++ (S ++ R)))) (SymQ key nl T P S R) := by
  have hl1 : ∀ {u v : List Int}, u.length = v.length → (i32s u).length = (i32s v).length := fun h => by simp [h]
  obtain ⟨n, hn⟩ : ∃ n : Int, n = ((hi - lo : Nat) : Int) := ⟨_, rfl⟩
  rw [← hn]
  have hnS : n = S.length := by omega
  refine zez _ _ _ _ _ _
    (fun a b s => b = a + 20 ∧ 0 ≤ a ∧ ∃ Bs C, s = i32s (P ++ (Bs.flatten ++ C ++ R)) ∧ zsq key 20 Bs ∧ (Bs.flatten.length : Int) = a ∧ Stab key S (Bs.flatten ++ C)) (fun a _ _ => (n + 1 - a).toNat)
    (fun k s => 0 < k ∧ ∃ Bs C, s = i32s (P ++ (Bs.flatten ++ C ++ R)) ∧ zsq key k.toNat Bs ∧ Srtd key C ∧ (C.length : Int) < k ∧ Stab key S (Bs.flatten ++ C)) (fun k _ => (n - k).toNat)
    (fun k _ _ _ k' a b s => k = k' ∧ b = a + 2 * k ∧ 0 ≤ a ∧ ∃ B2 Bs C, s = i32s (P ++ (B2.flatten ++ (Bs.flatten ++ C) ++ R)) ∧ zsq key (2 * k).toNat B2 ∧ zsq key k.toNat Bs ∧ Srtd key C ∧ (C.length : Int) < k ∧ (B2.flatten.length : Int) = a ∧ Stab key S (B2.flatten ++ (Bs.flatten ++ C))) (fun k a _ _ => (n + 1 - a).toNat) ?_
  unfold zbf
  refine ⟨⟨rfl, rfl, Int.le_refl _, [], S, by simp, fun B hB => (by cases hB), rfl, by simpa using Stab.refl S⟩, ?_⟩
  rintro a b _ ⟨rfl, a0, Bs, C, rfl, hBs, hBl, hst⟩
  have hsl := hst.len
  rw [List.length_append] at hsl
  refine iteD (fun hc1 => ?_) (fun hc1 => ?_)
  · simp only [decide_eq_true_eq] at hc1
    have wa : IntKind.i64.wrap (a + 20 + 20) = a + 20 + 20 := zaa (by omega) (by omega)
    rw [wa]
    have hC : C.take 20 ++ C.drop 20 = C := List.take_append_drop _ _
    have hCl : (C.take 20).length = 20 := by rw [List.length_take]; omega
    have e1 : P ++ (Bs.flatten ++ C ++ R) = (P ++ Bs.flatten) ++ C.take 20 ++ (C.drop 20 ++ R) := by
      rw [show Bs.flatten ++ C ++ R = Bs.flatten ++ ((C.take 20 ++ C.drop 20) ++ R) by rw [hC]; simp]
      simp only [List.append_assoc]
    have := aIns hc lo hi nl (P ++ Bs.flatten) (C.take 20) (C.drop 20 ++ R) a (a + 20) a0 (by rw [List.length_append]; omega) (by omega) (by omega) (by rw [← e1]; exact zpu hr hst) hlen
    rw [e1]
    refine this.mono ?_
    rintro r h' ⟨S1, rfl, rfl, s1, k1⟩
    have k1l := k1.len
    refine ⟨_, ⟨rfl, rfl⟩, ⟨trivial, ⟨rfl, rfl, hl1 (by simp only [List.length_append]; omega)⟩, trivial⟩, rfl, ⟨rfl, by omega, Bs ++ [S1], C.drop 20, by simp, zub hBs (by omega) s1, by simp only [List.flatten_append, List.flatten_cons, List.flatten_nil, List.append_nil, List.length_append]; omega, ?_⟩, by dsimp only; omega⟩
    refine hst.trans ?_
    have := (Stab.refl (key := key) Bs.flatten).app (k1.app (Stab.refl (C.drop 20)))
    rw [hC] at this
    simpa using this
  · simp only [decide_eq_true_eq] at hc1
    have e1 : P ++ (Bs.flatten ++ C ++ R) = (P ++ Bs.flatten) ++ C ++ R := by simp
    have := aIns hc lo hi nl (P ++ Bs.flatten) C R a n a0 (by rw [List.length_append]; omega) (by omega) (by omega) (by rw [← e1]; exact zpu hr hst) hlen
    rw [e1]
    refine this.mono ?_
    rintro r h' ⟨C1, rfl, rfl, s1, k1⟩
    have k1l := k1.len
    refine ⟨_, ⟨rfl, rfl⟩, ⟨trivial, ⟨rfl, rfl, hl1 (by simp only [List.length_append]; omega)⟩, trivial⟩, ⟨rfl, by omega, Bs, C1, by simp, hBs, s1, by omega, hst.trans ((Stab.refl _).app k1)⟩, ?_⟩
    clear hBs hBl hst hsl hc1 e1 this s1 k1 k1l
    rintro k _ ⟨k0, Bs, C, rfl, hBs, hCs, hCk, hst⟩
    have hsl := hst.len
    rw [List.length_append] at hsl
    have hbl := zsr hBs
    refine iteD (fun hc2 => ?_) (fun hc2 => ?_)
    · simp only [decide_eq_true_eq] at hc2
      have w2 : IntKind.i64.wrap (2 * k) = 2 * k := zaa (by omega) (by omega)
      have w3 : IntKind.i64.wrap (k * 2) = 2 * k := by rw [zaa (by omega) (by omega)]; omega
      rw [w2]
      refine ⟨⟨rfl, rfl, by omega, Int.le_refl _, [], Bs, C, by simp, fun B hB => (by cases hB), hBs, hCs, hCk, rfl, by simpa using hst⟩, ?_⟩
      clear hBs hCs hCk hst hsl hbl
      rintro _ a b _ ⟨rfl, rfl, a0, B2, Bs, C, rfl, hB2, hBs, hCs, hCk, hBl, hst⟩
      have hsl := hst.len
      rw [List.length_append, List.length_append] at hsl
      have hbl := zsr hBs
      have hRs : R32 (P ++ (B2.flatten ++ (Bs.flatten ++ C) ++ R)) := zpu hr hst
      rw [w2, w3]
      have hkn : (k.toNat : Int) = k := by omega
      refine iteD (fun hc3 => ?_) (fun hc3 => ?_)
      · simp only [decide_eq_true_eq] at hc3
        have w4 : IntKind.i64.wrap (a + k) = a + k := zaa (by omega) (by omega)
        have w5 : IntKind.i64.wrap (a + 2 * k + 2 * k) = a + 2 * k + 2 * k := zaa (by omega) (by omega)
        rw [w4, w5]
        obtain ⟨X, Y, Bs', rfl⟩ : ∃ X Y Bs', Bs = X :: Y :: Bs' := by
          rcases zju Bs with rfl | ⟨X, rfl⟩ | h
          · simp only [List.flatten_nil, List.length_nil] at hsl; omega
          · have h1 := (hBs X (by simp)).1
            simp only [List.flatten_cons, List.flatten_nil, List.append_nil] at hsl; omega
          · exact h
        obtain ⟨hXl, hXs⟩ := hBs X (by simp)
        obtain ⟨hYl, hYs⟩ := hBs Y (by simp)
        have nx : X ≠ [] := fun h => by subst h; simp at hXl; omega
        have ny : Y ≠ [] := fun h => by subst h; simp at hYl; omega
        have e1 : P ++ (B2.flatten ++ ((X :: Y :: Bs').flatten ++ C) ++ R) = (P ++ B2.flatten) ++ (X ++ (Y ++ (Bs'.flatten ++ C ++ R))) := by simp
        have := z0w hc lo hi nl hlen (2 * k + 1).toNat (P ++ B2.flatten) X Y (Bs'.flatten ++ C ++ R) a (a + k) (a + 2 * k) a0 (by rw [List.length_append]; omega) (by omega) (by omega) nx ny (by omega) (by rw [← e1]; exact hRs) hXs hYs (by omega)
        rw [e1]
        refine this.mono ?_
        rintro r h' ⟨S1, rfl, rfl, s1, k1⟩
        have k1l := k1.len
        rw [List.length_append] at k1l
        refine ⟨_, ⟨rfl, rfl⟩, ⟨trivial, ⟨rfl, rfl, hl1 (by simp only [List.length_append]; omega)⟩, trivial⟩, rfl, ⟨rfl, rfl, by omega, B2 ++ [S1], Bs', C, by simp, zub hB2 (by omega) s1, fun B hB => hBs B (by simp [hB]), hCs, hCk, by simp only [List.flatten_append, List.flatten_cons, List.flatten_nil, List.append_nil, List.length_append]; omega, ?_⟩, by dsimp only; omega⟩
        refine hst.trans ?_
        have := (Stab.refl (key := key) B2.flatten).app (k1.app (Stab.refl (Bs'.flatten ++ C)))
        simpa using this
      · simp only [decide_eq_true_eq] at hc3
        have w4 : IntKind.i64.wrap (a + k) = a + k := zaa (by omega) (by omega)
        rw [w4]
        refine iteD (fun hc4 => ?_) (fun hc4 => ?_)
        · simp only [decide_eq_true_eq] at hc4
          obtain ⟨X, rfl⟩ : ∃ X, Bs = [X] := by
            rcases zju Bs with rfl | h | ⟨X, Y, Bs', rfl⟩
            · simp only [List.flatten_nil, List.length_nil] at hsl; omega
            · exact h
            · have h1 := (hBs X (by simp)).1
              have h2 := (hBs Y (by simp)).1
              simp only [List.flatten_cons, List.length_append] at hsl
              omega
          obtain ⟨hXl, hXs⟩ := hBs X (by simp)
          have nx : X ≠ [] := fun h => by subst h; simp at hXl; omega
          simp only [List.flatten_cons, List.flatten_nil, List.append_nil] at hsl hst
          have ny : C ≠ [] := fun h => by subst h; simp only [List.length_nil] at hsl; omega
          have e1 : P ++ (B2.flatten ++ ([X].flatten ++ C) ++ R) = (P ++ B2.flatten) ++ (X ++ (C ++ R)) := by simp
          have := z0w hc lo hi nl hlen (2 * k + 1).toNat (P ++ B2.flatten) X C R a (a + k) n a0 (by rw [List.length_append]; omega) (by omega) (by omega) nx ny (by omega) (by rw [← e1]; exact hRs) hXs hCs (by omega)
          rw [e1]
          refine this.mono ?_
          rintro r h' ⟨S1, rfl, rfl, s1, k1⟩
          have k1l := k1.len
          rw [List.length_append] at k1l
          exact ⟨_, ⟨rfl, rfl⟩, ⟨trivial, ⟨rfl, rfl, hl1 (by simp only [List.length_append]; omega)⟩, trivial⟩, rfl, ⟨by omega, B2, S1, by simp, hB2, s1, by omega, hst.trans ((Stab.refl _).app k1)⟩, by dsimp only; omega⟩
        · simp only [decide_eq_true_eq] at hc4
          have hCs2 : Srtd key (Bs.flatten ++ C) ∧ ((Bs.flatten ++ C).length : Int) < 2 * k := by
            rcases zju Bs with rfl | ⟨X, rfl⟩ | ⟨X, Y, Bs', rfl⟩
            · exact ⟨by simpa using hCs, by simp; omega⟩
            · have h1 := hBs X (by simp)
              simp only [List.flatten_cons, List.flatten_nil, List.append_nil] at hsl ⊢
              have hC0 : C = [] := List.length_eq_zero_iff.1 (by omega)
              subst hC0
              exact ⟨by simpa using h1.2, by simp; omega⟩
            · exfalso
              have h1 := (hBs X (by simp)).1
              have h2 := (hBs Y (by simp)).1
              simp only [List.flatten_cons, List.length_append] at hsl
              omega
          exact ⟨rfl, ⟨by omega, B2, Bs.flatten ++ C, by simp, hB2, hCs2.1, hCs2.2, hst⟩, by dsimp only; omega⟩
    · simp only [decide_eq_true_eq] at hc2
      have hz : Srtd key (Bs.flatten ++ C) := by
        rcases zju Bs with rfl | ⟨X, rfl⟩ | ⟨X, Y, Bs', rfl⟩
        · simpa using hCs
        · have h1 := hBs X (by simp)
          simp only [List.flatten_cons, List.flatten_nil, List.append_nil] at hsl ⊢
          have hC0 : C = [] := List.length_eq_zero_iff.1 (by omega)
          subst hC0
          simpa using h1.2
        · exfalso
          have h1 := (hBs X (by simp)).1
          have h2 := (hBs Y (by simp)).1
          simp only [List.flatten_cons, List.length_append] at hsl
          omega
      exact ⟨Bs.flatten ++ C, rfl, rfl, hz, hst⟩
theorem zss (hc : znm T key) (lo hi : Nat) (nl : Bool) (P S R : List Int) (hP : P.length = lo) (hS : hi = lo + S.length) (hr : R32 (P ++ (S ++ R))) (hlen : hi < 1000000000000) :
    ACall Tryz.prog 99 [.sub 0 lo hi, .fn 100 [.box 1 0]] (hpS nl T (i32s (P ++ (S ++ R)))) (SymQ key nl T P S R) := by
  refine zdb _ _ _ _ _ ?_
  unfold zaz
  refine (z2u hc lo hi nl P S R hP hS hr hlen).mono ?_
  rintro r h' ⟨S1, rfl, rfl, s1, k1⟩
  exact ⟨_, ⟨rfl, rfl⟩, ⟨trivial, ⟨rfl, rfl, by have := k1.len; simp; omega⟩, trivial⟩, S1, rfl, rfl, s1, k1⟩
end
end Go.Eng



namespace Go.Eng
open Go Go.Proofs Go.Eng.Rows Go.Eng.Srt
section
variable {Z : World → (Nat → Prop) → (Nat → Pl) → Hp → Prop} {key : Int → Int} {nl : Bool} {T : PV} {l : Nat}
def YQ (key : Int → Int) (L : List Int) (f i : Nat) (L' : List Int) : Prop := ∃ S', L' = L.take f ++ (S' ++ L.drop i) ∧ Srtd key S' ∧ Stab key ((L.take i).drop f) S'
def zst (Z : World → (Nat → Prop) → (Nat → Pl) → Hp → Prop) (key : Int → Int) (nl : Bool) (T : PV) (l N0 : Nat) : Prop :=
  ∀ (w : World) (I : Nat → Prop) (G : Nat → Pl) (L : List Int) (f i : Nat), HRel w I G (hpO nl T (i32s L)) → Z w I G (hpO nl T (i32s L)) → f + 1 < i → i ≤ L.length → R32 L → L.length < 1000000000000 → L.length = N0 →
    ∃ fn tmps assign body, (Instr.yield l #[.int .i64 f, .int .i64 i]).run Tryz.prog w = .ok (.round l fn tmps assign body) w ∧ RoundIn Fence.wide 0 Tryz.prog l fn tmps assign body w fun e w' =>
      e = .returned (.bool true) ∧ ∃ L' I' G', YQ key L f i L' ∧ HRel w' I' G' (hpO nl T (i32s L')) ∧ Keeps w I w' I' ∧ Like G G' (hpO nl T (i32s L)) (hpO nl T (i32s L')) ∧ Z w' I' G' (hpO nl T (i32s L'))
def o8 (ops : Array Oper) : Oper := ops.toList.getD 8 default
theorem e6a (y : Value) (es : List (List PV)) (i f : Int) (K : Env → Hp → Prop) : aOps Tryz.prog (fun _ => none) 39 (cOps (cR6 Tryz.f118)).toList ((cOps (cR6 Tryz.f118)).toList.take 8) (eM y i f) (hpO nl T es) K =
    K ((35, LV.spec 32 true (.pv (.int .i64 i))) :: (34, LV.spec 32 true (.pv (.int .i64 f))) :: (33, LV.spec 32 true (.pv (.raw y))) :: (32, .pv (.bool (decide (IntKind.i64.wrap (i - f) > (1 : Int))))) :: (31, .pv (.bool (decide (IntKind.i64.wrap (i - f) > (1 : Int))))) ::
      (30, .pv (.int .i64 (IntKind.i64.wrap (i - f)))) :: (29, .pv (.int .i64 f)) :: (28, .pv (.int .i64 i)) :: eM y i f) (hpO nl T es) := by kernel_rfl
theorem e6b (y : Value) (es : List (List PV)) (i f : Int) (K : Env → Hp → Prop) : aOps Tryz.prog (fun _ => none) 39 (cOps (cR6 Tryz.f118)).toList ((cOps (cR6 Tryz.f118)).toList.drop 9) ((36, .pv (.bool true)) :: (32, .pv (.bool true)) :: eM y i f) (hpO nl T es) K =
    K ((38, .pv (.bool false)) :: (37, .spec 32 true (.pv (.bool false))) :: (36, .pv (.bool true)) :: (32, .pv (.bool true)) :: eM y i f) (hpO nl T es) := by kernel_rfl
theorem e6c (y : Value) (es : List (List PV)) (i f : Int) (K : Env → Hp → Prop) : aOps Tryz.prog (fun _ => none) 39 (cOps (cR6 Tryz.f118)).toList ((cOps (cR6 Tryz.f118)).toList.drop 9) ((32, .pv (.bool false)) :: eM y i f) (hpO nl T es) K =
    K ((38, .pv (.bool false)) :: (37, .pv .unit) :: (32, .pv (.bool false)) :: (32, .pv (.bool false)) :: eM y i f) (hpO nl T es) := by kernel_rfl
theorem zxq : cR6 Tryz.f118 = .region 6 (cOps (cR6 Tryz.f118)) false := by kernel_rfl
theorem zvk : (cOps (cR6 Tryz.f118)).size = 11 ∧ zfh (cOps (cR6 Tryz.f118)).toList = true ∧ (cOps (cR6 Tryz.f118)).toList.length = 11 ∧ (cOps (cR6 Tryz.f118))[8]? = some (o8 (cOps (cR6 Tryz.f118))) ∧
    (o8 (cOps (cR6 Tryz.f118))).dst = some 36 ∧ (o8 (cOps (cR6 Tryz.f118))).guard = some (4, true) ∧ (o8 (cOps (cR6 Tryz.f118))).op = .call { callee := .value (.tmp 33), args := #[.tmp 34, .tmp 35], argTypes := #[3, 3] } ∧
    ((cOps (cR6 Tryz.f118))[4]?).bind (·.dst) = some 32 :=
  ⟨by kernel_rfl, by kernel_rfl, by kernel_rfl, by kernel_rfl, by kernel_rfl, by kernel_rfl, by kernel_rfl, by kernel_rfl⟩
theorem zrl {F : Fence} {n : Nat} {P : Program} {ops : Array Oper} {Q : Exit → Act → World → Prop} {i : Nat} {rest : List Nat} {a : Act} {w : World} {o : Oper} (ho : ops[i]? = some o)
    (h : if Region.wanted o (yielded ops a.tmps) then o.wpIn F n P a w (wpOpsIn F n P ops Q rest) Q else (∀ f, o.about P w a.eval = some f → F.fn f) ∧ wpOpsIn F n P ops Q rest (a.put o.dst undef) w) : wpOpsIn F n P ops Q (i :: rest) a w := by
  simp only [wpOpsIn, ho]; exact h
theorem zzy {w : World} {I : Nat → Prop} {G : Nat → Pl} {h : Hp} {tm : Array Value} {s : Nat} {b : Bool} (hr : LRel w I G h (.pv (.bool b)) (tm.getD s undef)) : tm[s]? = some (.bool b) := by
  have := hr.bool_eq
  rw [Array.getD_eq_getD_getElem?] at this
  cases hx : tm[s]? with
  | none => rw [hx] at this; simp [undef] at this
  | some v => rw [hx] at this; simpa using this
theorem LRel.raw_eq {w : World} {I : Nat → Prop} {G : Nat → Pl} {h : Hp} {v cv : Value} (hr : LRel w I G h (.pv (.raw v)) cv) : cv = v := by cases hr with | pv _ _ h1 => cases h1; rfl
theorem reg6 {N0 : Nat} (hY : zst Z key nl T l N0) (hZ : ∀ w I G h w' I' G' h', Z w I G h → HRel w I G h → HRel w' I' G' h' → TrN 5 w I G h w' I' G' h' → Z w' I' G' h') (L : List Int) (f i : Nat) (hf : f ≤ i) (hi : i ≤ L.length) (hr : R32 L) (hL : L.length < 1000000000000) (hN : L.length = N0) :
    CodeZ Z Tryz.prog 39 (cR6 Tryz.f118) (eM (.func (.yield l) #[] #[]) i f) (hpO nl T (i32s L)) fun x e h => ∃ L', x = .normal ∧ (if f + 1 < i then YQ key L f i L' else L' = L) ∧ e = (38, .pv (.bool false)) :: eM (.func (.yield l) #[] #[]) i f ∧ h = hpO nl T (i32s L') := by
  intro w I G a Qx hs hz hq
  obtain ⟨q1, q2, q3, q4, q5, q6, q7, q8⟩ := zvk
  rw [zxq]
  have ea := e6a (nl := nl) (T := T) (.func (.yield l) #[] #[]) (i32s L) i f
  have eb := fun es => e6b (nl := nl) (T := T) (.func (.yield l) #[] #[]) es i f
  have ec := e6c (nl := nl) (T := T) (.func (.yield l) #[] #[]) (i32s L) i f
  generalize cOps (cR6 Tryz.f118) = O at *
  generalize o8 O = o at *
  have ww : IntKind.i64.wrap ((i : Int) - f) = (i : Int) - f := zaa (by omega) (by omega)
  rw [ww] at ea
  refine wp_mono (Q := fun x a' w' => x = .normal ∧ ∃ L' I' G', (if f + 1 < i then YQ key L f i L' else L' = L) ∧ SRel w' I' G' ((38, .pv (.bool false)) :: eM (.func (.yield l) #[] #[]) i f) (hpO nl T (i32s L')) 39 a' ∧ a'.defers = a.defers ∧ Z w' I' G' (hpO nl T (i32s L'))) ((wpIn_wide (n := 0)).1 (wpIn_region (F := wd none) ?_)) ?_
  rotate_left
  · rintro x a' w' ⟨rfl, L', I', G', h1, h2, h3, h4⟩
    exact hq .normal _ _ w' I' G' a' ⟨L', rfl, h1, rfl, rfl⟩ h2 h3 h4
  rw [q1, show List.range 11 = List.range' 0 8 ++ (8 :: List.range' 9 2) from rfl]
  refine zfz ?_
  rw [show (8 : Nat) = (O.toList.take 8).length by simp [q3]]
  have hsuf : ∀ j, j < (O.toList.drop 9).length → (O.toList.drop 9)[j]? = O[9 + j]? := fun j _ => by rw [List.getElem?_drop]; simp
  have hl2 : (O.toList.drop 9).length = 2 := by simp [q3]
  refine z1n (ro := none) q2 (fun j hj => ?_) (by rw [ea]; exact ⟨rfl, rfl⟩ : aOps Tryz.prog (fun _ => none) 39 O.toList (O.toList.take 8) _ _ (fun e' h' => e' = _ ∧ h' = hpO nl T (i32s L))) hs (fun a w h => nomatch h.1) ?_
  · rw [List.getElem?_take, if_pos (by simp only [List.length_take] at hj; omega)]; simp
  rintro _ _ w1 I1 G1 a1 ⟨rfl, rfl⟩ hs1 hd1 ht1
  rw [show (O.toList.take 8).length = 8 by simp [q3]]
  have hz1 := hZ _ _ _ _ _ _ _ _ hz hs.hh hs1.hh ht1.toN
  have h32 := zzy (hs1.he 32 _ rfl)
  have hyl : yielded O a1.tmps 4 = some (decide ((i : Int) - f > 1)) := by
    unfold yielded
    rw [q8]; simp [h32]
  have hwd : Region.wanted o (yielded O a1.tmps) = decide ((i : Int) - f > 1) := by unfold Region.wanted; rw [q6]; simp [hyl]
  show wpOpsIn (wd none) 0 Tryz.prog O _ (8 :: List.range' 9 2) a1 w1
  refine zrl q4 ?_
  rw [hwd]
  have hdst : zmb 39 o = true := by unfold zmb; rw [q5]; rfl
  by_cases hc : f + 1 < i
  · have hd' : decide ((i : Int) - f > 1) = true := by simp; omega
    rw [hd'] at hs1 h32 ⊢
    rw [if_pos rfl]
    refine ⟨fun _ _ => trivial, ?_⟩
    have h32' : a1.tmps.getD 32 undef = .bool true := (hs1.he 32 _ rfl).bool_eq
    have v33 := ((hs1.he 33 _ rfl).1 h32').raw_eq
    have v34 := ((hs1.he 34 _ rfl).1 h32').int_eq
    have v35 := ((hs1.he 35 _ rfl).1 h32').int_eq
    obtain ⟨fn, tmps, assign, body, hy, hR⟩ := hY w1 I1 G1 L f i hs1.hh hz1 hc hi hr hL hN
    have hrun : (o.semAt none a1.eval).run Tryz.prog w1 = .ok (.round l fn tmps assign body) w1 := by
      rw [Oper.semAt_none]
      unfold execOp
      rw [q7]
      have e33 : a1.eval (.tmp 33) = .func (.yield l) #[] #[] := v33
      have e34 : a1.eval (.tmp 34) = .int .i64 f := v34
      have e35 : a1.eval (.tmp 35) = .int .i64 i := v35
      have hres : resolve a1.eval { callee := .value (.tmp 33), args := #[.tmp 34, .tmp 35], argTypes := #[3, 3] } o.type = pure { target := .fn (.yield l) #[], args := #[.int .i64 f, .int .i64 i] } := by
        simp [resolve, e33, e34, e35, Deferred.ofValue]
      simp only [hres, pure_bind]
      exact hy
    rw [hrun]
    refine ⟨(fun x => by cases x), hR.mono ?_⟩
    rintro e w2 ⟨rfl, L', I2, G2, y1, y2, y3, y4, y5⟩
    have hs2 : SRel w2 I2 G2 ((36, .pv (.bool true)) :: (32, .pv (.bool true)) :: eM (.func (.yield l) #[] #[]) i f) (hpO nl T (i32s L')) 39 (a1.put o.dst (.bool true)) := by
      have s1 : SRel w1 I1 G1 ((32, .pv (.bool true)) :: eM (.func (.yield l) #[] #[]) i f) (hpO nl T (i32s L)) 39 a1 := hs1.le (LeE.le ⟨rfl, rfl, rfl, rfl, rfl, rfl, trivial⟩)
      obtain ⟨p1, p2⟩ := zgz (v := .pv (.bool true)) hdst s1.hn y2 (s1.he.mono y3 y4) (.pv _ _ (.bool true))
      have : put o (.pv (.bool true)) ((32, .pv (.bool true)) :: eM (.func (.yield l) #[] #[]) i f) = (36, .pv (.bool true)) :: (32, .pv (.bool true)) :: eM (.func (.yield l) #[] #[]) i f := by unfold put; rw [q5]; rfl
      rwa [this] at p1
    have := z1n (ro := none) (n := 0) (k := 9) q2 hsuf (by rw [eb]; exact ⟨rfl, rfl⟩ : aOps Tryz.prog (fun _ => none) 39 O.toList (O.toList.drop 9) _ _ (fun e' h' => e' = _ ∧ h' = hpO nl T (i32s L'))) hs2 (Q := fun x a' w' => x = .normal ∧ ∃ L' I' G', (if f + 1 < i then YQ key L f i L' else L' = L) ∧ SRel w' I' G' ((38, .pv (.bool false)) :: eM (.func (.yield l) #[] #[]) i f) (hpO nl T (i32s L')) 39 a' ∧ a'.defers = a.defers ∧ Z w' I' G' (hpO nl T (i32s L'))) (fun a w h => nomatch h.1) (by
        rintro _ _ w3 I3 G3 a3 ⟨rfl, rfl⟩ hs3 hd3 ht3
        refine ⟨rfl, L', I3, G3, by rw [if_pos hc]; exact y1, hs3.le (LeE.le ⟨rfl, rfl, rfl, rfl, rfl, rfl, trivial⟩), hd3.trans ((by unfold Act.put; cases o.dst <;> rfl : (a1.put o.dst (.bool true)).defers = a1.defers).trans hd1), hZ _ _ _ _ _ _ _ _ y5 hs2.hh hs3.hh ht3.toN⟩)
    rw [hl2] at this
    exact this
  · have hd' : decide ((i : Int) - f > 1) = false := by simp; omega
    rw [hd'] at hs1 h32 ⊢
    rw [if_neg (by simp)]
    refine ⟨fun _ _ => trivial, ?_⟩
    have hlt : 36 < a1.tmps.size := by rw [hs1.hn]; omega
    have hs2 : SRel w1 I1 G1 ((32, .pv (.bool false)) :: eM (.func (.yield l) #[] #[]) i f) (hpO nl T (i32s L)) 39 (a1.put o.dst undef) := by
      have s1 : SRel w1 I1 G1 ((32, .pv (.bool false)) :: eM (.func (.yield l) #[] #[]) i f) (hpO nl T (i32s L)) 39 a1 := hs1.le (LeE.le ⟨rfl, rfl, rfl, rfl, rfl, rfl, trivial⟩)
      obtain ⟨p1, p2⟩ := zgz (v := .bot) (cv := undef) hdst s1.hn s1.hh s1.he (.bot _)
      have : put o .bot ((32, .pv (.bool false)) :: eM (.func (.yield l) #[] #[]) i f) = (36, .bot) :: (32, .pv (.bool false)) :: eM (.func (.yield l) #[] #[]) i f := by unfold put; rw [q5]; rfl
      rw [this] at p1
      exact p1.le (LeE.le ⟨rfl, rfl, rfl, rfl, rfl, rfl, trivial⟩)
    have := z1n (ro := none) (n := 0) (k := 9) q2 hsuf (by rw [ec]; exact ⟨rfl, rfl⟩ : aOps Tryz.prog (fun _ => none) 39 O.toList (O.toList.drop 9) _ _ (fun e' h' => e' = _ ∧ h' = hpO nl T (i32s L))) hs2 (Q := fun x a' w' => x = .normal ∧ ∃ L' I' G', (if f + 1 < i then YQ key L f i L' else L' = L) ∧ SRel w' I' G' ((38, .pv (.bool false)) :: eM (.func (.yield l) #[] #[]) i f) (hpO nl T (i32s L')) 39 a' ∧ a'.defers = a.defers ∧ Z w' I' G' (hpO nl T (i32s L'))) (fun a w h => nomatch h.1) (by
        rintro _ _ w3 I3 G3 a3 ⟨rfl, rfl⟩ hs3 hd3 ht3
        exact ⟨rfl, L, I3, G3, by rw [if_neg hc], hs3.le (LeE.le ⟨rfl, rfl, rfl, rfl, rfl, rfl, trivial⟩), hd3.trans ((by unfold Act.put; cases o.dst <;> rfl : (a1.put o.dst undef).defers = a1.defers).trans hd1), hZ _ _ _ _ _ _ _ _ hz1 hs2.hh hs3.hh ht3.toN⟩)
    rw [hl2] at this
    exact this
end
end Go.Eng



namespace Go.Eng.Srt
open Go Go.Eng
section
variable (key : Int → Int)
def pas (x y : Int) : Bool := decide (key x ≠ 0) && decide (key x < key y)
def insR (x : Int) : List Int → List Int
  | [] => [x]
  | y :: r => if pas key x y = true then y :: insR x r else x :: y :: r
def ins (l : List Int) (x : Int) : List Int := (insR key x l.reverse).reverse
def ord (l : List Int) : List Int := l.foldl (ins key) []
inductive Eqv : List Int → List Int → Prop
  | refl (a : List Int) : Eqv a a
  | swap (u v w : List Int) (x y : Int) (hx : key x ≠ 0) (hy : key y ≠ 0) (hxy : key x ≠ key y) (h : Eqv (u ++ y :: x :: v) w) : Eqv (u ++ x :: y :: v) w
def zcg : List Int → Prop
  | x :: y :: r => (key y ≠ 0 → key x ≤ key y) ∧ zcg (y :: r)
  | _ => True
end
variable {key : Int → Int}
theorem zgb {x y : Int} : pas key x y = true ↔ key x ≠ 0 ∧ key x < key y := by simp [pas]
theorem zhc {x y : Int} : pas key x y = false ↔ key x = 0 ∨ key y ≤ key x := by
  simp only [pas, Bool.and_eq_false_imp, decide_eq_true_eq, decide_eq_false_iff_not]
  constructor
  · intro h; by_cases h0 : key x = 0
    · exact .inl h0
    · exact .inr (by have := h h0; omega)
  · rintro (h | h) h0
    · exact absurd h h0
    · omega
theorem zxr {x : Int} : ∀ {B A : List Int}, (∀ y ∈ B, pas key x y = true) → (A = [] ∨ ∃ z A', A = z :: A' ∧ pas key x z = false) → insR key x (B ++ A) = B ++ x :: A
  | [], A, _, h => by
    rcases h with rfl | ⟨z, A', rfl, h⟩
    · rfl
    · simp [insR, h]
  | y :: B, A, hB, h => by
    rw [List.cons_append, insR, if_pos (hB y List.mem_cons_self), zxr (fun z hz => hB z (List.mem_cons_of_mem _ hz)) h]; rfl
theorem zk5 {x : Int} {A B : List Int} (h1 : ∀ y ∈ B, pas key x y = true) (h2 : A = [] ∨ ∃ A' z, A = A' ++ [z] ∧ pas key x z = false) : ins key (A ++ B) x = A ++ x :: B := by
  unfold ins
  rw [List.reverse_append, zxr (fun y hy => h1 y (List.mem_reverse.1 hy)) (h2.elim (fun e => .inl (by rw [e]; rfl)) fun ⟨A', z, e, h⟩ => .inr ⟨z, A'.reverse, by rw [e]; simp, h⟩)]
  simp
theorem zjv (l : List Int) (x : Int) : ∃ A B, l = A ++ B ∧ (∀ y ∈ B, pas key x y = true) ∧ (A = [] ∨ ∃ A' z, A = A' ++ [z] ∧ pas key x z = false) := by
  have : ∀ r : List Int, ∃ B A, r = B ++ A ∧ (∀ y ∈ B, pas key x y = true) ∧ (A = [] ∨ ∃ z A', A = z :: A' ∧ pas key x z = false) := by
    intro r
    induction r with
    | nil => exact ⟨[], [], rfl, (fun y hy => by cases hy), .inl rfl⟩
    | cons y r ih =>
      cases hp : pas key x y with
      | true =>
        obtain ⟨B, A, e, h1, h2⟩ := ih
        exact ⟨y :: B, A, by rw [e]; rfl, fun z hz => by rcases List.mem_cons.1 hz with rfl | hz; exact hp; exact h1 z hz, h2⟩
      | false => exact ⟨[], y :: r, rfl, (fun y hy => by cases hy), .inr ⟨y, r, rfl, hp⟩⟩
  obtain ⟨B, A, e, h1, h2⟩ := this l.reverse
  refine ⟨A.reverse, B.reverse, by rw [← List.reverse_append, ← e]; simp, fun y hy => h1 y (List.mem_reverse.1 hy), h2.elim (fun e => .inl (by rw [e]; rfl)) fun ⟨z, A', e, h⟩ => .inr ⟨A'.reverse, z, by rw [e]; simp, h⟩⟩
theorem zm1 {l : List Int} {x y : Int} (hx : key x ≠ 0) (hxy : key x < key y) : ins key (ins key l y) x = ins key (ins key l x) y := by
  obtain ⟨B1, B2, rfl, b1, b2⟩ := zjv (key := key) l y
  obtain ⟨C1, C2, rfl, c1, c2⟩ := zjv (key := key) B1 x
  have px : ∀ z ∈ B2, pas key x z = true := fun z hz => zgb.2 ⟨hx, by have := (zgb.1 (b1 z hz)).2; omega⟩
  rw [zk5 b1 b2]
  have e1 : C1 ++ C2 ++ y :: B2 = C1 ++ (C2 ++ y :: B2) := by simp
  have e2 : C1 ++ C2 ++ B2 = C1 ++ (C2 ++ B2) := by simp
  rw [e1, zk5 (B := C2 ++ y :: B2) (fun z hz => ?_) c2, e2, zk5 (B := C2 ++ B2) (fun z hz => ?_) c2]
  · have e3 : C1 ++ x :: (C2 ++ B2) = (C1 ++ x :: C2) ++ B2 := by simp
    rw [e3, zk5 b1 (.inr ?_)]
    · simp
    · rcases C2.eq_nil_or_concat with rfl | ⟨D, z, rfl⟩
      · exact ⟨C1, x, rfl, zhc.2 (.inr (by omega))⟩
      · refine ⟨C1 ++ x :: D, z, by simp, ?_⟩
        rcases b2 with e | ⟨A', z', e, h⟩
        · simp at e
        · have : z = z' := by
            have := congrArg List.getLast? e
            simp at this; exact this
          rw [this]; exact h
  · rcases List.mem_append.1 hz with hz | hz
    · exact c1 z hz
    · exact px z hz
  · rcases List.mem_append.1 hz with hz | hz
    · exact c1 z hz
    · rcases List.mem_cons.1 hz with rfl | hz
      · exact zgb.2 ⟨hx, hxy⟩
      · exact px z hz
theorem zzz {l : List Int} {x y : Int} (hx : key x ≠ 0) (hy : key y ≠ 0) (hxy : key x ≠ key y) : ins key (ins key l x) y = ins key (ins key l y) x := by
  rcases Int.lt_or_gt_of_ne hxy with h | h
  · exact (zm1 hx h).symm
  · exact zm1 hy h
theorem zlp (l : List Int) (x : Int) : ord key (l ++ [x]) = ins key (ord key l) x := by simp [ord]
theorem Eqv.trans {a b c : List Int} (h : Eqv key a b) (k : Eqv key b c) : Eqv key a c := by
  induction h with
  | refl a => exact k
  | swap u v w x y hx hy hxy h ih => exact .swap u v c x y hx hy hxy (ih k)
theorem Eqv.app {a b : List Int} (h : Eqv key a b) (p q : List Int) : Eqv key (p ++ (a ++ q)) (p ++ (b ++ q)) := by
  induction h with
  | refl a => exact .refl _
  | swap u v w x y hx hy hxy h ih =>
    have := Eqv.swap (p ++ u) (v ++ q) _ x y hx hy hxy (by simpa using ih)
    simpa using this
theorem Eqv.symm {a b : List Int} (h : Eqv key a b) : Eqv key b a := by
  induction h with
  | refl a => exact .refl _
  | swap u v w x y hx hy hxy h ih => exact ih.trans (.swap u v _ y x hy hx (Ne.symm hxy) (.refl _))
theorem zsu {a b : List Int} (h : Eqv key a b) : ord key a = ord key b := by
  induction h with
  | refl a => rfl
  | swap u v w x y hx hy hxy h ih =>
    rw [← ih]
    simp only [ord, List.foldl_append, List.foldl_cons]
    rw [zzz hx hy hxy]
theorem Eqv.len {a b : List Int} (h : Eqv key a b) : a.length = b.length := by
  induction h with
  | refl a => rfl
  | swap u v w x y hx hy hxy h ih => rw [← ih]; simp
theorem Eqv.mem {a b : List Int} (h : Eqv key a b) {z : Int} : z ∈ a ↔ z ∈ b := by
  induction h with
  | refl a => exact Iff.rfl
  | swap u v w x y hx hy hxy h ih => rw [← ih]; simp only [List.mem_append, List.mem_cons]; exact or_congr_right ⟨fun h => h.elim (fun e => .inr (.inl e)) (fun h => h.elim .inl fun h => .inr (.inr h)), fun h => h.elim (fun e => .inr (.inl e)) (fun h => h.elim .inl fun h => .inr (.inr h))⟩
theorem Eqv.ahead {x : Int} (hx : key x ≠ 0) : ∀ {B : List Int} (q : List Int), (∀ y ∈ B, key y ≠ 0 ∧ key y ≠ key x) → Eqv key (B ++ x :: q) (x :: (B ++ q))
  | [], q, _ => .refl _
  | y :: B, q, h => by
    have h1 := Eqv.ahead hx (B := B) q fun z hz => h z (List.mem_cons_of_mem _ hz)
    have h2 := h1.app [y] []
    simp only [List.append_nil, List.cons_append, List.nil_append] at h2
    obtain ⟨hy, hyx⟩ := h y List.mem_cons_self
    exact h2.trans (.swap [] (B ++ q) _ y x hy hx hyx (.refl _))
theorem z2v (hk : ∀ x, 0 ≤ key x) (l : List Int) (x : Int) : Eqv key (l ++ [x]) (ins key l x) := by
  obtain ⟨A, B, rfl, h1, h2⟩ := zjv (key := key) l x
  rw [zk5 h1 h2]
  by_cases hB : B = []
  · subst hB; simp; exact .refl _
  · obtain ⟨y, hy⟩ := List.exists_mem_of_ne_nil B hB
    have hx := (zgb.1 (h1 y hy)).1
    have := (Eqv.ahead hx (B := B) [] fun z hz => by have := (zgb.1 (h1 z hz)).2; have := hk x; omega).app A []
    simpa using this
theorem zdx {p : List Int → Prop} (h0 : p []) (h1 : ∀ l x, p l → p (l ++ [x])) (l : List Int) : p l := by
  have : ∀ r : List Int, p r.reverse := by
    intro r
    induction r with
    | nil => exact h0
    | cons x r ih => rw [List.reverse_cons]; exact h1 _ _ ih
  have := this l.reverse
  rwa [List.reverse_reverse] at this
theorem zks (hk : ∀ x, 0 ≤ key x) (l : List Int) : Eqv key l (ord key l) := by
  induction l using zdx with
  | h0 => exact .refl _
  | h1 l x ih =>
    rw [zlp]
    have := ih.app [] [x]
    exact Eqv.trans (by simpa using this) (z2v hk _ x)
theorem zz0 (hk : ∀ x, 0 ≤ key x) (l : List Int) : ord key (ord key l) = ord key l := (zsu (zks hk l)).symm
theorem zde : ∀ {A B : List Int}, zcg key (A ++ B) ↔ zcg key A ∧ zcg key B ∧ (∀ z x, A.getLast? = some z → B.head? = some x → key x ≠ 0 → key z ≤ key x)
  | [], B => by simp [zcg]
  | [a], [] => by simp [zcg]
  | [a], b :: B => by simp [zcg, and_comm]
  | a :: c :: A, B => by
    have := zde (A := c :: A) (B := B)
    simp only [List.cons_append, zcg] at this ⊢
    rw [this, List.getLast?_cons_cons, and_assoc]
theorem zxs {l : List Int} {x : Int} (h : zcg key l) : zcg key (ins key l x) := by
  obtain ⟨A, B, rfl, h1, h2⟩ := zjv (key := key) l x
  rw [zk5 h1 h2]
  obtain ⟨q1, q2, q3⟩ := zde.1 h
  refine zde.2 ⟨q1, ?_, fun z x' hz hx' hx0 => ?_⟩
  · cases B with
    | nil => trivial
    | cons y B => exact ⟨fun _ => Int.le_of_lt (zgb.1 (h1 y List.mem_cons_self)).2, q2⟩
  · simp only [List.head?_cons, Option.some.injEq] at hx'
    subst hx'
    rcases h2 with rfl | ⟨A', z', rfl, hp⟩
    · cases hz
    · simp at hz; subst hz
      rcases zhc.1 hp with h | h
      · exact absurd h hx0
      · exact h
theorem zxt (l : List Int) : zcg key (ord key l) := by
  induction l using zdx with
  | h0 => trivial
  | h1 l x ih => rw [zlp]; exact zxs ih
theorem zrm {l : List Int} (h : zcg key l) : ord key l = l := by
  revert h
  induction l using zdx with
  | h0 => exact fun _ => rfl
  | h1 l x ih =>
    intro h
    obtain ⟨q1, q2, q3⟩ := zde.1 h
    rw [zlp, ih q1]
    have := zk5 (key := key) (x := x) (A := l) (B := []) (fun y hy => by cases hy) (by
      rcases l.eq_nil_or_concat with rfl | ⟨D, z, rfl⟩
      · exact .inl rfl
      · refine .inr ⟨D, z, by simp, zhc.2 ?_⟩
        by_cases hx : key x = 0
        · exact .inl hx
        · exact .inr (q3 z x (by simp) rfl hx))
    simpa using this
theorem zuc : ∀ {S' S : List Int}, Stab key S S' → (∀ x ∈ S, key x ≠ 0) → Eqv key S S'
  | [], S, h, _ => by have := h.len; cases S with | nil => exact .refl _ | cons => simp at this
  | y :: r, S, h, h0 => by
    have hf := h.2 (key y)
    rw [List.filter_cons, if_pos (by simp)] at hf
    obtain ⟨A, B, rfl, hA, hB⟩ := List.filter_eq_cons_iff.1 hf
    have hy : key y ≠ 0 := h0 y (by simp)
    have hA' : ∀ z ∈ A, key z ≠ key y := fun z hz => by have := hA z hz; simpa using this
    have e1 := Eqv.ahead hy (B := A) B fun z hz => ⟨h0 z (by simp [hz]), hA' z hz⟩
    have hs : Stab key (A ++ B) r := by
      refine ⟨(List.perm_cons y).1 ((List.perm_middle.symm).trans h.1), fun c => ?_⟩
      have := h.2 c
      rw [List.filter_append, List.filter_cons, List.filter_cons] at this
      rw [List.filter_append]
      by_cases hc : key y = c
      · have hn : A.filter (fun x => decide (key x = c)) = [] := List.filter_eq_nil_iff.2 fun z hz => by simp only [decide_eq_true_eq]; intro e; exact hA' z hz (e.trans hc.symm)
        rw [hn] at this ⊢
        simp only [hc, decide_true, if_true, List.nil_append, List.cons.injEq, true_and] at this
        exact this
      · simp only [hc, decide_false, Bool.false_eq_true, if_false] at this
        exact this
    have e2 := (zuc hs fun z hz => h0 z (by rcases List.mem_append.1 hz with hz | hz <;> simp [hz])).app [y] []
    simp only [List.append_nil, List.cons_append, List.nil_append] at e2
    exact e1.trans e2
theorem zol : ∀ {S : List Int}, Srtd key S → zcg key S
  | [], _ => trivial
  | [a], _ => trivial
  | a :: b :: S, h => ⟨fun _ => (List.pairwise_cons.1 h).1 b List.mem_cons_self, zol (List.pairwise_cons.1 h).2⟩
theorem cut3 (L : List Int) {i j : Nat} (hij : i ≤ j) (hj : j ≤ L.length) : L = L.take i ++ ((L.take j).drop i ++ L.drop j) ∧ (L.take i).length = i ∧ ((L.take j).drop i).length = j - i := by
  refine ⟨?_, by rw [List.length_take]; omega, by rw [List.length_drop, List.length_take]; omega⟩
  have h1 : L = L.take j ++ L.drop j := (List.take_append_drop j L).symm
  have h2 : L.take j = (L.take j).take i ++ (L.take j).drop i := (List.take_append_drop i _).symm
  rw [List.take_take, Nat.min_eq_left hij] at h2
  rw [← List.append_assoc, ← h2]; exact h1
theorem z41 (hk : ∀ x, 0 ≤ key x) {L : List Int} {i j : Nat} (hij : i ≤ j) (hj : j ≤ L.length) (hb : i = 0 ∨ key (L.getD (i - 1) 0) = 0) (hnz : ∀ k, i ≤ k → k < j → key (L.getD k 0) ≠ 0) (hend : j = L.length ∨ key (L.getD j 0) = 0)
    (hc : zcg key (L.take i)) {S' : List Int} (hs : Srtd key S') (hst : Stab key ((L.take j).drop i) S') :
    Eqv key L (L.take i ++ (S' ++ L.drop j)) ∧ zcg key ((L.take i ++ (S' ++ L.drop j)).take (j + 1)) ∧ (j < L.length → key ((L.take i ++ (S' ++ L.drop j)).getD j 0) = 0) := by
  obtain ⟨c1, c2, c3⟩ := cut3 L hij hj
  have hl : S'.length = j - i := by rw [← hst.len]; exact c3
  refine ⟨?_, ?_, fun hlt => ?_⟩
  · have hm : ∀ x ∈ (L.take j).drop i, key x ≠ 0 := fun x hx => by
      obtain ⟨k, hk1, hk2⟩ := List.getElem_of_mem hx
      have := hnz (i + k) (by omega) (by omega)
      rw [List.getElem_drop, List.getElem_take] at hk2
      have hl2 : i + k < L.length := by omega
      simp only [List.getD, List.getElem?_eq_getElem hl2, Option.getD_some, hk2] at this
      exact this
    have := (zuc hst hm).app (L.take i) (L.drop j)
    rwa [← c1] at this
  · rw [List.take_append, c2, List.take_of_length_le (by omega), List.take_append, hl, List.take_of_length_le (by omega : S'.length ≤ j + 1 - i), show j + 1 - i - (j - i) = 1 by omega]
    have hR : ∀ x, ((L.drop j).take 1).head? = some x → key x = 0 := fun x hx => by
      rcases hend with e | e
      · rw [List.drop_eq_nil_of_le (by omega)] at hx; cases hx
      · rcases Nat.lt_or_ge j L.length with h' | h'
        · rw [List.drop_eq_getElem_cons h'] at hx
          simp only [List.take_succ_cons, List.head?_cons, Option.some.injEq] at hx
          rw [← hx]
          simpa [List.getD, List.getElem?_eq_getElem h'] using e
        · rw [List.drop_eq_nil_of_le h'] at hx; cases hx
    refine zde.2 ⟨hc, zde.2 ⟨zol hs, ?_, fun z x _ hx h0 => absurd (hR x hx) h0⟩, fun z x hz hx h0 => ?_⟩
    · cases L.drop j with
      | nil => trivial
      | cons a r => trivial
    · have : key z = 0 := by
        rcases hb with rfl | hb
        · simp at hz
        · rw [List.getLast?_eq_getElem?, c2] at hz
          by_cases h0 : i = 0
          · subst h0; simp at hz
          · rw [List.getElem?_take, if_pos (by omega)] at hz
            simpa [List.getD, hz] using hb
      rw [this]; exact hk x
  · rcases hend with e | e
    · omega
    · rw [← List.append_assoc]
      simp only [List.getD] at e ⊢
      rw [List.getElem?_append_right (by simp only [List.length_append]; omega), List.length_append, c2, hl, List.getElem?_drop, show j + (j - (i + (j - i))) = j by omega]
      exact e
theorem zvl {S : List Int} (h : S.length ≤ 1) : Srtd key S := by
  match S, h with
  | [], _ => exact List.Pairwise.nil
  | [a], _ => exact List.pairwise_singleton _ _
end Go.Eng.Srt



namespace Go.Eng
open Go Go.Proofs Go.Eng.Rows Go.Eng.Srt
section
variable {Z : World → (Nat → Prop) → (Nat → Pl) → Hp → Prop} {key : Int → Int} {nl : Bool} {T : PV} {l : Nat} {y : Value} {es : List (List PV)}
theorem eI0 (Q : Qt) : aWp Tryz.prog (fun _ => none) 5 39 lM (fun _ => none) (cFst (cM Tryz.f118)) (zjh [.pv (.raw y), .box 4 0, .box 3 0] 0) (hpO nl T es) Q = Q .normal (eN y 0) (hpO nl T es) := by kernel_rfl
theorem eI1 (i : Int) (Q : Qt) : aWp Tryz.prog (fun _ => none) 5 39 lM (fun _ => none) (cFst (cL Tryz.f118)) (eN y i) (hpO nl T es) Q =
    if decide (i < (es.length : Int)) = true then Q .normal [(0, .pv (.raw y)), (1, .box 4 0), (2, .box 3 0), (4, .pv (.int .i64 i)), (9, .pv (.bool (decide (i < (es.length : Int)))))] (hpO nl T es)
    else Q (.exit 0) [(0, .pv (.raw y)), (1, .box 4 0), (2, .box 3 0), (4, .pv (.int .i64 i)), (9, .pv (.bool (decide (i < (es.length : Int)))))] (hpO nl T es) := by kernel_rfl
theorem eI3 (i : Int) (Q : Qt) : aWp Tryz.prog (fun _ => none) 5 39 lM (fun _ => none) (cFst (cB Tryz.f118)) (eN y i) (hpO nl T es) Q = Q .normal (eM y i i) (hpO nl T es) := by kernel_rfl
theorem eI2 (i : Int) (Q : Qt) : aWp Tryz.prog (fun _ => none) 5 39 lM (fun _ => none) (cSnd (cSnd (cL Tryz.f118))) (eN y i) (hpO nl T es) Q = Q .normal (eN y (IntKind.i64.wrap (i + 1))) (hpO nl T es) := by kernel_rfl
def eM25 (y : Value) (i f : Int) (b : Bool) : Env := [(0, .pv (.raw y)), (1, .box 4 0), (2, .box 3 0), (4, .pv (.int .i64 i)), (5, .pv (.int .i64 f)), (25, .pv (.bool b))]
theorem eI4 (i f : Int) (J : Int → Prop) (μ : Int → Nat) (Q : Qt) : aWp Tryz.prog (fun _ => none) 5 39 lM (fun zz_ => match zz_ with | 4 => some ⟨Int × Unit, fun s => (eM y s.1 f, hpO nl T es), fun _ s => J s.1, fun s => μ s.1, fun e h => (gI e 4, ()), [], [0, 1, 2, 4, 5], [], fun p => ∀ (x4 : Int), p (x4, ()), fun p h s => h s.1⟩ | _ => none) (cFst (cSnd (cB Tryz.f118))) (eM y i f) (hpO nl T es) Q =
    ((SameSt (eM y i f, hpO nl T es) (eM y i f, hpO nl T es) ∧ J i) ∧ ∀ (x4 : Int), J x4 → if decide (x4 < (es.length : Int)) = true then zam es x4 1 ∧ ∃ (n : Int), (List.drop 0 (es.getD x4.toNat [])).head? = some (.int .i32 n) ∧ PCall Tryz.prog 46 [T, .int .i32 n] fun (v : PV) => ∃ (n1 : Int), v = .int .i64 n1 ∧
        if (n1 != (0 : Int)) = true then SameSt (eM y (IntKind.i64.wrap (x4 + 1)) f, hpO nl T es) (eM y (IntKind.i64.wrap (x4 + 1)) f, hpO nl T es) ∧ J (IntKind.i64.wrap (x4 + 1)) ∧ μ (IntKind.i64.wrap (x4 + 1)) < μ x4
        else Q .normal (eM25 y x4 f (n1 != (0 : Int))) (hpO nl T es)
      else Q .normal (eM25 y x4 f false) (hpO nl T es)) := by kernel_rfl
theorem zxu : cM Tryz.f118 = .seq (cFst (cM Tryz.f118)) (.block 0 (.loop (cL Tryz.f118))) ∧
    cL Tryz.f118 = .seq (cFst (cL Tryz.f118)) (.seq (.block 1 (cB Tryz.f118)) (cSnd (cSnd (cL Tryz.f118)))) ∧
    cB Tryz.f118 = .seq (cFst (cB Tryz.f118)) (.seq (cFst (cSnd (cB Tryz.f118))) (.seq (cR6 Tryz.f118) (.cond (.tmp 38) .ret .skip))) := ⟨by kernel_rfl, by kernel_rfl, by kernel_rfl⟩
theorem CodeZ.le {P : Program} {N : Nat} {c : Code} {e e' : Env} {h : Hp} {Q : Qt} (hl : LeE e' e) (hK : CodeZ Z P N c e' h Q) : CodeZ Z P N c e h Q :=
  fun w I G a Qx hs hz hq => hK w I G a Qx (hs.le hl.le) hz hq
theorem z42 (hk : ∀ x, 0 ≤ key x) (hT : ∀ r : Int, (-2147483648 ≤ r ∧ r ≤ 2147483647) → PCall Tryz.prog 46 [T, .int .i32 r] fun v => v = .int .i64 (key r)) 
    (hZ : ∀ w I G h w' I' G' h', Z w I G h → HRel w I G h → HRel w' I' G' h' → TrN 5 w I G h w' I' G' h' → Z w' I' G' h') (L0 : List Int) (hY : zst Z key nl T l L0.length) (hr : R32 L0) (hL : L0.length < 1000000000000) :
    CodeZ Z Tryz.prog 39 (cM Tryz.f118) (zjh [.pv (.raw (.func (.yield l) #[] #[])), .box 4 0, .box 3 0] 0) (hpO nl T (i32s L0)) fun x e h => x = .normal ∧ h = hpO nl T (i32s (ord key L0)) := by
  obtain ⟨y, hy⟩ : ∃ y : Value, y = .func (.yield l) #[] #[] := ⟨_, rfl⟩
  rw [zxu.1, ← hy]
  refine CodeZ.seq (CodeZ.of (n0 := 5) hZ (zge (Eq.mpr (eI0 _) ?_)))
  show CodeZ Z Tryz.prog 39 (.block 0 (.loop (cL Tryz.f118))) (eN y 0) (hpO nl T (i32s L0)) _
  refine CodeZ.block (CodeZ.loop (σ := Nat × List Int) (fun s => (eN y s.1, hpO nl T (i32s s.2))) (fun s => s.1 ≤ L0.length + 1 ∧ Eqv key L0 s.2 ∧ zcg key (s.2.take s.1) ∧ (s.1 = 0 ∨ L0.length < s.1 ∨ key (s.2.getD (s.1 - 1) 0) = 0)) (fun s => L0.length + 1 - s.1) (0, L0) (LeE.le ⟨rfl, rfl, rfl, rfl, trivial⟩) rfl ⟨by omega, .refl _, by simp [zcg], .inl rfl⟩ ?_)
  rintro ⟨i, L⟩ ⟨hi, hq, hc, hb⟩
  have hlen := hq.len
  have hr' : R32 L := fun x hx => hr x (hq.mem.2 hx)
  dsimp only at hi hq hc hb hlen ⊢
  rw [zxu.2.1]
  refine CodeZ.seq (CodeZ.of (n0 := 5) hZ (zge (Eq.mpr (eI1 _ _) ?_)))
  by_cases hlt : i < L.length
  · rw [if_pos (by simpa using hlt)]
    show CodeZ Z Tryz.prog 39 (.seq (.block 1 (cB Tryz.f118)) (cSnd (cSnd (cL Tryz.f118)))) _ _ _
    refine CodeZ.le (e' := eN y i) ⟨rfl, rfl, rfl, rfl, trivial⟩ (CodeZ.seq (CodeZ.block ?_))
    rw [zxu.2.2]
    refine CodeZ.seq (CodeZ.of (n0 := 5) hZ (zge (Eq.mpr (eI3 _ _) ?_)))
    show CodeZ Z Tryz.prog 39 (.seq (cFst (cSnd (cB Tryz.f118))) (.seq (cR6 Tryz.f118) (.cond (.tmp 38) .ret .skip))) (eM y i i) _ _
    refine CodeZ.seq (CodeZ.of (n0 := 5) hZ (zge (Eq.mpr (eI4 _ _ (fun x => ∃ j : Nat, x = j ∧ i ≤ j ∧ j ≤ L.length ∧ ∀ k, i ≤ k → k < j → key (L.getD k 0) ≠ 0) (fun x => ((L.length : Int) - x).toNat) _) ?_)))
    refine ⟨⟨rfl, i, rfl, Nat.le_refl _, by omega, fun k h1 h2 => by omega⟩, ?_⟩
    rintro _ ⟨j, rfl, hij, hj, hnz⟩
    -- what follows the row of marks
    have rest : ∀ b, (j = L.length ∨ key (L.getD j 0) = 0) → CodeZ Z Tryz.prog 39 (.seq (cR6 Tryz.f118) (.cond (.tmp 38) .ret .skip)) (eM25 y j i b) (hpO nl T (i32s L)) fun x e h => match x with
        | .normal => CodeZ Z Tryz.prog 39 (cSnd (cSnd (cL Tryz.f118))) e h fun x e h => match x with
          | .normal => ∃ s' : Nat × List Int, (∀ i v, get (eN y s'.1) i = some v → get e i = some v) ∧ h = hpO nl T (i32s s'.2) ∧ (s'.1 ≤ L0.length + 1 ∧ Eqv key L0 s'.2 ∧ zcg key (s'.2.take s'.1) ∧ (s'.1 = 0 ∨ L0.length < s'.1 ∨ key (s'.2.getD (s'.1 - 1) 0) = 0)) ∧ L0.length + 1 - s'.1 < L0.length + 1 - i
          | _ => False
        | _ => False := fun b hend => by
      refine CodeZ.le (e' := eM y j i) ⟨rfl, rfl, rfl, rfl, rfl, trivial⟩ (CodeZ.seq ?_)
      rw [hy]
      refine (reg6 hY hZ L i j hij hj hr' (by omega) hlen.symm).mono ?_
      rintro _ _ _ ⟨L', rfl, hL', rfl, rfl⟩
      refine CodeZ.cond (t := false) rfl ?_
      simp only [Bool.false_eq_true, if_false]
      refine CodeZ.skip ?_
      rw [← hy]
      refine CodeZ.le (e' := eN y j) ⟨rfl, rfl, rfl, rfl, trivial⟩ (CodeZ.of (n0 := 5) hZ (zge (Eq.mpr (eI2 _ _) ?_)))
      have wj : IntKind.i64.wrap ((j : Int) + 1) = ((j + 1 : Nat) : Int) := by rw [zaa (by omega) (by omega)]; omega
      rw [wj]
      have hb' : i = 0 ∨ key (L.getD (i - 1) 0) = 0 := by
        rcases hb with h | h | h
        · exact .inl h
        · omega
        · exact .inr h
      obtain ⟨S', hs, hst, rfl⟩ : ∃ S', Srtd key S' ∧ Stab key ((L.take j).drop i) S' ∧ L' = L.take i ++ (S' ++ L.drop j) := by
        by_cases h1 : i + 1 < j
        · rw [if_pos h1] at hL'
          obtain ⟨S', e, h2, h3⟩ := hL'
          exact ⟨S', h2, h3, e⟩
        · rw [if_neg h1] at hL'
          obtain ⟨c1, c2, c3⟩ := cut3 L hij hj
          exact ⟨_, zvl (by omega), Stab.refl _, hL'.trans c1⟩
      obtain ⟨g1, g2, g3⟩ := z41 hk hij hj hb' hnz hend hc hs hst
      refine ⟨(j + 1, _), LeE.le ⟨rfl, rfl, rfl, rfl, trivial⟩, rfl, ⟨by dsimp only; omega, hq.trans g1, g2, ?_⟩, by dsimp only; omega⟩
      rcases Nat.lt_or_ge j L.length with h | h
      · exact .inr (.inr (g3 h))
      · exact .inr (.inl (by dsimp only; omega))
    by_cases hjl : j < L.length
    · rw [if_pos (by simpa using hjl)]
      refine ⟨zaj (enc := fun n => [PV.int .i32 n]) (l := L) (fun _ => rfl) (by omega) (by omega), L.getD j 0, by rw [Int.toNat_natCast, ztm hjl]; rfl, (hT _ (hr' _ (List.mem_of_getElem? (zjt hjl)))).mono ?_⟩
      rintro _ rfl
      refine ⟨_, rfl, ?_⟩
      by_cases hz : key (L.getD j 0) = 0
      · rw [if_neg (by simpa using hz)]
        exact (rest _ (.inr hz)).mono fun x e h hx => by cases x <;> first | exact hx.elim | exact CodeZ.mono hx fun x e h hx => (by cases x <;> first | exact hx | exact hx.elim)
      · rw [if_pos (by simpa using hz)]
        have wj : IntKind.i64.wrap ((j : Int) + 1) = ((j + 1 : Nat) : Int) := by rw [zaa (by omega) (by omega)]; omega
        rw [wj]
        refine ⟨rfl, ⟨j + 1, rfl, by omega, hjl, fun k h1 h2 => ?_⟩, by omega⟩
        rcases Nat.lt_or_ge k j with h | h
        · exact hnz k h1 h
        · have : k = j := by omega
          subst this; exact hz
    · rw [if_neg (by simpa using hjl)]
      exact (rest _ (.inl (by omega))).mono fun x e h hx => by cases x <;> first | exact hx.elim | exact CodeZ.mono hx fun x e h hx => (by cases x <;> first | exact hx | exact hx.elim)
  · rw [if_neg (by simpa using hlt)]
    refine ⟨rfl, ?_⟩
    rw [List.take_of_length_le (by omega)] at hc
    rw [zsu hq, zrm hc]
end
end Go.Eng



namespace Go.Eng
open Go Go.Proofs Go.Eng.Rows Go.Eng.Srt
section
variable {w w' : World} {I I' : Nat → Prop} {G G' : Nat → Pl} {h h' : Hp}
theorem HRel.off (hh : HRel w I G h) {l : Nat} (o : Obj) (hI : ¬ I l) (ho : ¬ Owns h G l) : HRel (w.putObj l o) I G h := by
  have hw : ∀ b, b ≠ l → (w.putObj l o).heap[b]? = w.heap[b]? := fun b hb => World.putObj_heap_other hb
  have hk : Keeps w I (w.putObj l o) I := ⟨fun b hb _ => hw b fun e => hI (e ▸ hb), fun b hb _ => hb⟩
  have blk : ∀ (i : Nat) x, h[i]? = some x → x.alive (G i) → (G i).blk ≠ l := fun i x hx ha e => ho ⟨i, x, hx, ha, e⟩
  refine ⟨fun i x hx => ?_, hh.sep, hh.nI, fun b hb => by rw [World.putObj_size]; exact hh.cl b hb⟩
  have := hh.obs i x hx
  cases x with
  | dead => trivial
  | box cs => obtain ⟨vs, ty, e1, e2, e3⟩ := this; exact ⟨vs, ty, by rw [hw _ (blk i _ hx trivial)]; exact e1, e2, fun k v hv => ⟨(e3 k v hv).1.mono hk (.refl _ _), (e3 k v hv).2⟩⟩
  | arr cs => obtain ⟨vs, ty, e1, e2, e3⟩ := this; exact ⟨vs, ty, by rw [hw _ (blk i _ hx trivial)]; exact e1, e2, fun k v hv => ⟨(e3 k v hv).1.mono hk.1 hk.2, (e3 k v hv).2⟩⟩
  | sl ty m n es =>
    cases n with
    | true => exact this
    | false =>
      obtain ⟨e1, e2, e3, e3', e4, e5⟩ := this
      refine ⟨e1, e2, e3, e3', e4, fun hc => ?_⟩
      obtain ⟨vs, f1, f2, f3⟩ := e5 hc
      exact ⟨vs, by rw [hw _ (blk i _ hx ⟨rfl, hc⟩)]; exact f1, f2, fun i' e he k v hv => ⟨(f3 i' e he k v hv).1.mono hk.1 hk.2, (f3 i' e he k v hv).2⟩⟩
  | mp kvs => obtain ⟨es, ck, e1, e2, e3⟩ := this; exact ⟨es, ck, by rw [hw _ (blk i _ hx trivial)]; exact e1, e2, fun k kv hv => ⟨(e3 k kv hv).1.mono hk.1 hk.2, (e3 k kv hv).2.mono hk.1 hk.2⟩⟩
  | iter ty rem cur => exact IterRel.mono this (hw _ (blk i _ hx trivial)) hk
theorem zjw (hh : HRel w I G h) {b : Nat} {o : Obj} (ho : w.heap[b]? = some o) (hn : (match o with | .cells .. => true | .map .. => true | .mapIter .. => true | _ => false) = false) : ¬ Owns h G b := by
  rintro ⟨i, ob, hi, ha, rfl⟩
  have := hh.obs i ob hi
  cases ob with
  | dead => exact ha
  | box cs => obtain ⟨vs, ty, e1, _⟩ := this; rw [ho] at e1; cases e1; cases hn
  | arr cs => obtain ⟨vs, ty, e1, _⟩ := this; rw [ho] at e1; cases e1; cases hn
  | sl ty m n es =>
    cases n with
    | true => exact absurd ha.1 (by simp)
    | false => obtain ⟨vs, e1, _⟩ := this.2.2.2.2.2 ha.2; rw [ho] at e1; cases e1; cases hn
  | mp kvs => obtain ⟨es, ck, e1, _⟩ := this; rw [ho] at e1; cases e1; cases hn
  | iter ty rem cur => obtain ⟨_, _, _, _, _, _, e1, _⟩ := this; rw [ho] at e1; cases e1; cases hn
theorem Tr.off {own own' : Nat → Prop} (t : Tr w I own w' I' own') {l : Nat} (hl : w.heap.size ≤ l) (o : Obj) : Tr w I own (w'.putObj l o) I' own' :=
  ⟨t.os, t.tape, t.output, by rw [World.putObj_size]; exact t.size, fun b hb hn => (World.putObj_heap_other (by omega)).trans (t.keep b hb hn), t.i1, t.i2, t.own2,
    fun a ha => (World.frozen?_of_block (World.putObj_heap_other (by omega))).trans (t.frz a ha), t.drawn⟩
theorem TrN.off {n0 : Nat} (t : TrN n0 w I G h w' I' G' h') {l : Nat} (hl : w.heap.size ≤ l) (o : Obj) : TrN n0 w I G h (w'.putObj l o) I' G' h' := ⟨t.t.off hl o, t.len, t.stay⟩
theorem zm2 (hh : HRel w I G h) (t : Tr w I (Owns h G) w' I' (Owns h' G')) : Keeps w I w' I' :=
  ⟨fun b hb hlt => t.keep b hlt fun ⟨o, ob, h1, h2, e⟩ => hh.nI o ob h1 h2 (e ▸ hb), fun b hb _ => t.i1 b hb⟩
theorem Keeps.trans {w1 w2 : World} {I1 I2 : Nat → Prop} (h : Keeps w I w1 I1) (hs : w.heap.size ≤ w1.heap.size) (k : Keeps w1 I1 w2 I2) : Keeps w I w2 I2 :=
  ⟨fun b hb hlt => (k.1 b (h.2 b hb hlt) (Nat.lt_of_lt_of_le hlt hs)).trans (h.1 b hb hlt), fun b hb hlt => k.2 b (h.2 b hb hlt) (Nat.lt_of_lt_of_le hlt hs)⟩
theorem Keeps.off {l : Nat} (hI : ¬ I l) (o : Obj) : Keeps w I (w.putObj l o) I := ⟨fun b hb _ => World.putObj_heap_other fun e => hI (e ▸ hb), fun b hb _ => hb⟩
structure ZR (W0 : World) (I0 : Nat → Prop) (G0 : Nat → Pl) (h0 : Hp) (l D : Nat) (rec : Loop) (W : World) (I : Nat → Prop) (G : Nat → Pl) (h : Hp) : Prop where
  t : TrN 5 W0 I0 G0 h0 W I G h
  hl : W.heap[l]? = some (.loop rec)
  hD : W.heap[D]? = some (.deferred (some []))
  nl : ¬ I l
  nD : ¬ I D
theorem ZR.step {W0 : World} {I0 : Nat → Prop} {G0 : Nat → Pl} {h0 : Hp} {l D : Nat} {rec : Loop} (z : ZR W0 I0 G0 h0 l D rec w I G h) (hh : HRel w I G h) (t : TrN 5 w I G h w' I' G' h') : ZR W0 I0 G0 h0 l D rec w' I' G' h' := by
  have l1 := (Array.getElem?_eq_some_iff.1 z.hl).1
  have l2 := (Array.getElem?_eq_some_iff.1 z.hD).1
  have n1 := zjw hh z.hl rfl
  have n2 := zjw hh z.hD rfl
  exact ⟨z.t.trans t, (t.t.keep l l1 n1).trans z.hl, (t.t.keep D l2 n2).trans z.hD, fun x => (t.t.i2 l x).elim z.nl (fun x => x.elim n1 fun x => by omega), fun x => (t.t.i2 D x).elim z.nD (fun x => x.elim n2 fun x => by omega)⟩
end
section
variable {key : Int → Int} {nl : Bool} {T : PV}
theorem z2w {G G' : Nat → Pl} {es es' : List (List PV)} (hl : es.length = es'.length) (hG : ∀ o, o < 5 → G' o = G o) : Like G G' (hpO nl T es) (hpO nl T es') := by
  intro o ob ho
  have hlt : o < 5 := (List.getElem?_eq_some_iff.1 ho).1
  refine ⟨?_, fun _ => hG o hlt⟩
  match o, ho with
  | 0, ho => cases ho; exact ⟨_, rfl, trivial⟩
  | 1, ho => cases ho; exact ⟨_, rfl, rfl, rfl, hl⟩
  | 2, ho => cases ho; exact ⟨_, rfl, trivial⟩
  | 3, ho => cases ho; exact ⟨_, rfl, trivial⟩
  | 4, ho => cases ho; exact ⟨_, rfl, trivial⟩
theorem zz1 {w w' : World} {I I' : Nat → Prop} {G G' : Nat → Pl} {es es' : List (List PV)} (t : TrN 5 w I G (hpO nl T es) w' I' G' (hpO nl T es')) : ∀ o, o < 5 → G' o = G o := by
  intro o ho
  have hs := t.stay (Nat.le_refl _)
  match o, ho with
  | 0, _ => exact (hs 0 _ (by omega) rfl rfl).1
  | 1, _ => exact (hs 1 _ (by omega) rfl rfl).1
  | 2, _ => exact (hs 2 _ (by omega) rfl rfl).1
  | 3, _ => exact (hs 3 _ (by omega) rfl rfl).1
  | 4, _ => exact (hs 4 _ (by omega) rfl rfl).1
theorem eA3 (es : List (List PV)) (i f : Int) (K : Env → Hp → Prop) : aOps Tryz.prog (fun _ => none) 22 (cOps (cFst (cAs (cOr Tryz.f71)))).toList (cOps (cFst (cAs (cOr Tryz.f71)))).toList (eO f i) (hpO nl T es) K = K ((6, .pv (.int .i64 f)) :: eO f i) (hpO nl T es) := by kernel_rfl
theorem eA4 (es : List (List PV)) (i f : Int) (K : Env → Hp → Prop) : aOps Tryz.prog (fun _ => none) 22 (cOps (cSnd (cAs (cOr Tryz.f71)))).toList (cOps (cSnd (cAs (cOr Tryz.f71)))).toList ((6, .pv (.int .i64 f)) :: eO f i) (hpO nl T es) K = K ((7, .pv (.int .i64 i)) :: (6, .pv (.int .i64 f)) :: eO f i) (hpO nl T es) := by kernel_rfl
theorem eA5 (es : List (List PV)) (i f : Int) (K : Env → Hp → Prop) : aOps Tryz.prog z1l 22 (cOps (cIn (cBd (cOr Tryz.f71)))).toList (cOps (cIn (cBd (cOr Tryz.f71)))).toList ((7, .pv (.int .i64 i)) :: (6, .pv (.int .i64 f)) :: eO f i) (hpO nl T es) K =
    (slOK es.length (some f) (some i) none ∧ ACall Tryz.prog 99 [.sub 0 f.toNat i.toNat, .fn 100 [.box 1 0]] [.sl (21, 1) false nl es, .box [.pv T]] fun (r : LV) (h' : Hp) => ∃ (t : List (List PV)), (r = .tup [] ∧ h' = [.sl (21, 1) false nl t, .box [.pv T]]) ∧
      (True ∧ (((21, 1) : Nat × Nat) = (21, 1) ∧ nl = nl ∧ es.length = t.length) ∧ True) ∧ K ((20, .tup []) :: (19, .fn 100 [.box 0 0]) :: (18, .sub 1 f.toNat i.toNat) :: (17, .pv (.int .i64 i)) :: (16, .pv (.int .i64 f)) :: (15, .own 1) :: (7, .pv (.int .i64 i)) :: (6, .pv (.int .i64 f)) :: eO f i) (hpO nl T t)) := by kernel_rfl
theorem z0x : cAs (cOr Tryz.f71) = .seq (.region 3 (cOps (cFst (cAs (cOr Tryz.f71)))) false) (.region 4 (cOps (cSnd (cAs (cOr Tryz.f71)))) false) ∧ cBd (cOr Tryz.f71) = .block 1 (.region 5 (cOps (cIn (cBd (cOr Tryz.f71)))) false) ∧
    cOr Tryz.f71 = .rangeFunc (.tmp 12) #[13, 14] (cAs (cOr Tryz.f71)) (cBd (cOr Tryz.f71)) ∧ zfh (cOps (cFst (cAs (cOr Tryz.f71)))).toList = true ∧ zfh (cOps (cSnd (cAs (cOr Tryz.f71)))).toList = true ∧ zfh (cOps (cIn (cBd (cOr Tryz.f71)))).toList = true :=
  ⟨by kernel_rfl, by kernel_rfl, by kernel_rfl, by kernel_rfl, by kernel_rfl, by kernel_rfl⟩
theorem z35 (hc : znm T key) {W0 : World} {I0 : Nat → Prop} {G0 : Nat → Pl} {L0 : List Int} {a : Act} {v12 : LV} (hs0 : SRel W0 I0 G0 [(2, .box 0 0), (5, .box 2 0), (12, v12)] (hpO nl T (i32s L0)) 22 a) (rec : Loop)
    (r1 : rec.state = .ready) (r2 : rec.pending = none) (r3 : rec.tmps = a.tmps) (r4 : rec.params = #[13, 14]) (r5 : rec.assign = cAs (cOr Tryz.f71)) (r6 : rec.body = cBd (cOr Tryz.f71)) :
    zst (ZR W0 I0 G0 (hpO nl T (i32s L0)) (W0.heap.size + 1) W0.heap.size rec) key nl T (W0.heap.size + 1) L0.length := by
  intro w I G L f i hh hz hfi hil hr hLn hN
  obtain ⟨l, hl⟩ : ∃ l, l = W0.heap.size + 1 := ⟨_, rfl⟩
  have hWl : W0.heap.size ≤ l := by omega
  rw [← hl] at hz ⊢
  refine ⟨_, _, _, _, run_yield (P := Tryz.prog) hz.hl (by rw [r4]; rfl), roundIn_of_wpIn trivial ?_⟩
  have hlt := (Array.getElem?_eq_some_iff.1 hz.hl).1
  have hel : ∀ L' : List Int, L'.length = L.length → (i32s L0).length = (i32s L').length := fun L' h => by simp [hN, h]
  have hs : SRel w I G (eO f i) (hpO nl T (i32s L)) 22 { tmps := (a.tmps.setIfInBounds 13 (.int .i64 f)).setIfInBounds 14 (.int .i64 i), defers := [] } := by
    have h1 := hs0.he.mono (zm2 hs0.hh hz.t.t) (z2w (hel L rfl) (zz1 hz.t))
    have h2 := h1.set (d := 13) (v := .pv (.int .i64 f)) (by rw [hs0.hn]; omega) (.pv _ _ (.int .i64 f)) (fun _ _ _ e => by cases e)
    have h3 := h2.set (d := 14) (v := .pv (.int .i64 i)) (by simp [hs0.hn]) (.pv _ _ (.int .i64 i)) (fun _ _ _ e => by cases e)
    exact ⟨hh, fun k v hk => h3 k v ((LeE.le (e' := eO f i) ⟨rfl, rfl, rfl, rfl, trivial⟩) k v hk), by simp [hs0.hn]⟩
  obtain ⟨q1, q2, q3, q4, q5, q6⟩ := z0x
  rw [r5, q1, r4, r3]
  have hfold : ∀ x y : Value, (((#[13, 14] : Array Tmp).zip #[x, y]).foldl (fun tmps (t, a) => tmps.setIfInBounds t a) a.tmps) = (a.tmps.setIfInBounds 13 x).setIfInBounds 14 y := fun x y => by simp
  rw [hfold]
  refine wpIn_seq ?_
  show Code.wpIn (wd (some l)) 0 Tryz.prog _ (Exit.then (Code.wpIn (wd (some l)) 0 Tryz.prog _ _) _) { tmps := (a.tmps.setIfInBounds 13 (.int .i64 f)).setIfInBounds 14 (.int .i64 i), defers := [] } w
  refine zpe q4 (by rw [eA3]; exact ⟨rfl, rfl⟩ : aOps Tryz.prog (fun _ => none) 22 _ _ _ _ (fun e' h' => e' = _ ∧ h' = _)) hs ?_ ?_
  · exact fun a w h => h
  rintro _ _ w1 I1 G1 a1 ⟨rfl, rfl⟩ hs1 hd1 ht1
  refine zpe q5 (by rw [eA4]; exact ⟨rfl, rfl⟩ : aOps Tryz.prog (fun _ => none) 22 _ _ _ _ (fun e' h' => e' = _ ∧ h' = _)) hs1 ?_ ?_
  · exact fun a w h => h
  rintro _ _ w2 I2 G2 a2 ⟨rfl, rfl⟩ hs2 hd2 ht2
  have z1 := hz.step hh ht1.toN
  have z2 := z1.step hs1.hh ht2.toN
  refine ⟨_, run_beginRound z2.hl r1, ?_⟩
  have n2 := zjw hs2.hh z2.hl rfl
  have l2 := (Array.getElem?_eq_some_iff.1 z2.hl).1
  have hs3 : SRel (w2.putObj l (.loop { rec with state := .busy })) I2 G2 _ _ 22 a2 := ⟨hs2.hh.off _ z2.nl n2, hs2.he.mono (Keeps.off z2.nl _) (.refl _ _), hs2.hn⟩
  have hp3 : (w2.putObj l (.loop { rec with state := .busy })).heap[l]? = some (.loop { rec with state := .busy }) := World.putObj_heap_same l2
  have hb : ∀ {c : Code} {Q a w}, c = cBd (cOr Tryz.f71) → Code.wpIn (wd (some l)) 0 Tryz.prog (.block 1 (.region 5 (cOps (cIn (cBd (cOr Tryz.f71)))) false)) Q a w → Code.wpIn (wd (some l)) 0 Tryz.prog c Q a w := fun e h => by rw [e, q2]; exact h
  refine hb r6 ?_
  have h5 : aOps Tryz.prog z1l 22 (cOps (cIn (cBd (cOr Tryz.f71)))).toList (cOps (cIn (cBd (cOr Tryz.f71)))).toList ((7, .pv (.int .i64 i)) :: (6, .pv (.int .i64 f)) :: eO f i) (hpO nl T (i32s L)) (fun _ h' => ∃ L', YQ key L f i L' ∧ h' = hpO nl T (i32s L')) := by
    rw [eA5, Int.toNat_natCast, Int.toNat_natCast]
    obtain ⟨c1, c2, c3⟩ := cut3 L (show f ≤ i by omega) hil
    have e : i32s L = i32s (L.take f ++ ((L.take i).drop f ++ L.drop i)) := congrArg i32s c1
    refine ⟨⟨by simp, by simp; omega, by simp; omega, trivial⟩, ?_⟩
    rw [e]
    refine (zss hc f i nl (L.take f) ((L.take i).drop f) (L.drop i) c2 (by omega) (by rw [← c1]; exact hr) (by omega)).mono ?_
    rintro r h' ⟨S', rfl, rfl, s1, k1⟩
    refine ⟨_, ⟨rfl, rfl⟩, ⟨trivial, ⟨rfl, rfl, ?_⟩, trivial⟩, _, ⟨S', rfl, s1, k1⟩, rfl⟩
    have := k1.len
    simp only [zac, List.length_append]; omega
  refine wpIn_block ?_
  show Code.wpIn (wd (some l)) 0 Tryz.prog _ _ _ _
  refine zpe (H := z1l) (ro := some l) (n := 0) (id := 5) q6 h5 hs3 ?_ ?_
  · exact fun a w h => h
  rintro e4 _ w4 I4 G4 a4 ⟨L', hYQ, rfl⟩ hs4 hd4 ht4
  have n3 := zjw hs3.hh hp3 rfl
  have hl4 : w4.heap[l]? = some (.loop { rec with state := .busy }) := (ht4.t.keep l (by rw [World.putObj_size]; exact l2) n3).trans hp3
  have l4 := (Array.getElem?_eq_some_iff.1 hl4).1
  have nI4 : ∀ b, ¬ I2 b → ¬ Owns (hpO nl T (i32s L)) G2 b → b < w2.heap.size → ¬ I4 b := fun b x y z h => (ht4.t.i2 b h).elim x fun h => h.elim y fun h => by rw [World.putObj_size] at h; omega
  have nl4 := nI4 l z2.nl n2 l2
  have hDne : W0.heap.size ≠ l := by omega
  have nD2 := zjw hs2.hh z2.hD rfl
  have lD := (Array.getElem?_eq_some_iff.1 z2.hD).1
  have hrec : ({ { rec with state := .busy } with state := if (none : Option Code).isNone then .ready else .done, pending := none } : Loop) = rec := by
    cases rec; simp only at r1 r2; subst r1; subst r2; rfl
  have hrun := run_endRound (P := Tryz.prog) none hl4
  rw [hrec] at hrun
  have hLL : L'.length = L.length := by
    obtain ⟨S', rfl, s1, k1⟩ := hYQ
    obtain ⟨c1, c2, c3⟩ := cut3 L (show f ≤ i by omega) hil
    have := k1.len
    rw [List.length_append, List.length_append, c2, ← this, c3, List.length_drop]; omega
  have tB : TrN 5 W0 I0 G0 (hpO nl T (i32s L0)) (w4.putObj l (.loop rec)) I4 G4 (hpO nl T (i32s L')) := ((z2.t.off hWl _).trans ht4.toN).off hWl _
  refine ⟨_, _, hrun, rfl, L', I4, G4, hYQ, hs4.hh.off _ nl4 (zjw hs4.hh hl4 rfl), ?_, z2w (by simp [hLL]) (fun o ho => (zz1 tB o ho).trans (zz1 hz.t o ho).symm), ⟨tB, World.putObj_heap_same l4, ?_, nl4, nI4 _ z2.nD nD2 lD⟩⟩
  · have k1 := (zm2 hh ht1.t).trans ht1.t.size (zm2 hs1.hh ht2.t)
    have s2 := Nat.le_trans ht1.t.size ht2.t.size
    have k2 := (k1.trans s2 (Keeps.off z2.nl (.loop { rec with state := .busy }))).trans (by rw [World.putObj_size]; exact s2) (zm2 hs3.hh ht4.t)
    exact k2.trans (by have := ht4.t.size; rw [World.putObj_size] at this; omega) (Keeps.off nl4 _)
  · rw [World.putObj_heap_other hDne]
    exact (ht4.t.keep _ (by rw [World.putObj_size]; exact lD) (zjw hs3.hh ((World.putObj_heap_other hDne).trans z2.hD) rfl)).trans ((World.putObj_heap_other hDne).trans z2.hD)
end
end Go.Eng



namespace Go.Eng
open Go Go.Proofs
def zbs (nl fl : Bool) (es : LL) (R : LV → Hp → Prop) : Prop :=
 if (bif true then nl else !nl) = true then R (LV.pv (PV.sl true true [])) [] else ApOK true [] es 1 4 ∧ R (LV.own 0) [Ob.sl (21, 1) false false ([] ++ es)]
theorem zfr (nl fl : Bool) (es : LL) {R : LV → Hp → Prop} (h : zbs nl fl es R) : ACall Tryz.prog 97 [.pv (.sl nl fl es)] [] R :=
  ACall.ofA Tryz.func97 (by kernel_rfl) (by kernel_rfl) (Nat.le_of_ble_eq_true (by kernel_rfl)) (Eq.mpr (by kernel_rfl : aFnA Tryz.prog (fun _ => none) Tryz.f97 [0, 2, 4] (fun _ => none) (Tryz.f97.body.getD .skip) [.pv (.sl nl fl es)] [] R = zbs nl fl es R) h)

def zh6 (nl : Bool) (ts : List PV) (es : LL) (R : LV → Hp → Prop) : Prop :=
 R (LV.fn 118 [LV.box 2 0, LV.box 1 0]) [Ob.sl (21, 1) false nl es, Ob.box [LV.pv (PV.ptr ts)], Ob.box [LV.own 0]]
theorem znn (nl : Bool) (ts : List PV) (es : LL) {R : LV → Hp → Prop} (h : zh6 nl ts es R) : ACall Tryz.prog 98 [.pv (.ptr ts), .own 0] [.sl (21, 1) false nl es] R :=
  ACall.of Tryz.func98 (by kernel_rfl) (by kernel_rfl) (Nat.le_of_ble_eq_true (by kernel_rfl)) (Eq.mpr (by kernel_rfl : aFnH Tryz.prog (fun _ => none) Tryz.f98 [0, 1, 2, 3, 4] (fun _ => none) [0, 1, 2] (Tryz.f98.body.getD .skip) [.pv (.ptr ts), .own 0] [.sl (21, 1) false nl es] R = zh6 nl ts es R) h)

end Go.Eng



namespace Go.Eng
open Go Go.Proofs Go.Eng.Rows Go.Eng.Srt
theorem ACall.nilOwn {P : Program} {f : Nat} {args : List LV} {Q Q' : LV → Hp → Prop} {ty : Nat × Nat} (hc : ACall P f args [] Q) (hq : ∀ r h', Q r h' → Q' r h' ∨ ∃ fl, r = .pv (.sl true fl []) ∧ h' = [] ∧ Q' (.own 0) [.sl ty false true []]) : ACall P f args [] Q' :=
  ⟨hc.1, fun w I G cargs h1 h2 h3 => (hc.2 w I G cargs h1 h2 h3).mono fun e w' ⟨cv, r, h', I', G', e1, e2, e3, e4, e5⟩ => (hq r h' e2).elim (fun q => ⟨cv, r, h', I', G', e1, q, e3, e4, e5⟩) fun ⟨fl, hr, hh, q⟩ => by
    subst hr; subst hh
    have hcv : cv = .slice none 0 0 := by cases e4 with | pv _ _ h => cases h; rfl
    subst hcv
    have one : ∀ {o : Nat} {ob : Ob}, [Ob.sl ty false true []][o]? = some ob → ob = .sl ty false true [] := fun {o ob} h => by
      cases o with
      | zero => cases h; rfl
      | succ o => simp at h
    have dead : ∀ {p : Pl}, ¬ (Ob.sl ty false true []).alive p := fun h => by cases h.1
    have noB : ∀ b, ¬ Owns [Ob.sl ty false true []] G' b := fun b ⟨o, ob, ho, ha, _⟩ => by rw [one ho] at ha; exact dead ha
    refine ⟨_, .own 0, [.sl ty false true []], I', G', e1, q, ⟨fun o ob ho => by rw [one ho]; rfl, fun o o' ob ob' ho ha => by rw [one ho] at ha; exact (dead ha).elim, fun o ob ho ha => by rw [one ho] at ha; exact (dead ha).elim, e3.cl⟩, .ownNil 0 ty false [] rfl, ?_, by simp, fun o ob' ho => by simp at ho⟩
    have t := e5.t
    exact ⟨t.os, t.tape, t.output, t.size, t.keep, t.i1, t.i2, fun b hb => (noB b hb).elim, t.frz, t.drawn⟩⟩
theorem z36 (nl fl : Bool) (es : List (List PV)) (hn : nl = true → es = []) (ha : ApOK true [] es 1 4) : ACall Tryz.prog 97 [.pv (.sl nl fl es)] [] fun r h' => r = .own 0 ∧ h' = [.sl (21, 1) false nl es] := by
  refine ACall.nilOwn (ty := (21, 1)) (Q := fun r h' => (nl = true ∧ r = .pv (.sl true true []) ∧ h' = []) ∨ (nl = false ∧ r = .own 0 ∧ h' = [.sl (21, 1) false nl es])) (zfr nl fl es ?_) ?_
  · unfold zbs
    cases nl with
    | true => exact .inl ⟨rfl, rfl, rfl⟩
    | false => exact ⟨ha, .inr ⟨rfl, rfl, by simp⟩⟩
  · rintro r h' (⟨rfl, rfl, rfl⟩ | ⟨rfl, rfl, rfl⟩)
    · rw [hn rfl]; exact .inr ⟨true, rfl, rfl, rfl, rfl⟩
    · exact .inl ⟨rfl, rfl⟩
theorem runS {P : Program} {n0 N : Nat} {c : Code} {e E : Env} {h Hh : Hp} (hS : CodeS P n0 N c e h fun x e' h' => x = .normal ∧ e' = E ∧ h' = Hh) {w : World} {I : Nat → Prop} {G : Nat → Pl} {a : Act} (hs : SRel w I G e h N a) {Q : Exit → Act → World → Prop}
    (hq : ∀ w' I' G' a', SRel w' I' G' E Hh N a' → a'.defers = a.defers → TrN n0 w I G h w' I' G' Hh → Q .normal a' w') : c.wp P Q a w :=
  hS w I G a Q hs fun x e' h' w' I' G' a' hk hs' hd ht => by obtain ⟨rfl, rfl, rfl⟩ := hk; exact hq w' I' G' a' hs' hd ht
section
variable {nl fl : Bool} {ts : List PV} {es : List (List PV)}
theorem eB0 (Q : Qt) : aWp Tryz.prog (fun _ => none) 0 22 [1, 2, 4] (fun _ => none) (cO0 Tryz.f71) (zjh [.pv (.ptr ts), .pv (.sl nl fl es)] 0) [] Q = Q .normal [(1, .pv (.sl nl fl es)), (2, .box 0 0), (4, .pv (.sl true true []))] [.box [.pv (.ptr ts)]] := by kernel_rfl
theorem eB1 (Q : Qt) : aWp Tryz.prog z0p 0 22 [2, 5] (fun _ => none) (cO1 Tryz.f71) [(1, .pv (.sl nl fl es)), (2, .box 0 0)] [.box [.pv (.ptr ts)]] Q =
    ACall Tryz.prog 97 [.pv (.sl nl fl es)] [] fun (r : LV) (h' : Hp) => ∃ (_ : Unit), (r = .own 0 ∧ h' = [.sl (21, 1) false nl es]) ∧ True ∧ Q .normal [(2, .box 0 0), (5, .box 2 0)] [.box [.pv (.ptr ts)], .sl (21, 1) false nl es, .box [.own 1]] := by kernel_rfl
theorem eB2 (Q : Qt) : aWp Tryz.prog z0p 0 22 [2, 5, 12] (fun _ => none) (cO2 Tryz.f71) [(2, .box 0 0), (5, .box 2 0)] [.box [.pv (.ptr ts)], .sl (21, 1) false nl es, .box [.own 1]] Q =
    ACall Tryz.prog 98 [.pv (.ptr ts), .own 0] [.sl (21, 1) false nl es] fun (r : LV) (h' : Hp) => ∃ (_ : Unit), (r = .fn 118 [.box 2 0, .box 1 0] ∧ h' = [.sl (21, 1) false nl es, .box [.pv (.ptr ts)], .box [.own 0]]) ∧
      ((((21, 1) : Nat × Nat) = (21, 1) ∧ nl = nl ∧ es.length = es.length) ∧ True) ∧ Q .normal [(2, .box 0 0), (5, .box 2 0), (12, .fn 118 [.box 4 0, .box 3 0])] (hpO nl (.ptr ts) es) := by kernel_rfl
theorem eB6 (Q : Qt) : aWp Tryz.prog (fun _ => none) 5 22 [4] (fun _ => none) (cO6 Tryz.f71) [(2, .box 0 0), (5, .box 2 0)] (hpO nl (.ptr ts) es) Q = Q .normal [(4, .own 1)] (hpO nl (.ptr ts) es) := by kernel_rfl
theorem zxv : cM Tryz.f71 = .seq (cO0 Tryz.f71) (.seq (cO1 Tryz.f71) (.seq (.seq (cO2 Tryz.f71) (.block 0 (cOr Tryz.f71))) (.seq (cO6 Tryz.f71) .ret))) ∧ Tryz.f71.body = some (cM Tryz.f71) ∧ Tryz.f71.ntmps = 22 ∧
    Tryz.f118.body = some (cM Tryz.f118) ∧ Tryz.f118.ntmps = 39 ∧ Tryz.f71.results = #[.tmp 4] ∧ Tryz.f118.results = #[] ∧ Tryz.f71.body.isNone = false ∧ (Tryz.f71.name == "runtime.NumGoroutine") = false ∧ Tryz.f118.body.isNone = false ∧ (Tryz.f118.name == "runtime.NumGoroutine") = false :=
  ⟨by kernel_rfl, by kernel_rfl, by kernel_rfl, by kernel_rfl, by kernel_rfl, by kernel_rfl, by kernel_rfl, by kernel_rfl, by kernel_rfl, by kernel_rfl, by kernel_rfl⟩
variable {key : Int → Int}
theorem Tr.alloc0 {w : World} {I own : Nat → Prop} (o : Obj) : Tr w I own (w.alloc o) I own :=
  ⟨rfl, rfl, rfl, by simp, fun b hb _ => zaf w o hb, fun _ h => h, fun _ h => .inl h, fun _ h => .inl h, fun a ha => World.frozen?_of_block (zaf w o ha), Nat.le_refl _⟩
theorem KA.alloc0 (w : World) (o : Obj) : KA w (w.alloc o) := ⟨by simp, fun b hb => zaf w o hb⟩
theorem z43 (hk : ∀ x, 0 ≤ key x) (hT : ∀ r : Int, (-2147483648 ≤ r ∧ r ≤ 2147483647) → PCall Tryz.prog 46 [.ptr ts, .int .i32 r] fun v => v = .int .i64 (key r)) (hc : znm (.ptr ts) key) (L : List Int) (hr : R32 L) (hL : L.length < 1000000000000)
    {w3 : World} {I3 : Nat → Prop} {G3 : Nat → Pl} {a3 : Act} {v12 : LV} (hs3 : SRel w3 I3 G3 [(2, .box 0 0), (5, .box 2 0), (12, v12)] (hpO nl (.ptr ts) (i32s L)) 22 a3) (rec : Loop) (r1 : rec.state = .ready) (r2 : rec.pending = none) (r3 : rec.tmps = a3.tmps) (r4 : rec.params = #[13, 14])
    (r5 : rec.assign = cAs (cOr Tryz.f71)) (r6 : rec.body = cBd (cOr Tryz.f71)) (vs : Array Value) (hvsz : vs.size = 2) (hvs : ∀ (k : Nat) v, [LV.box 4 0, LV.box 3 0][k]? = some v → LRel w3 I3 G3 (hpO nl (.ptr ts) (i32s L)) v (vs.getD k undef)) :
    Calls Tryz.prog 118 (#[Value.func (.yield (w3.heap.size + 1)) #[] #[]] ++ vs) ((w3.alloc (.deferred (some []))).alloc (.loop rec)) fun e w4 => (∃ v, e = .returned v) ∧ ∃ I4 G4, HRel w4 I4 G4 (hpO nl (.ptr ts) (i32s (ord key L))) ∧
      ZR w3 I3 G3 (hpO nl (.ptr ts) (i32s L)) (w3.heap.size + 1) w3.heap.size rec w4 I4 G4 (hpO nl (.ptr ts) (i32s (ord key L))) := by
  obtain ⟨k1, k2, k3, k4, k5, k6, k7, k8, k9, k10, k11⟩ := zxv
  obtain ⟨W1, hW1⟩ : ∃ W1, W1 = (w3.alloc (.deferred (some []))).alloc (.loop rec) := ⟨_, rfl⟩
  rw [← hW1]
  have tA : Tr w3 I3 (Owns (hpO nl (.ptr ts) (i32s L)) G3) W1 I3 (Owns (hpO nl (.ptr ts) (i32s L)) G3) := by rw [hW1]; exact (Tr.alloc0 _).trans (Tr.alloc0 _)
  have ka : KA w3 W1 := by rw [hW1]; exact (KA.alloc0 _ _).trans (KA.alloc0 _ _)
  have hl1 : W1.heap[w3.heap.size + 1]? = some (.loop rec) := by rw [hW1]; have := World.alloc_heap_new (w3.alloc (.deferred (some []))) (.loop rec); rwa [World.size_alloc] at this
  have hD1 : W1.heap[w3.heap.size]? = some (.deferred (some [])) := by rw [hW1]; exact (zaf _ _ (by simp)).trans (World.alloc_heap_new w3 _)
  have z1 : ZR w3 I3 G3 (hpO nl (.ptr ts) (i32s L)) (w3.heap.size + 1) w3.heap.size rec W1 I3 G3 (hpO nl (.ptr ts) (i32s L)) := ⟨(TrH.same tA).toN, hl1, hD1, fun h => by have := hs3.hh.cl _ h; omega, fun h => by have := hs3.hh.cl _ h; omega⟩
  have hRd := z35 hc hs3 rec r1 r2 r3 r4 r5 r6
  have hwalk := z42 hk hT (fun w I G h w' I' G' h' z hh _ t => z.step hh t) L hRd hr hL
  have hsW : SRel W1 I3 G3 (zjh [.pv (.raw (Value.func (.yield (w3.heap.size + 1)) #[] #[])), .box 4 0, .box 3 0] 0) (hpO nl (.ptr ts) (i32s L)) 39 { tmps := (#[Value.func (.yield (w3.heap.size + 1)) #[] #[]] ++ vs) ++ Array.replicate (39 - (#[Value.func (.yield (w3.heap.size + 1)) #[] #[]] ++ vs).size) undef, defers := [] } := by
    obtain ⟨y, hy⟩ : ∃ y, y = Value.func (.yield (w3.heap.size + 1)) #[] #[] := ⟨_, rfl⟩
    rw [← hy]
    obtain ⟨x0, x1, rfl⟩ : ∃ x0 x1, vs = #[x0, x1] := by
      obtain ⟨l⟩ := vs
      match l, hvsz with
      | [a, b], _ => exact ⟨a, b, rfl⟩
    have hk : Keeps w3 I3 W1 I3 := ⟨fun b _ hb => ka.2 b hb, fun b hb _ => hb⟩
    have h1 := (hvs 0 _ rfl).mono hk (.refl _ _)
    have h2 := (hvs 1 _ rfl).mono hk (.refl _ _)
    have e0 : ∀ r : Array Value, (#[y] ++ #[x0, x1] ++ r).getD 0 undef = y := fun r => by rw [Array.getD_eq_getD_getElem?, Array.getElem?_append_left (by simp)]; rfl
    have e1 : ∀ r : Array Value, (#[y] ++ #[x0, x1] ++ r).getD 1 undef = x0 := fun r => by rw [Array.getD_eq_getD_getElem?, Array.getElem?_append_left (by simp)]; rfl
    have e2 : ∀ r : Array Value, (#[y] ++ #[x0, x1] ++ r).getD 2 undef = x1 := fun r => by rw [Array.getD_eq_getD_getElem?, Array.getElem?_append_left (by simp)]; rfl
    refine ⟨hs3.hh.ka ka, ?_, by simp⟩
    have he : ERel W1 I3 G3 (hpO nl (.ptr ts) (i32s L)) [(0, .pv (.raw y)), (1, .box 4 0), (2, .box 3 0)] (#[y] ++ #[x0, x1] ++ Array.replicate (39 - (#[y] ++ #[x0, x1]).size) undef) :=
      ((ERel.nil _ _ _ _ _).cons (s := 2) (v := .box 3 0) (by rw [e2]; exact h2)).cons (s := 1) (v := .box 4 0) (by rw [e1]; exact h1) |>.cons (s := 0) (v := .pv (.raw y)) (by rw [e0]; exact .pv _ _ (.raw _))
    exact he
  refine calls_of_wp Tryz.func118 k4 ?_
  rw [k5]
  refine hwalk W1 I3 G3 _ _ hsW z1 ?_
  rintro x e' _ w4 I4 G4 a4 ⟨rfl, rfl⟩ hs4 hd4 z4
  exact ⟨hd4, _, results_none k7 _ _ _, ⟨_, rfl⟩, I4, G4, hs4.hh, z4⟩
theorem z44 (hk : ∀ x, 0 ≤ key x) (L : List Int) {w w3 w4 : World} {I I3 I4 : Nat → Prop} {G G3 G4 : Nat → Pl} {a3 : Act} {v12 : LV} (hs3 : SRel w3 I3 G3 [(2, .box 0 0), (5, .box 2 0), (12, v12)] (hpO nl (.ptr ts) (i32s L)) 22 a3) (hd30 : a3.defers = []) {rec : Loop}
    (ht3 : Tr w I (Owns [] G) w3 I3 (Owns (hpO nl (.ptr ts) (i32s L)) G3)) (hh4 : HRel w4 I4 G4 (hpO nl (.ptr ts) (i32s (ord key L)))) (z4 : ZR w3 I3 G3 (hpO nl (.ptr ts) (i32s L)) (w3.heap.size + 1) w3.heap.size rec w4 I4 G4 (hpO nl (.ptr ts) (i32s (ord key L)))) :
    (Code.seq (cO6 Tryz.f71) .ret).wp Tryz.prog (bodyPostM Fence.wide 0 Tryz.prog Tryz.f71 fun e w' => ∃ cv r h' I' G', e = .returned cv ∧ (∃ v, r = .pv v ∧ v = .sl nl false (i32s (ord key L))) ∧ HRel w' I' G' h' ∧ LRel w' I' G' h' r cv ∧ TrH w I G [] w' I' G' h')
      { tmps := a3.tmps, defers := [{ target := .collected w3.heap.size, args := #[] }] ++ a3.defers } (w4.putObj (w3.heap.size + 1) (.loop { rec with state := .exhausted })) := by
  obtain ⟨k1, k2, k3, k4, k5, k6, k7, k8, k9, k10, k11⟩ := zxv
  have hll := (zks (key := key) hk L).len
  have n4 := zjw hh4 z4.hl rfl
  have l4 := (Array.getElem?_eq_some_iff.1 z4.hl).1
  have z5 : ZR w3 I3 G3 (hpO nl (.ptr ts) (i32s L)) (w3.heap.size + 1) w3.heap.size { rec with state := .exhausted } (w4.putObj (w3.heap.size + 1) (.loop { rec with state := .exhausted })) I4 G4 (hpO nl (.ptr ts) (i32s (ord key L))) :=
    ⟨z4.t.off (by omega) _, World.putObj_heap_same l4, (World.putObj_heap_other (by omega)).trans z4.hD, z4.nl, z4.nD⟩
  have hs5 : SRel (w4.putObj (w3.heap.size + 1) (.loop { rec with state := .exhausted })) I4 G4 [(2, .box 0 0), (5, .box 2 0)] (hpO nl (.ptr ts) (i32s (ord key L))) 22 { tmps := a3.tmps, defers := [{ target := .collected w3.heap.size, args := #[] }] ++ a3.defers } :=
    ⟨hh4.off _ z4.nl n4, fun i v hi => ((hs3.he.mono (zm2 hs3.hh z4.t.t) (z2w (by simp [hll]) (zz1 z4.t))).mono (Keeps.off z4.nl _) (.refl _ _)) i v ((LeE.le (e' := [(2, .box 0 0), (5, .box 2 0)]) ⟨rfl, rfl, trivial⟩) i v hi), hs3.hn⟩
  refine wp_seq (runS (E := [(4, .own 1)]) (Hh := hpO nl (.ptr ts) (i32s (ord key L))) (zge (Eq.mpr (eB6 _) ⟨rfl, rfl, rfl⟩)) hs5 fun w6 I6 G6 a6 hs6 hd6 ht6 => ?_)
  have z6 := z5.step hs5.hh ht6
  refine wp_ret ?_
  show LeavesInM Fence.wide 0 Tryz.prog _ a6.tmps _ a6.defers .returning w6
  rw [hd6, hd30]
  refine ⟨by simp, .inl ⟨_, _, rfl, run_takeDeferred z6.hD, ?_⟩⟩
  refine ⟨_, results_tmp k6 _ _ _, ?_⟩
  have hh7 := hs6.hh.off (.deferred none) z6.nD (zjw hs6.hh z6.hD rfl)
  have hv7 : LRel (w6.putObj w3.heap.size (.deferred none)) I6 G6 (hpO nl (.ptr ts) (i32s (ord key L))) (.own 1) (a6.tmps.getD 4 undef) := LRel.mono (hs6.he 4 _ rfl) (Keeps.off z6.nD (.deferred none)) (.refl _ _)
  have hrep := zl1 hh7 hv7 (rfl : toPV (hpO nl (.ptr ts) (i32s (ord key L))) (.own 1) = some (.sl nl false (i32s (ord key L))))
  have ht := (ht3.trans z6.t.t).off (l := w3.heap.size) ht3.size (.deferred none)
  have hno : ∀ b, ¬ Owns [] G b := fun b ⟨o, ob, ho, _⟩ => by simp at ho
  exact ⟨_, _, [], AllB I6 (hpO nl (.ptr ts) (i32s (ord key L))) G6, G6, rfl, ⟨_, rfl, rfl⟩, HRel.nil G6 (fun b hb => hb.elim (hh7.cl b) hh7.blk_lt), .pv _ _ hrep,
    ⟨⟨ht.os, ht.tape, ht.output, ht.size, ht.keep, fun b hb => .inl (ht.i1 b hb), fun b hb => hb.elim (ht.i2 b) (fun ho => (ht.own2 b ho).elim (fun x => absurd x (hno b)) (fun x => .inr (.inr x))), fun b hb => absurd hb (fun ⟨o, ob, ho, _⟩ => by simp at ho), ht.frz, ht.drawn⟩, Nat.le_refl _, fun o ob ho => by simp at ho⟩⟩
theorem z37 (hk : ∀ x, 0 ≤ key x) (hT : ∀ r : Int, (-2147483648 ≤ r ∧ r ≤ 2147483647) → PCall Tryz.prog 46 [.ptr ts, .int .i32 r] fun v => v = .int .i64 (key r)) (hc : znm (.ptr ts) key) (L : List Int) (hr : R32 L) (hL : L.length < 1000000000000) :
    PCall Tryz.prog 71 [.ptr ts, .sl nl fl (i32s L)] fun v => v = .sl nl false (i32s (ord key L)) := by
  obtain ⟨k1, k2, k3, k4, k5, k6, k7, k8, k9, k10, k11⟩ := zxv
  refine ⟨⟨_, Tryz.func71, k8, k9⟩, fun w I G cargs hh hsz hrel => ?_⟩
  simp only [List.length_map, List.length_cons, List.length_nil] at hsz
  have hn : nl = true → L = [] := fun hn => by
    subst hn
    have h1 := hrel 1 _ rfl
    generalize cargs.getD 1 undef = c1 at h1
    cases h1 with
    | pv _ _ h1 =>
      generalize hes : i32s L = es at h1
      cases h1 with
      | slnil => exact List.map_eq_nil_iff.1 hes
  refine (callsIn_wide (n := 0)).1 (callsIn_of_wp_marks Tryz.func71 k2 trivial (wpIn_wide.2 ?_))
  rw [k3]
  have hs : SRel w I G (zjh [.pv (.ptr ts), .pv (.sl nl fl (i32s L))] 0) [] 22 { tmps := cargs ++ Array.replicate (22 - cargs.size) undef, defers := [] } := by
    refine ⟨hh, fun i v hi => ?_, by simp; omega⟩
    obtain ⟨_, h2⟩ := zg4 hi
    rw [Nat.sub_zero] at h2
    have hlt : i < cargs.size := by have := (List.getElem?_eq_some_iff.1 h2).1; simp at this; omega
    have := hrel i v h2
    have e1 : (cargs ++ Array.replicate (22 - cargs.size) undef).getD i undef = cargs.getD i undef := by
      rw [Array.getD_eq_getD_getElem?, Array.getD_eq_getD_getElem?, Array.getElem?_append_left hlt]
    simp only [e1]
    exact VRel.of_plain this
  rw [k1]
  -- what begins it
  refine wp_seq (runS (E := [(1, .pv (.sl nl fl (i32s L))), (2, .box 0 0), (4, .pv (.sl true true []))]) (Hh := [.box [.pv (.ptr ts)]]) (zge (Eq.mpr (eB0 _) ⟨rfl, rfl, rfl⟩)) hs fun w1 I1 G1 a1 hs1 hd1 ht1 => ?_)
  have hs1' := hs1.le (LeE.le (e' := [(1, .pv (.sl nl fl (i32s L))), (2, .box 0 0)]) ⟨rfl, rfl, trivial⟩)
  refine wp_seq (runS (E := [(2, .box 0 0), (5, .box 2 0)]) (Hh := [.box [.pv (.ptr ts)], .sl (21, 1) false nl (i32s L), .box [.own 1]]) (zge (Eq.mpr (eB1 _) ((z36 nl fl (i32s L) (fun h => by rw [hn h]; rfl) ?_).mono fun r h' hq => ⟨(), hq, trivial, rfl, rfl, rfl⟩))) hs1' fun w2 I2 G2 a2 hs2 hd2 ht2 => ?_)
  · exact ⟨rfl, .inl rfl, fun e he => (by cases he), fun e he => by obtain ⟨x, _, rfl⟩ := List.mem_map.1 (List.mem_of_mem_head? he); rfl, by simp; omega⟩
  refine wp_seq (wp_seq (runS (E := [(2, .box 0 0), (5, .box 2 0), (12, .fn 118 [.box 4 0, .box 3 0])]) (Hh := hpO nl (.ptr ts) (i32s L)) (zge (Eq.mpr (eB2 _) (znn nl ts (i32s L) ?_))) hs2 fun w3 I3 G3 a3 hs3 hd3 ht3 => ?_))
  · exact ⟨(), ⟨rfl, rfl⟩, ⟨⟨rfl, rfl, rfl⟩, trivial⟩, rfl, rfl, rfl⟩
  -- the loop
  have hd30 : a3.defers = [] := hd3.trans (hd2.trans hd1)
  obtain ⟨q1, q2, q3, _, _, _⟩ := z0x
  refine wp_block ?_
  rw [q3]
  obtain ⟨vs, hv12, hvsz, hvs⟩ : ∃ vs : Array Value, a3.tmps.getD 12 undef = .func (.func 118) #[] vs ∧ vs.size = 2 ∧ ∀ (k : Nat) v, [LV.box 4 0, LV.box 3 0][k]? = some v → LRel w3 I3 G3 (hpO nl (.ptr ts) (i32s L)) v (vs.getD k undef) := by
    have := hs3.he 12 _ rfl
    generalize a3.tmps.getD 12 undef = cv at this
    cases this with
    | fn f cs vs h1 h6 => exact ⟨vs, rfl, h1, h6⟩
  refine (wpIn_wide (n := 0)).1 (wpIn_rangeFunc (F := Fence.wide) fun fn _ => ?_)
  obtain ⟨rec, hrec⟩ : ∃ rec : Loop, rec = { state := .ready, pending := none, fn := fn, tmps := a3.tmps, params := #[13, 14], assign := cAs (cOr Tryz.f71), body := cBd (cOr Tryz.f71), defers := w3.heap.size } := ⟨_, rfl⟩
  refine ⟨w3.heap.size + 1, [{ target := .collected w3.heap.size, args := #[] }], (w3.alloc (.deferred (some []))).alloc (.loop rec), { target := .fn (.func 118) vs, args := #[.func (.yield (w3.heap.size + 1)) #[] #[]] }, (w3.alloc (.deferred (some []))).alloc (.loop rec), 118,
    #[.func (.yield (w3.heap.size + 1)) #[] #[]] ++ vs, (w3.alloc (.deferred (some []))).alloc (.loop rec), ?_, ?_, fun _ _ => trivial, ?_, fun x => (by cases x), ?_⟩
  · rw [hrec]; exact run_enterLoop_outer _ _ _ _ _
  · have he : a3.eval (.tmp 12) = .func (.func 118) #[] vs := hv12
    simp only [resolve, he]
    simp [go_sem]
  · simp only [invoke]
    exact zgu ⟨_, Tryz.func118, k10, k11⟩
  refine (callsIn_wide).2 (Calls.mono (z43 hk hT hc L hr hL hs3 rec (by rw [hrec]) (by rw [hrec]) (by rw [hrec]) (by rw [hrec]) (by rw [hrec]) (by rw [hrec]) vs hvsz hvs) ?_)
  rintro e w4 ⟨⟨v, rfl⟩, I4, G4, hh4, z4⟩
  have hp : rec.pending = none := by rw [hrec]
  refine ⟨none, _, (run_endLoop z4.hl (by rw [hrec]; simp)).trans (congrArg (fun j => Result.ok j _) hp), ?_⟩
  exact z44 hk L hs3 hd30 ((ht1.t.trans ht2.t).trans ht3.t) hh4 z4
end
end Go.Eng



namespace Go.Eng
open Go Go.Proofs
def zdf (n f : Bool) (es : LL) (k : Int) (R : PV → Prop) : Prop :=
 if decide ((↑es.length : Int) > k) = true then (slOK es.length none (some k) none ∧ szOK es 1) ∧ R (PV.sl n (f && decide (k = (↑es.length : Int))) (List.drop 0 (List.take k.toNat es))) else R (PV.sl n f es)
theorem zjx (n f : Bool) (es : LL) (k : Int) {R : PV → Prop} (h : zdf n f es k R) : PCall Tryz.prog 8 [.sl n f es, .int .i64 k] R :=
  PCall.of Tryz.func8 (by kernel_rfl) (by kernel_rfl) (Nat.le_of_ble_eq_true (by kernel_rfl)) (Eq.mpr (by kernel_rfl : aFn Tryz.prog (fun _ => none) Tryz.f8 [0, 1, 4, 8] (fun _ => none) (Tryz.f8.body.getD .skip) [.sl n f es, .int .i64 k] R = zdf n f es k R) h)

def zz2 (n f : Bool) (es : LL) (n2 f2 : Bool) (ss : LL) (x7 : Int) (n_0 : Bool) (s_0 : LL) (n_1 : Bool) (s_1 : LL) : Env × Hp := ([(0, LV.pv (PV.sl n f es)), (1, LV.pv (PV.sl n2 f2 ss)), (5, LV.own 0), (6, LV.own 1), (7, .pv (.int IntKind.i64 x7))], [.sl (21, 1) true n_0 s_0, .sl (3, 1) true n_1 s_1])
def zxw (n f : Bool) (es : LL) (n2 f2 : Bool) (ss : LL) (x7 : Int) (x8 : Int) (x9 : Int) (n_0 : Bool) (s_0 : LL) (n_1 : Bool) (s_1 : LL) : Env × Hp := ([(0, LV.pv (PV.sl n f es)), (1, LV.pv (PV.sl n2 f2 ss)), (5, LV.own 0), (6, LV.own 1), (7, .pv (.int IntKind.i64 x7)), (8, .pv (.int IntKind.i64 x8)), (9, .pv (.int IntKind.i64 x9))], [.sl (21, 1) true n_0 s_0, .sl (3, 1) true n_1 s_1])
def zcq (n f : Bool) (es : LL) (n2 f2 : Bool) (ss : LL) (J : Int → Bool → (LL) → Bool → (LL) → Prop) (μ : Int → Bool → (LL) → Bool → (LL) → Nat) (J2 : Int → Int → Int → Bool → (LL) → Bool → (LL) → Int → Int → Int → Bool → (LL) → Bool → (LL) → Prop) (μ2 : Int → Int → Int → Bool → (LL) → Bool → (LL) → Nat) (R : PV → Prop) : Prop :=
 (zab (zz2 n f es n2 f2 ss (0 : Int) true [] true []) ∧ J (0 : Int) true [] true []) ∧ ∀ (x7 : Int) (n_0 : Bool) (s_0 : LL) (n_1 : Bool) (s_1 : LL), J x7 n_0 s_0 n_1 s_1 → if decide (x7 < (↑ss.length : Int)) = true then zam ss x7 1 ∧ ∃
 (n1 : Int), (ss.getD x7.toNat []).head? = some (Z3 n1) ∧ PCall Tryz.prog 75 [PV.sl n f es, Z3 n1] fun (v : PV) ↦ ∃ (n3 : Int), v = Z6 n3 ∧ zam ss x7 1 ∧ ∃ (n4 : Int), (ss.getD x7.toNat []).head? = some (Z3 n4) ∧ (szOK [[Z3 n4]] 1 ∧
 (s_0.length + 1) * 4 ≤ 140737488355328) ∧ (szOK [[Z6 n3]] 1 ∧ (s_1.length + 1) * 8 ≤ 140737488355328) ∧ (zab (zxw n f es n2 f2 ss x7 n3 (↑s_0.length : Int) (n_0 && false) (s_0 ++ [[Z3 n4]]) (n_1 && false) (s_1 ++ [[Z6 n3]])) ∧ J2 x7 n3
 (↑s_0.length : Int) (n_0 && false) (s_0 ++ [[Z3 n4]]) (n_1 && false) (s_1 ++ [[Z6 n3]]) x7 n3 (↑s_0.length : Int) (n_0 && false) (s_0 ++ [[Z3 n4]]) (n_1 && false) (s_1 ++ [[Z6 n3]])) ∧ ∀ (x71 x8 x9 : Int) (n_01 : Bool) (s_01 : LL) (n_11 :
 Bool) (s_11 : LL), J2 x7 n3 (↑s_0.length : Int) (n_0 && false) (s_0 ++ [[Z3 n4]]) (n_1 && false) (s_1 ++ [[Z6 n3]]) x71 x8 x9 n_01 s_01 n_11 s_11 → if (decide (x9 > 0) && x8 != 0) = true then zam s_11 (IntKind.i64.wrap (x9 - 1)) 1 ∧ ∃ (n5
 : Int), (List.drop 0 (s_11.getD (IntKind.i64.wrap (x9 - 1)).toNat [])).head? = some (Z6 n5) ∧ if decide (n5 > x8) = true then zam s_01 (IntKind.i64.wrap (x9 - 1)) 1 ∧ ∃ (n6 : Int), (List.drop 0 (s_01.getD (IntKind.i64.wrap (x9 - 1)).toNat
 [])).head? = some (Z3 n6) ∧ zam s_01 x9 1 ∧ (1 = 1 ∧ 1 ≤ (s_01.getD x9.toNat []).length) ∧ zam s_11 (IntKind.i64.wrap (x9 - 1)) 1 ∧ ∃ (n7 : Int), (List.drop 0 (s_11.getD (IntKind.i64.wrap (x9 - 1)).toNat [])).head? = some (Z6 n7) ∧
 zam s_11 x9 1 ∧ (1 = 1 ∧ 1 ≤ (s_11.getD x9.toNat []).length) ∧ zam ss x71 1 ∧ ∃ (n8 : Int), (ss.getD x71.toNat []).head? = some (Z3 n8) ∧ zam (s_01.set x9.toNat (Z3 n6 :: List.append._f [] PUnit.unit (List.drop 1 (s_01.getD x9.toNat
 [])))) (IntKind.i64.wrap (x9 - 1)) 1 ∧ (1 = 1 ∧ 1 ≤ ((s_01.set x9.toNat (Z3 n6 :: List.append._f [] PUnit.unit (List.drop 1 (s_01.getD x9.toNat [])))).getD (IntKind.i64.wrap (x9 - 1)).toNat []).length) ∧ zam (s_11.set x9.toNat (Z6 n7 ::
 List.append._f [] PUnit.unit (List.drop 1 (s_11.getD x9.toNat [])))) (IntKind.i64.wrap (x9 - 1)) 1 ∧ (1 = 1 ∧ 1 ≤ ((s_11.set x9.toNat (Z6 n7 :: List.append._f [] PUnit.unit (List.drop 1 (s_11.getD x9.toNat [])))).getD (IntKind.i64.wrap (x9
 - 1)).toNat []).length) ∧ zab (zxw n f es n2 f2 ss x71 x8 (IntKind.i64.wrap (x9 - 1)) n_01 ((s_01.set x9.toNat (Z3 n6 :: List.append._f [] PUnit.unit (List.drop 1 (s_01.getD x9.toNat [])))).set (IntKind.i64.wrap (x9 - 1)).toNat (Z3 n8
 :: List.append._f [] PUnit.unit (List.drop 1 ((s_01.set x9.toNat (Z3 n6 :: List.append._f [] PUnit.unit (List.drop 1 (s_01.getD x9.toNat [])))).getD (IntKind.i64.wrap (x9 - 1)).toNat [])))) n_11 ((s_11.set x9.toNat (Z6 n7 :: List.append._f
 [] PUnit.unit (List.drop 1 (s_11.getD x9.toNat [])))).set (IntKind.i64.wrap (x9 - 1)).toNat (Z6 x8 :: List.append._f [] PUnit.unit (List.drop 1 ((s_11.set x9.toNat (Z6 n7 :: List.append._f [] PUnit.unit (List.drop 1 (s_11.getD x9.toNat
 [])))).getD (IntKind.i64.wrap (x9 - 1)).toNat []))))) ∧ J2 x7 n3 (↑s_0.length : Int) (n_0 && false) (s_0 ++ [[Z3 n4]]) (n_1 && false) (s_1 ++ [[Z6 n3]]) x71 x8 (IntKind.i64.wrap (x9 - 1)) n_01 ((s_01.set x9.toNat (Z3 n6 :: List.append._f []
 PUnit.unit (List.drop 1 (s_01.getD x9.toNat [])))).set (IntKind.i64.wrap (x9 - 1)).toNat (Z3 n8 :: List.append._f [] PUnit.unit (List.drop 1 ((s_01.set x9.toNat (Z3 n6 :: List.append._f [] PUnit.unit (List.drop 1 (s_01.getD x9.toNat
 [])))).getD (IntKind.i64.wrap (x9 - 1)).toNat [])))) n_11 ((s_11.set x9.toNat (Z6 n7 :: List.append._f [] PUnit.unit (List.drop 1 (s_11.getD x9.toNat [])))).set (IntKind.i64.wrap (x9 - 1)).toNat (Z6 x8 :: List.append._f [] PUnit.unit
 (List.drop 1 ((s_11.set x9.toNat (Z6 n7 :: List.append._f [] PUnit.unit (List.drop 1 (s_11.getD x9.toNat [])))).getD (IntKind.i64.wrap (x9 - 1)).toNat [])))) ∧ μ2 x71 x8 (IntKind.i64.wrap (x9 - 1)) n_01 ((s_01.set x9.toNat (Z3 n6 ::
 List.append._f [] PUnit.unit (List.drop 1 (s_01.getD x9.toNat [])))).set (IntKind.i64.wrap (x9 - 1)).toNat (Z3 n8 :: List.append._f [] PUnit.unit (List.drop 1 ((s_01.set x9.toNat (Z3 n6 :: List.append._f [] PUnit.unit (List.drop 1
 (s_01.getD x9.toNat [])))).getD (IntKind.i64.wrap (x9 - 1)).toNat [])))) n_11 ((s_11.set x9.toNat (Z6 n7 :: List.append._f [] PUnit.unit (List.drop 1 (s_11.getD x9.toNat [])))).set (IntKind.i64.wrap (x9 - 1)).toNat (Z6 x8 :: List.append._f
 [] PUnit.unit (List.drop 1 ((s_11.set x9.toNat (Z6 n7 :: List.append._f [] PUnit.unit (List.drop 1 (s_11.getD x9.toNat [])))).getD (IntKind.i64.wrap (x9 - 1)).toNat [])))) < μ2 x71 x8 x9 n_01 s_01 n_11 s_11 else zab (zz2 n f es n2 f2 ss
 (IntKind.i64.wrap (x71 + 1)) n_01 s_01 n_11 s_11) ∧ J (IntKind.i64.wrap (x71 + 1)) n_01 s_01 n_11 s_11 ∧ μ (IntKind.i64.wrap (x71 + 1)) n_01 s_01 n_11 s_11 < μ x7 n_0 s_0 n_1 s_1 else zab (zz2 n f es n2 f2 ss (IntKind.i64.wrap (x71 +
 1)) n_01 s_01 n_11 s_11) ∧ J (IntKind.i64.wrap (x71 + 1)) n_01 s_01 n_11 s_11 ∧ μ (IntKind.i64.wrap (x71 + 1)) n_01 s_01 n_11 s_11 < μ x7 n_0 s_0 n_1 s_1 else R (PV.sl n_0 false s_0)
theorem zht (n f : Bool) (es : LL) (n2 f2 : Bool) (ss : LL) (J : Int → Bool → (LL) → Bool → (LL) → Prop) (μ : Int → Bool → (LL) → Bool → (LL) → Nat) (J2 : Int → Int → Int → Bool → (LL) → Bool → (LL) → Int → Int → Int → Bool → (LL) → Bool → (LL) → Prop) (μ2 : Int → Int → Int → Bool → (LL) → Bool → (LL) → Nat) {R : PV → Prop} (h : zcq n f es n2 f2 ss J μ J2 μ2 R) : PCall Tryz.prog 43 [.sl n f es, .sl n2 f2 ss] R :=
  PCall.of Tryz.func43 (by kernel_rfl) (by kernel_rfl) (Nat.le_of_ble_eq_true (by kernel_rfl)) (Eq.mpr (by kernel_rfl : aFn Tryz.prog (fun _ => none) Tryz.f43 [0, 1, 4, 5, 6, 7, 8, 9, 13, 49] (fun zz_ => match zz_ with | 4 => some ⟨Int × Bool × (LL) × Bool × (LL), fun s => zz2 n f es n2 f2 ss s.1 s.2.1 s.2.2.1 s.2.2.2.1 s.2.2.2.2, fun _ s => J s.1 s.2.1 s.2.2.1 s.2.2.2.1 s.2.2.2.2, fun s => μ s.1 s.2.1 s.2.2.1 s.2.2.2.1 s.2.2.2.2, fun e h => (gI e 7, oN h 0, oS h 0, oN h 1, oS h 1), [(5, 21, 1), (6, 3, 1)], [0, 1, 5, 6, 7], [], fun p => ∀ (x7 : Int) (n_0 : Bool) (s_0 : LL) (n_1 : Bool) (s_1 : LL), p (x7, n_0, s_0, n_1, s_1), fun p h s => h s.1 s.2.1 s.2.2.1 s.2.2.2.1 s.2.2.2.2⟩ | 10 => some ⟨Int × Int × Int × Bool × (LL) × Bool × (LL), fun s => zxw n f es n2 f2 ss s.1 s.2.1 s.2.2.1 s.2.2.2.1 s.2.2.2.2.1 s.2.2.2.2.2.1 s.2.2.2.2.2.2, fun t s => J2 t.1 t.2.1 t.2.2.1 t.2.2.2.1 t.2.2.2.2.1 t.2.2.2.2.2.1 t.2.2.2.2.2.2 s.1 s.2.1 s.2.2.1 s.2.2.2.1 s.2.2.2.2.1 s.2.2.2.2.2.1 s.2.2.2.2.2.2, fun s => μ2 s.1 s.2.1 s.2.2.1 s.2.2.2.1 s.2.2.2.2.1 s.2.2.2.2.2.1 s.2.2.2.2.2.2, fun e h => (gI e 7, gI e 8, gI e 9, oN h 0, oS h 0, oN h 1, oS h 1), [], [0, 1, 5, 6, 7, 8, 9], [], fun p => ∀ (x7 : Int) (x8 : Int) (x9 : Int) (n_0 : Bool) (s_0 : LL) (n_1 : Bool) (s_1 : LL), p (x7, x8, x9, n_0, s_0, n_1, s_1), fun p h s => h s.1 s.2.1 s.2.2.1 s.2.2.2.1 s.2.2.2.2.1 s.2.2.2.2.2.1 s.2.2.2.2.2.2⟩ | _ => none) (Tryz.f43.body.getD .skip) [.sl n f es, .sl n2 f2 ss] R = zcq n f es n2 f2 ss J μ J2 μ2 R) h)

def z2x (tc tg tj tf tp : PV) (M S : List (PV × PV)) (n f : Bool) (es : LL) (x12 : Int) (h0_0 : PV) (n_1 : Bool) (s_1 : LL) : Env × Hp := ([(0, LV.pv (PV.ptr [tc, tg, tj, tf, tp, PV.mp M, PV.mp S])), (5, LV.box 0 0), (10, LV.pv (PV.sl n f es)), (11, LV.pv (PV.int IntKind.i64 ↑es.length)), (12, .pv (.int IntKind.i64 x12))], [.box [.pv h0_0, LV.own 1], .sl (21, 1) true n_1 s_1])
def zhd (tc tg tj tf tp : PV) (M S : List (PV × PV)) (n f : Bool) (es : LL) (J : Int → PV → Bool → (LL) → Prop) (μ : Int → PV → Bool → (LL) → Nat) (R : PV → Prop) : Prop :=
 zhn (PV.ptr [tc, tg, tj, tf, tp, PV.mp M, PV.mp S]) = true ∧ (zab (z2x tc tg tj tf tp M S n f es (0 : Int) (PV.ptr [tc, tg, tj, tf, tp, PV.mp M, PV.mp S]) true []) ∧ J (0 : Int) (PV.ptr [tc, tg, tj, tf, tp, PV.mp M, PV.mp S]) true [])
 ∧ ∀ (x12 : Int) (h0_0 : PV) (n_1 : Bool) (s_1 : LL), J x12 h0_0 n_1 s_1 → if decide (x12 < (↑es.length : Int)) = true then zam es x12 1 ∧ ∃ (n1 : Int), (es.getD x12.toNat []).head? = some (Z3 n1) ∧ ACall Tryz.prog 70 [LV.box 0 0, LV.pv
 (Z3 n1), Y6 8] [Ob.box [LV.pv h0_0, LV.own 1], Ob.sl (21, 1) false n_1 s_1] fun (r : LV) (h' : Hp) ↦ ∃ (t : Bool × LL), (r = LV.tup [] ∧ h' = [Ob.box [LV.pv h0_0, LV.own 1], Ob.sl (21, 1) true t.fst t.snd]) ∧ (True ∧ True ∧ True) ∧ zab
 (z2x tc tg tj tf tp M S n f es (IntKind.i64.wrap (x12 + 1)) h0_0 t.fst t.snd) ∧ J (IntKind.i64.wrap (x12 + 1)) h0_0 t.fst t.snd ∧ μ (IntKind.i64.wrap (x12 + 1)) h0_0 t.fst t.snd < μ x12 h0_0 n_1 s_1 else PCall Tryz.prog 71 [PV.ptr [tc,
 tg, tj, tf, tp, PV.mp M, PV.mp S], PV.sl n_1 false s_1] fun (v : PV) ↦ ∃ (n1 : Bool), ∃ (f1 : Bool), ∃ (es1 : LL), v = PV.sl n1 f1 es1 ∧ R (PV.sl n1 f1 es1)
theorem zrn (tc tg tj tf tp : PV) (M S : List (PV × PV)) (n f : Bool) (es : LL) (J : Int → PV → Bool → (LL) → Prop) (μ : Int → PV → Bool → (LL) → Nat) {R : PV → Prop} (h : zhd tc tg tj tf tp M S n f es J μ R) : PCall Tryz.prog 39 [.ptr [tc, tg, tj, tf, tp, .mp M, .mp S], .sl n f es] R :=
  PCall.of Tryz.func39 (by kernel_rfl) (by kernel_rfl) (Nat.le_of_ble_eq_true (by kernel_rfl)) (Eq.mpr (by kernel_rfl : aFn Tryz.prog (fun zz_ => match zz_ with | 70 => some ⟨Bool × LL, fun _ hs t => (.tup [], match hs with | [.box (x :: _), .sl ty _ _ _] => [.box [x, .own 1], .sl ty true t.1 t.2] | [.box (x :: _)] => [.box [x, .own 1], .sl (21, 1) true t.1 t.2] | h => h), none⟩ | _ => none) Tryz.f39 [0, 1, 4, 5, 7, 10, 11, 12, 13] (fun zz_ => match zz_ with | 3 => some ⟨Int × PV × Bool × (LL), fun s => z2x tc tg tj tf tp M S n f es s.1 s.2.1 s.2.2.1 s.2.2.2, fun _ s => J s.1 s.2.1 s.2.2.1 s.2.2.2, fun s => μ s.1 s.2.1 s.2.2.1 s.2.2.2, fun e h => (gI e 12, hP h 0 0, oN h 1, oS h 1), [(1000001, 21, 1)], [0, 5, 10, 11, 12], [], fun p => ∀ (x12 : Int) (h0_0 : PV) (n_1 : Bool) (s_1 : LL), p (x12, h0_0, n_1, s_1), fun p h s => h s.1 s.2.1 s.2.2.1 s.2.2.2⟩ | _ => none) (Tryz.f39.body.getD .skip) [.ptr [tc, tg, tj, tf, tp, .mp M, .mp S], .sl n f es] R = zhd tc tg tj tf tp M S n f es J μ R) h)

def zz3 (n f : Bool) (es : LL) (n2 f2 : Bool) (ss : LL) (x6 : Int) (n_0 : Bool) (s_0 : LL) : Env × Hp := ([(0, LV.pv (PV.sl n f es)), (1, LV.pv (PV.sl n2 f2 ss)), (5, LV.own 0), (6, .pv (.int IntKind.i64 x6))], [.sl (21, 1) true n_0 s_0])
def zdg (n f : Bool) (es : LL) (n2 f2 : Bool) (ss : LL) (J : Int → Bool → (LL) → Prop) (μ : Int → Bool → (LL) → Nat) (R : PV → Prop) : Prop :=
 (zab (zz3 n f es n2 f2 ss (0 : Int) true []) ∧ J (0 : Int) true []) ∧ ∀ (x6 : Int) (n_0 : Bool) (s_0 : LL), J x6 n_0 s_0 → if decide (x6 < (↑ss.length : Int)) = true then zam ss x6 1 ∧ ∃ (n1 : Int), (ss.getD x6.toNat []).head? = some
 (Z3 n1) ∧ ACall Tryz.prog 42 [LV.pv (PV.sl n f es), LV.pv (Z3 n1), Y6 8] [] fun (r : LV) (h' : Hp) ↦ (∃ (t : Bool × LL), (r = LV.own 0 ∧ h' = [Ob.sl (21, 1) true t.fst t.snd]) ∧ True ∧ (szOK t.snd 1 ∧ (s_0.length + t.snd.length) * 4 ≤
 140737488355328) ∧ zab (zz3 n f es n2 f2 ss (IntKind.i64.wrap (x6 + 1)) (n_0 && t.snd.isEmpty) (s_0 ++ t.snd)) ∧ J (IntKind.i64.wrap (x6 + 1)) (n_0 && t.snd.isEmpty) (s_0 ++ t.snd) ∧ μ (IntKind.i64.wrap (x6 + 1)) (n_0 && t.snd.isEmpty)
 (s_0 ++ t.snd) < μ x6 n_0 s_0) ∨ ∃ (t : LL), (r = LV.pv (PV.sl false true t) ∧ h' = []) ∧ True ∧ (szOK t 1 ∧ (s_0.length + t.length) * 4 ≤ 140737488355328) ∧ zab (zz3 n f es n2 f2 ss (IntKind.i64.wrap (x6 + 1)) (n_0 && t.isEmpty) (s_0
 ++ t)) ∧ J (IntKind.i64.wrap (x6 + 1)) (n_0 && t.isEmpty) (s_0 ++ t) ∧ μ (IntKind.i64.wrap (x6 + 1)) (n_0 && t.isEmpty) (s_0 ++ t) < μ x6 n_0 s_0 else PCall Tryz.prog 43 [PV.sl n f es, PV.sl n_0 false s_0] fun (v : PV) ↦ ∃ (n1 : Bool), ∃
 (f1 : Bool), ∃ (es1 : LL), v = PV.sl n1 f1 es1 ∧ R (PV.sl n1 f1 es1)
theorem zjy (n f : Bool) (es : LL) (n2 f2 : Bool) (ss : LL) (J : Int → Bool → (LL) → Prop) (μ : Int → Bool → (LL) → Nat) {R : PV → Prop} (h : zdg n f es n2 f2 ss J μ R) : PCall Tryz.prog 12 [.sl n f es, .sl n2 f2 ss] R :=
  PCall.of Tryz.func12 (by kernel_rfl) (by kernel_rfl) (Nat.le_of_ble_eq_true (by kernel_rfl)) (Eq.mpr (by kernel_rfl : aFn Tryz.prog (fun zz_ => match zz_ with | 42 => some ⟨Bool × LL, fun _ hs t => (.own hs.length, hs ++ [.sl (21, 1) true t.1 t.2]), some ⟨LL, fun _ hs t => (.pv (.sl false true t), hs)⟩⟩ | _ => none) Tryz.f12 [0, 1, 4, 5, 6, 10] (fun zz_ => match zz_ with | 3 => some ⟨Int × Bool × (LL), fun s => zz3 n f es n2 f2 ss s.1 s.2.1 s.2.2, fun _ s => J s.1 s.2.1 s.2.2, fun s => μ s.1 s.2.1 s.2.2, fun e h => (gI e 6, oN h 0, oS h 0), [(5, 21, 1)], [0, 1, 5, 6], [], fun p => ∀ (x6 : Int) (n_0 : Bool) (s_0 : LL), p (x6, n_0, s_0), fun p h s => h s.1 s.2.1 s.2.2⟩ | _ => none) (Tryz.f12.body.getD .skip) [.sl n f es, .sl n2 f2 ss] R = zdg n f es n2 f2 ss J μ R) h)

def z2y (n f : Bool) (es : LL) (n2 f2 : Bool) (ss : LL) (x13 : Int) : Env × Hp := ([(0, LV.pv (PV.sl n f es)), (1, LV.pv (PV.sl n2 f2 ss)), (12, LV.pv (PV.int IntKind.i64 ↑es.length)), (13, .pv (.int IntKind.i64 x13))], [])
def za7 (n f : Bool) (es : LL) (n2 f2 : Bool) (ss : LL) (J : Int → Prop) (μ : Int → Nat) (R : PV → Prop) : Prop :=
 if ((↑es.length : Int) != (↑ss.length : Int)) = true then R (Zb false) else (zab (z2y n f es n2 f2 ss (0 : Int)) ∧ J (0 : Int)) ∧ ∀ (x13 : Int), J x13 → if decide (x13 < (↑es.length : Int)) = true then zam es x13 1 ∧ ∃ (n1 : Int),
 (es.getD x13.toNat []).head? = some (Z3 n1) ∧ zam ss x13 1 ∧ ∃ (n3 : Int), (ss.getD x13.toNat []).head? = some (Z3 n3) ∧ if (n1 != n3) = true then R (Zb false) else zab (z2y n f es n2 f2 ss (IntKind.i64.wrap (x13 + 1))) ∧ J
 (IntKind.i64.wrap (x13 + 1)) ∧ μ (IntKind.i64.wrap (x13 + 1)) < μ x13 else R (Zb true)
theorem zfs (n f : Bool) (es : LL) (n2 f2 : Bool) (ss : LL) (J : Int → Prop) (μ : Int → Nat) {R : PV → Prop} (h : za7 n f es n2 f2 ss J μ R) : PCall Tryz.prog 41 [.sl n f es, .sl n2 f2 ss] R :=
  PCall.of Tryz.func41 (by kernel_rfl) (by kernel_rfl) (Nat.le_of_ble_eq_true (by kernel_rfl)) (Eq.mpr (by kernel_rfl : aFn Tryz.prog (fun _ => none) Tryz.f41 [0, 1, 4, 5, 10, 12, 13, 14, 24] (fun zz_ => match zz_ with | 4 => some ⟨Int × Unit, fun s => z2y n f es n2 f2 ss s.1, fun _ s => J s.1, fun s => μ s.1, fun e h => (((gI e 13), ())), [], [0, 1, 12, 13], [], fun p => ∀ (x13 : Int), p (x13, ()), fun p h s => h s.1⟩ | _ => none) (Tryz.f41.body.getD .skip) [.sl n f es, .sl n2 f2 ss] R = za7 n f es n2 f2 ss J μ R) h)

end Go.Eng



namespace Go.Eng.Rows
open Go Go.Eng Go.Eng.Trie
def zro (rows : List Row) : Bool → Int → List Int → Int
  | m, _, [] => if m then 2 else 0
  | m, last, r :: l => if (decide (ofQ rows r = 1) || (!decide (numG rows 1 r = 0) && decide (numG rows 1 r < last))) then 1 else zro rows (m || decide (ofQ rows r = 2)) (numG rows 1 r) l
def zxx (rows : List Row) : Bool := rows.all fun x => !decide (x.kind = 2) || ((decide (1 ≤ x.a) && decide (x.a ≤ 1114111)) && (decide (0 ≤ x.b) && decide (x.b ≤ 1114111)))
theorem zsv {rows : List Row} (h : zxx rows = true) : zat rows := fun x hx hk => by
  have := List.all_eq_true.1 h x hx
  simpa [hk] using this
def zz4 (rows : List Row) : Bool := rows.all fun x => !decide (x.kind = 2) || (decide (x.fr = x.to) && ((decide (0 ≤ x.fr) && decide (x.fr ≤ 1114111)) && decide (first rows 2 x.fr = some (x.a, x.b))))
theorem zom {rows : List Row} (h : zz4 rows = true) : zce rows := fun x hx hk => by
  have := List.all_eq_true.1 h x hx
  simpa [hk] using this
def z2z (rows : List Row) : Bool := rows.all fun x => !decide (x.kind = 1) || decide (0 ≤ x.a)
def zdl (rows : List Row) : Prop := ∀ r, 0 ≤ numG rows 1 r
theorem zxy {rows : List Row} (h : z2z rows = true) : zdl rows := fun r => by
  unfold numG
  cases hf : za0 rows 1 r with
  | none => exact Int.le_refl _
  | some p =>
    obtain ⟨x, hx, hk, ha, _⟩ := zdw hf
    have := List.all_eq_true.1 h x hx
    simp only [hk, decide_true, Bool.not_true, Bool.false_or, decide_eq_true_eq] at this
    simp only; omega
end Go.Eng.Rows



namespace Go.Eng
open Go Go.Proofs Go.Eng.Rows Go.Eng.Trie
theorem zd7 : zat tab := zsv (by kernel_rfl)
theorem zpv : zce tab := zom (by kernel_rfl)
theorem ze8 : zdl tab := zxy (by kernel_rfl)
theorem q1 : zro tab false 0 [101, 769] = 2 := by kernel_rfl
theorem q2 : zro tab false 0 [233] = 0 := by kernel_rfl
theorem q3 : zro tab false 0 [769, 807] = 1 := by kernel_rfl
theorem q4 : zro tab false 0 [8491] = 1 := by kernel_rfl
theorem q5 : z2o tab 101 = true := by kernel_rfl
theorem q6 : z2o tab 769 = false := by kernel_rfl
theorem q7 : z2o tab 4449 = false := by kernel_rfl
end Go.Eng



namespace Go.Eng.Rows
open Go Go.Eng Go.Eng.Trie Go.Eng.Srt
def nfdL (rows : List Row) (l : List Int) : List Int := ord (numG rows 1) (l.flatMap (zak rows 8))
def zb6 (rows : List Row) (x : Int) : Bool := !sylB x && decide (zag rows x = (0, 0))
def zm3 (rows : List Row) : Prop := ∀ r, ∀ x ∈ zak rows 8 r, zb6 rows x = true
def zxz (rows : List Row) : Bool := (rows.all fun x => !decide (x.kind = 2) || (zak rows 8 x.fr).all (zb6 rows)) && ((List.range 19).all fun n => zb6 rows (4352 + n)) && ((List.range 21).all fun n => zb6 rows (4449 + n)) && ((List.range 28).all fun n => zb6 rows (4519 + n))
theorem zrp {rows : List Row} {r : Int} {p : Int × Int} (h : za0 rows 2 r = some p) : ∃ x ∈ rows, x.kind = 2 ∧ x.fr ≤ r ∧ r ≤ x.to := by
  obtain ⟨x, h1, h2, _, _, h3, h4, _⟩ := zdw h
  exact ⟨x, h1, h2, h3, h4⟩
theorem zm4 {p : Int → Bool} {n : Nat} {b x : Int} (h : ((List.range n).all fun k => p (b + k)) = true) (h1 : b ≤ x) (h2 : x < b + n) : p x = true := by
  have := List.all_eq_true.1 h (x - b).toNat (List.mem_range.2 (by omega))
  rwa [show b + ((x - b).toNat : Int) = x by omega] at this
theorem zx0 {rows : List Row} (h1 : zce rows) (h : zxz rows = true) : zm3 rows := by
  simp only [zxz, Bool.and_eq_true] at h
  obtain ⟨⟨⟨c1, c2⟩, c3⟩, c4⟩ := h
  intro r x hx
  by_cases hs : sylB r = true
  · rw [zb1 hs] at hx
    simp only [sylB, Bool.and_eq_true, decide_eq_true_eq] at hs
    unfold zcu at hx
    have k1 : zb6 rows (4352 + (r - 44032) / 588) = true := zm4 c2 (by omega) (by omega)
    have k2 : zb6 rows (4449 + (r - 44032) / 28 % 21) = true := zm4 c3 (by omega) (by omega)
    have k3 : zb6 rows (4519 + (r - 44032) % 28) = true := zm4 c4 (by omega) (by omega)
    split at hx <;> simp only [List.mem_cons, List.not_mem_nil, or_false] at hx
    · rcases hx with rfl | rfl
      · exact k1
      · exact k2
    · rcases hx with rfl | rfl | rfl
      · exact k1
      · exact k2
      · exact k3
  · simp only [Bool.not_eq_true] at hs
    by_cases h0 : zag rows r = (0, 0)
    · rw [zga hs h0, List.mem_singleton] at hx
      subst hx
      simp [zb6, hs, h0]
    · have : ∃ p, za0 rows 2 r = some p := by
        unfold zag at h0
        cases hf : za0 rows 2 r with
        | none => rw [hf] at h0; exact absurd rfl h0
        | some p => exact ⟨p, rfl⟩
      obtain ⟨p, hp⟩ := this
      obtain ⟨y, hy, hk, f1, f2⟩ := zrp hp
      obtain ⟨e1, _⟩ := h1 y hy hk
      have hr : y.fr = r := by omega
      have := List.all_eq_true.1 c1 y hy
      simp only [hk, decide_true, Bool.not_true, Bool.false_or, hr] at this
      exact List.all_eq_true.1 this x hx
theorem zjz {rows : List Row} {x : Int} (h : zb6 rows x = true) (d : Nat) : zak rows d x = [x] := by
  simp only [zb6, Bool.and_eq_true, Bool.not_eq_true', decide_eq_true_eq] at h
  exact zga h.1 h.2
theorem zm5 {rows : List Row} : ∀ {l : List Int}, (∀ x ∈ l, zb6 rows x = true) → l.flatMap (zak rows 8) = l
  | [], _ => rfl
  | x :: l, h => by
    rw [List.flatMap_cons, zjz (h x List.mem_cons_self), zm5 fun y hy => h y (List.mem_cons_of_mem _ hy)]; rfl
section
variable {rows : List Row} (hk : zdl rows)
include hk
theorem zx1 {l : List Int} {x : Int} : x ∈ nfdL rows l ↔ ∃ r ∈ l, x ∈ zak rows 8 r := by
  unfold nfdL
  rw [← (zks hk _).mem, List.mem_flatMap]
theorem zud (hc : zm3 rows) (l : List Int) : ∀ x ∈ nfdL rows l, zb6 rows x = true := fun x hx => by
  obtain ⟨r, _, h⟩ := (zx1 hk).1 hx
  exact hc r x h
theorem zsw (hp : zat rows) {l : List Int} (h : ∀ x ∈ l, -2147483648 ≤ x ∧ x ≤ 2147483647) : ∀ x ∈ nfdL rows l, -2147483648 ≤ x ∧ x ≤ 2147483647 := fun x hx => by
  obtain ⟨r, hr, h2⟩ := (zx1 hk).1 hx
  rcases zjs hp 8 r x h2 with rfl | h3
  · exact h x hr
  · omega
theorem zpw (l : List Int) : (nfdL rows l).length ≤ 768 * l.length := by
  unfold nfdL
  rw [← (zks hk _).len]
  induction l with
  | nil => simp
  | cons x l ih =>
    have := zcv rows 8 x
    rw [List.flatMap_cons, List.length_append, List.length_cons]; omega
theorem zz5 (hc : zm3 rows) (l : List Int) : nfdL rows (nfdL rows l) = nfdL rows l := by
  have h := zm5 (zud hk hc l)
  unfold nfdL at h ⊢
  rw [h, zz0 hk]
end
theorem zx2 (rows : List Row) (l : List Int) : zcg (numG rows 1) (nfdL rows l) := zxt _
end Go.Eng.Rows



namespace Go.Eng
open Go Go.Proofs Go.Eng.Rows Go.Eng.Trie
theorem zrq {α : Type} (p : α → Bool) : ∀ {A : List α} (B : List α), (∀ x ∈ A, p x = false) → (A ++ B).find? p = B.find? p
  | [], B, _ => rfl
  | a :: A, B, h => by
    rw [List.cons_append, List.find?_cons, h a List.mem_cons_self]
    exact zrq p B fun x hx => h x (List.mem_cons_of_mem _ hx)
theorem zrr {α : Type} (p : α → Bool) : ∀ (A : List α) {B : List α}, (∀ x ∈ B, p x = false) → (A ++ B).find? p = A.find? p
  | [], B, h => List.find?_eq_none.2 fun x hx => by rw [h x hx]; simp
  | a :: A, B, h => by
    rw [List.cons_append, List.find?_cons, List.find?_cons]
    cases p a with
    | true => rfl
    | false => exact zrr p A h
def noK (k : Int) (l : List Row) : Bool := l.all fun x => !decide (x.kind = k)
theorem zx3 {k r : Int} {l : List Row} (h : noK k l = true) : ∀ x ∈ l, x.has k r = false := fun x hx => by
  have := List.all_eq_true.1 h x hx
  simp only [Bool.not_eq_true', decide_eq_false_iff_not] at this
  simp [Row.has, this]
theorem zx4 {A B C : List Row} {k : Int} (h1 : noK k A = true) (h2 : noK k C = true) (r : Int) : za0 (A ++ (B ++ C)) k r = za0 B k r := by
  unfold za0 first
  rw [zrq _ _ (zx3 h1), zrr _ _ (zx3 h2)]
theorem zon : tab = z1w ++ (tab73 ++ (z1x ++ z1y ++ z1z ++ z10 ++ z11 ++ z12)) := by unfold tab; simp only [List.append_assoc]
theorem zrs : zag tab = zag tab73 := funext fun r => by
  unfold zag; rw [zon, zx4 (by kernel_rfl) (by kernel_rfl)]
theorem zz6 {A B : List Row} (h : zag A = zag B) : ∀ d, zak A d = zak B d := fun d => by
  induction d with
  | zero => rfl
  | succ d ih => funext r; simp only [zak, h, ih]
theorem zz7 {A B : List Row} (h : zag A = zag B) : zb6 A = zb6 B := funext fun r => by simp only [zb6, h]
theorem zm6 (d : Nat) : zak tab d = zak tab73 d := zz6 zrs d
theorem zx5 : zb6 tab = zb6 tab73 := zz7 zrs
theorem zrt {x : Row} (hx : x ∈ tab) (hk : x.kind = 2) : x ∈ tab73 := by
  rw [zon] at hx
  have no : ∀ {l : List Row}, noK 2 l = true → x ∉ l := fun h hx => by
    have := List.all_eq_true.1 h x hx
    simp [hk] at this
  rcases List.mem_append.1 hx with h | h
  · exact absurd h (no (by kernel_rfl))
  · rcases List.mem_append.1 h with h | h
    · exact h
    · exact absurd h (no (by kernel_rfl))
theorem z47 : zce tab73 := zom (by kernel_rfl)
end Go.Eng



namespace Go.Eng
open Go Go.Proofs Go.Eng.Rows Go.Eng.Trie
theorem zoo : zm3 tab := fun r x hx => by
  rw [zx5]
  rw [zm6] at hx
  exact zx0 z47 (by kernel_rfl) r x hx
end Go.Eng



namespace Go.Eng
open Go Go.Proofs Go.Eng.Rows Go.Eng.Trie Go.Eng.Srt
theorem PCall.ofA {P : Program} {f : Nat} {args : List PV} {Q : LV → Hp → Prop} {R : PV → Prop} (hc : ACall P f (args.map .pv) [] Q) (hq : ∀ r h', Q r h' → ∃ p, toPV h' r = some p ∧ R p) : PCall P f args R :=
  ⟨hc.1, fun w I G cargs h1 h2 h3 => (hc.2 w I G cargs h1 h2 h3).mono fun e w' ⟨cv, r, h', I', G', e1, e2, e3, e4, e5⟩ => by
    obtain ⟨p, hp, hR⟩ := hq r h' e2
    have ht := e5.t
    have hno : ∀ b, ¬ Owns [] G b := fun b ⟨o, ob, ho, _⟩ => by simp at ho
    exact ⟨cv, .pv p, [], AllB I' h' G', G', e1, ⟨p, rfl, hR⟩, HRel.nil G' (fun b hb => hb.elim (e3.cl b) e3.blk_lt), .pv _ _ (zl1 e3 e4 hp),
      ⟨⟨ht.os, ht.tape, ht.output, ht.size, ht.keep, fun b hb => .inl (ht.i1 b hb), fun b hb => hb.elim (ht.i2 b) (fun ho => (ht.own2 b ho).elim (fun x => absurd x (hno b)) (fun x => .inr (.inr x))), fun b hb => absurd hb (fun ⟨o, ob, ho, _⟩ => by simp at ho), ht.frz, ht.drawn⟩, Nat.le_refl _, fun o ob ho => by simp at ho⟩⟩⟩
theorem pFew (n f : Bool) (l : List Int) (k : Nat) (hk : k < 1000) : PCall Tryz.prog 8 [.sl n f (i32s l), .int .i64 k] fun v => ∃ n f, v = .sl n f (i32s (l.take k)) := by
  refine zjx _ _ _ _ ?_; unfold zdf
  refine iteD (fun hc => ?_) (fun hc => ?_)
  · simp only [decide_eq_true_eq, zac] at hc
    refine ⟨⟨by unfold slOK; simp; omega, zcf _⟩, n, _, by rw [show ((k : Int)).toNat = k by omega]; simp only [i32s, List.map_take, List.drop_zero]; rfl⟩
  · simp only [decide_eq_true_eq, zac] at hc
    rw [List.take_of_length_le (by omega)]
    exact ⟨_, _, rfl⟩
theorem zx6 (n f n2 f2 : Bool) (l m : List Int) (hl : l.length < 1000000000000) : za7 n f (i32s l) n2 f2 (i32s m) (fun i => 0 ≤ i ∧ i ≤ l.length ∧ l.take i.toNat = m.take i.toNat) (fun i => l.length - i.toNat) fun v => v = .bool (decide (l = m)) := by
  unfold za7
  refine iteD (fun hc => ?_) (fun hc => ?_)
  · simp only [zac, bne_iff_ne, ne_eq] at hc
    have : l ≠ m := fun e => hc (by rw [e])
    simp [this]
  · simp only [zac, bne_iff_ne, ne_eq, Decidable.not_not] at hc
    have hlm : l.length = m.length := by omega
    refine ⟨⟨rfl, Int.le_refl _, by omega, rfl⟩, ?_⟩
    rintro i ⟨i0, i1, he⟩
    refine iteD (fun h => ?_) (fun h => ?_)
    · simp only [decide_eq_true_eq, zac] at h
      have hi : i.toNat < l.length := by omega
      have hj : i.toNat < m.length := by omega
      obtain ⟨g1, g2⟩ := zh5 i0 hi
      obtain ⟨k1, k2⟩ := zh5 i0 hj
      have hw : IntKind.i64.wrap (i + 1) = i + 1 := zaa (by omega) (by omega)
      refine ⟨g1, l[i.toNat], by rw [g2]; rfl, k1, m[i.toNat], by rw [k2]; rfl, iteD (fun hc2 => ?_) (fun hc2 => ?_)⟩
      · simp only [bne_iff_ne, ne_eq] at hc2
        have : l ≠ m := fun e => hc2 (by subst e; rfl)
        simp [this]
      · simp only [bne_iff_ne, ne_eq, Decidable.not_not] at hc2
        rw [hw]
        exact ⟨rfl, ⟨by omega, by omega, by rw [show (i + 1).toNat = i.toNat + 1 by omega, zas hi, zas hj, he, hc2]⟩, by dsimp only; omega⟩
    · simp only [decide_eq_true_eq, zac] at h
      rw [List.take_of_length_le (by omega), List.take_of_length_le (by omega)] at he
      simp [he]
theorem pSEq (n f n2 f2 : Bool) (l m : List Int) (hl : l.length < 1000000000000) : PCall Tryz.prog 41 [.sl n f (i32s l), .sl n2 f2 (i32s m)] fun v => v = .bool (decide (l = m)) :=
  zfs _ _ _ _ _ _ (fun i => 0 ≤ i ∧ i ≤ l.length ∧ l.take i.toNat = m.take i.toNat) (fun i => l.length - i.toNat) (zx6 n f n2 f2 l m hl)
section
variable {rows : List Row}
end
end Go.Eng



namespace Go.Eng
open Go Go.Proofs Go.Eng.Rows Go.Eng.Trie Go.Eng.Srt
section
variable {rows : List Row}
theorem set1 {es : List (List PV)} {k : Nat} {v x : PV} (h : es.getD k [] = [x]) : es.set k (v :: List.append._f [] PUnit.unit (List.drop 1 (es.getD k []))) = es.set k [v] := by rw [h]; rfl
theorem zsx (A : List Int) (x : Int) (B : List Int) : (i32s (A ++ x :: B)).getD A.length [] = [.int .i32 x] := by
  rw [ztm (by simp)]; simp
theorem zsy (A : List Int) (x : Int) (B : List Int) : (ixs (A ++ x :: B)).getD A.length [] = [.int .i64 x] := by
  simp [ixs]
theorem z20 (hk : zdl rows) (n f n2 f2 : Bool) (L : List Int) (hrl : rows.length < 1000000) (hL : L.length < 1000000000) (hr : R32 L) :
    PCall Tryz.prog 43 [.sl n f (rws rows), .sl n2 f2 (i32s L)] fun v => ∃ n f, v = .sl n f (i32s (ord (numG rows 1) L)) := by
  have olen : ∀ l, (ord (numG rows 1) l).length = l.length := fun l => ((zks (key := numG rows 1) hk l).len).symm
  refine zht _ _ _ _ _ _
    (fun i _ s0 _ s1 => 0 ≤ i ∧ i ≤ L.length ∧ s0 = i32s (ord (numG rows 1) (L.take i.toNat)) ∧ s1 = ixs ((ord (numG rows 1) (L.take i.toNat)).map (numG rows 1))) (fun i _ _ _ _ => L.length - i.toNat)
    (fun i0 _ _ _ _ _ _ i c k _ s0 _ s1 => i = i0 ∧ 0 ≤ i ∧ i.toNat < L.length ∧ ∃ x A B, L[i.toNat]? = some x ∧ c = numG rows 1 x ∧ k = (A.length : Nat) ∧ ord (numG rows 1) (L.take i.toNat) = A ++ B ∧ (∀ y ∈ B, pas (numG rows 1) x y = true) ∧ s0 = i32s (A ++ x :: B) ∧ s1 = ixs ((A ++ x :: B).map (numG rows 1))) (fun _ _ k _ _ _ _ => k.toNat) ?_
  unfold zcq
  refine ⟨⟨rfl, Int.le_refl _, by omega, by simp [ord, i32s], by simp [ord, ixs]⟩, ?_⟩
  rintro i n0 _ n1 _ ⟨i0, i1, rfl, rfl⟩
  refine iteD (fun hc => ?_) (fun hc => ?_)
  · simp only [decide_eq_true_eq, zac] at hc
    have hi : i.toNat < L.length := by omega
    obtain ⟨g1, g2⟩ := zh5 i0 hi
    have hx := hr _ (List.getElem_mem hi)
    have hw : IntKind.i64.wrap (i + 1) = i + 1 := zaa (by omega) (by omega)
    have hol := olen (L.take i.toNat)
    rw [List.length_take] at hol
    refine ⟨g1, L[i.toNat], by rw [g2]; rfl, ?_⟩
    refine (zpt n f _ hrl hx).mono ?_
    rintro _ rfl
    refine ⟨_, rfl, g1, L[i.toNat], by rw [g2]; rfl, ⟨zcf [_], by rw [zac]; omega⟩, ⟨zln (enc := fun n => [PV.int .i64 n]) (fun _ => rfl) [_], by rw [zfj, List.length_map]; omega⟩, ⟨rfl, ?_⟩, ?_⟩
    · refine ⟨rfl, i0, hi, L[i.toNat], ord (numG rows 1) (L.take i.toNat), [], List.getElem?_eq_getElem hi, rfl, by simp, by simp, fun y hy => (by cases hy), by simp [i32s], by simp [ixs]⟩
    · rintro i' c k n01 _ n11 _ ⟨rfl, _, _, x, A, B, hxi, rfl, rfl, hord, hB, rfl, rfl⟩
      have hwi : IntKind.i64.wrap (i' + 1) = i' + 1 := zaa (by omega) (by omega)
      have hAB : A.length + B.length = min i'.toNat L.length := by rw [← hol, hord, List.length_append]
      have hxe : L[i'.toNat] = x := (List.getElem?_eq_some_iff.1 hxi).2
      -- the end of the walk back
      have done : (A = [] ∨ ∃ A' z, A = A' ++ [z] ∧ pas (numG rows 1) x z = false) → 0 ≤ i' + 1 ∧ i' + 1 ≤ L.length ∧ i32s (A ++ x :: B) = i32s (ord (numG rows 1) (L.take (i' + 1).toNat)) ∧ ixs ((A ++ x :: B).map (numG rows 1)) = ixs ((ord (numG rows 1) (L.take (i' + 1).toNat)).map (numG rows 1)) := fun h => by
        have : ord (numG rows 1) (L.take (i' + 1).toNat) = A ++ x :: B := by
          rw [show (i' + 1).toNat = i'.toNat + 1 by omega, zas hi, zlp, hord, hxe, zk5 hB h]
        rw [this]
        exact ⟨by omega, by omega, rfl, rfl⟩
      have hmu : L.length - (i' + 1).toNat < L.length - i'.toNat := by omega
      refine iteD (fun h1 => ?_) (fun h1 => ?_)
      · simp only [Bool.and_eq_true, decide_eq_true_eq, bne_iff_ne, ne_eq] at h1
        obtain ⟨A', z, rfl⟩ : ∃ A' z, A = A' ++ [z] := by
          rcases A.eq_nil_or_concat with rfl | ⟨D, z, rfl⟩
          · simp at h1
          · exact ⟨D, z, by simp⟩
        have lA : (A' ++ [z]).length = A'.length + 1 := by simp
        rw [lA] at hAB
        have hwk : IntKind.i64.wrap ((((A' ++ [z]).length : Nat) : Int) - 1) = (A'.length : Nat) := by rw [lA, zaa (by omega) (by omega)]; omega
        have e0 : (A' ++ [z]) ++ x :: B = A' ++ z :: (x :: B) := by simp
        rw [hwk, e0]
        simp only [List.map_append, List.map_cons, Int.toNat_natCast]
        rw [lA]
        generalize hk2 : numG rows 1 = key at *
        have i1 : zam (i32s (A' ++ z :: x :: B)) ((A'.length : Nat) : Int) 1 := zaj (enc := fun n => [PV.int .i32 n]) (fun _ => rfl) (by omega) (by simp; omega)
        have i2 : zam (i32s (A' ++ z :: x :: B)) ((A'.length + 1 : Nat) : Int) 1 := zaj (enc := fun n => [PV.int .i32 n]) (fun _ => rfl) (by omega) (by simp; omega)
        have j1 : zam (ixs (A'.map key ++ key z :: key x :: B.map key)) ((A'.length : Nat) : Int) 1 := zaj zf8 (by omega) (by simp; omega)
        have j2 : zam (ixs (A'.map key ++ key z :: key x :: B.map key)) ((A'.length + 1 : Nat) : Int) 1 := zaj zf8 (by omega) (by simp; omega)
        have i3 : zam (i32s (A' ++ z :: z :: B)) ((A'.length : Nat) : Int) 1 := zaj (enc := fun n => [PV.int .i32 n]) (fun _ => rfl) (by omega) (by simp; omega)
        have j3 : zam (ixs (A'.map key ++ key z :: key z :: B.map key)) ((A'.length : Nat) : Int) 1 := zaj zf8 (by omega) (by simp; omega)
        have gz := zsx A' z (x :: B)
        have gx : (i32s (A' ++ z :: x :: B)).getD (A'.length + 1) [] = [.int .i32 x] := by have := zsx (A' ++ [z]) x B; simpa using this
        have hz : (ixs (A'.map key ++ key z :: key x :: B.map key)).getD A'.length [] = [.int .i64 (key z)] := by have := zsy (A'.map key) (key z) (key x :: B.map key); simpa using this
        have hx2 : (ixs (A'.map key ++ key z :: key x :: B.map key)).getD (A'.length + 1) [] = [.int .i64 (key x)] := by have := zsy (A'.map key ++ [key z]) (key x) (B.map key); simpa using this
        have gz2 := zsx A' z (z :: B)
        have hz2 : (ixs (A'.map key ++ key z :: key z :: B.map key)).getD A'.length [] = [.int .i64 (key z)] := by have := zsy (A'.map key) (key z) (key z :: B.map key); simpa using this
        have s1 : (i32s (A' ++ z :: x :: B)).set (A'.length + 1) [.int .i32 z] = i32s (A' ++ z :: z :: B) := by
          have := zm0 (A' ++ [z]) B x z
          have e : (i32s (A' ++ z :: x :: B)).set (A'.length + 1) [.int .i32 z] = i32s ((A' ++ z :: x :: B).set (A'.length + 1) z) := by simp [i32s, List.map_set]
          rw [e]; simp at this ⊢
        have s2 : (i32s (A' ++ z :: z :: B)).set A'.length [.int .i32 x] = i32s (A' ++ x :: z :: B) := by simp [i32s]
        have t1 : (ixs (A'.map key ++ key z :: key x :: B.map key)).set (A'.length + 1) [.int .i64 (key z)] = ixs (A'.map key ++ key z :: key z :: B.map key) := by simp [ixs]
        have t2 : (ixs (A'.map key ++ key z :: key z :: B.map key)).set A'.length [.int .i64 (key x)] = ixs (A'.map key ++ key x :: key z :: B.map key) := by simp [ixs]
        refine ⟨j1, key z, by rw [hz]; rfl, iteD (fun h2 => ?_) (fun h2 => ?_)⟩
        · simp only [decide_eq_true_eq] at h2
          refine ⟨i1, z, by rw [gz]; rfl, i2, ⟨trivial, by rw [gx]; exact Nat.le_refl _⟩, j1, key z, by rw [hz]; rfl, j2, ⟨trivial, by rw [hx2]; exact Nat.le_refl _⟩, g1, x, by rw [g2, hxe]; rfl, ?_⟩
          rw [set1 gx, set1 hx2, s1, t1, set1 gz2, set1 hz2, s2, t2]
          refine ⟨i3, ⟨trivial, by rw [gz2]; exact Nat.le_refl _⟩, j3, ⟨trivial, by rw [hz2]; exact Nat.le_refl _⟩, rfl, ⟨trivial, i0, hi, x, A', z :: B, hxi, rfl, rfl, by rw [hord]; simp, fun y hy => ?_, rfl, by simp⟩, by simp⟩
          rcases List.mem_cons.1 hy with rfl | hy
          · exact zgb.2 ⟨h1.2, h2⟩
          · exact hB y hy
        · simp only [decide_eq_true_eq] at h2
          rw [hwi]
          obtain ⟨d1, d2, d3, d4⟩ := done (.inr ⟨A', z, rfl, zhc.2 (.inr (by omega))⟩)
          refine ⟨rfl, ⟨d1, d2, ?_, ?_⟩, hmu⟩
          · rw [← d3, e0]
          · rw [← d4]; simp
      · have hA : A = [] ∨ numG rows 1 x = 0 := by
          simp only [Bool.and_eq_true, decide_eq_true_eq, bne_iff_ne, ne_eq, not_and, Decidable.not_not] at h1
          by_cases hA : A = []
          · exact .inl hA
          · exact .inr (h1 (by have := List.length_pos_iff.2 hA; omega))
        rw [hwi]
        refine ⟨rfl, done ?_, hmu⟩
        rcases hA with h | h
        · exact .inl h
        · rcases A.eq_nil_or_concat with rfl | ⟨D, z, rfl⟩
          · exact .inl rfl
          · exact .inr ⟨D, z, by simp, zhc.2 (.inl h)⟩
  · simp only [decide_eq_true_eq, zac] at hc
    rw [List.take_of_length_le (by omega)]
    exact ⟨_, _, rfl⟩
end
end Go.Eng



namespace Go.Eng
open Go Go.Proofs Go.Eng.Rows Go.Eng.Trie Go.Eng.Srt
theorem zx7 : tab.length < 1000000 := by have := z13; omega
theorem z0y (n f : Bool) : PCall Tryz.prog 10 [.sl n f (rws tab)] (zmy tab) := z30 n f tab zx7 zd7
theorem R32.take {l : List Int} (h : R32 l) (k : Nat) : R32 (l.take k) := fun x hx => h x (List.mem_of_mem_take hx)
section
variable {rows : List Row} {v : PV}
theorem z48 {ts : List PV} {key : Int → Int} (hT : ∀ r : Int, (-2147483648 ≤ r ∧ r ≤ 2147483647) → PCall Tryz.prog 46 [.ptr ts, .int .i32 r] fun v => v = .int .i64 (key r)) : znm (.ptr ts) key := by
  intro a b ha hb
  refine zle _ _ _ ?_; unfold zd9
  refine .inl ⟨ts, rfl, .inl ⟨ts, rfl, ?_⟩⟩
  refine (hT a ha).mono ?_
  rintro _ rfl
  refine ⟨_, rfl, ?_⟩
  refine (hT b hb).mono ?_
  rintro _ rfl
  refine ⟨_, rfl, ?_⟩
  refine (p61 _ _).mono ?_
  rintro _ rfl
  refine ⟨_, rfl, _, rfl, ?_⟩
  unfold cmpS; split <;> (try split) <;> omega
theorem z38 (hk : zdl rows) (hv : zmy rows v) (n f : Bool) (L : List Int) (hr : R32 L) (hL : L.length < 1000000000000) : PCall Tryz.prog 71 [v, .sl n f (i32s L)] fun x => ∃ n f, x = .sl n f (i32s (ord (numG rows 1) L)) := by
  obtain ⟨tc, tg, tj, tf, tp, made, sec, rfl, ht, hm⟩ := hv
  have hT : ∀ r : Int, (-2147483648 ≤ r ∧ r ≤ 2147483647) → PCall Tryz.prog 46 [.ptr [tc, tg, tj, tf, tp, .mp (zcp made), .mp (zhb sec)], .int .i32 r] fun v => v = .int .i64 (numG rows 1 r) := fun r hr => zxj _ _ ht hr
  exact (z37 hk hT (z48 hT) L hr hL).mono fun x hx => ⟨_, _, hx⟩
theorem zue (hp : zat rows) {l : List Int} (h : R32 l) : R32 (l.flatMap (zak rows 8)) := fun x hx => by
  obtain ⟨r, hr, h2⟩ := List.mem_flatMap.1 hx
  rcases zjs hp 8 r x h2 with rfl | h3
  · exact h x hr
  · omega
theorem zlq (rows : List Row) (l : List Int) : (l.flatMap (zak rows 8)).length ≤ 768 * l.length := by
  induction l with
  | nil => simp
  | cons x l ih =>
    have := zcv rows 8 x
    rw [List.flatMap_cons, List.length_append, List.length_cons]; omega
theorem zru (rows : List Row) {l : List Int} {i : Nat} (hi : i < l.length) : (l.take (i + 1)).flatMap (zak rows 8) = (l.take i).flatMap (zak rows 8) ++ zak rows 8 l[i] := by
  rw [zas hi, List.flatMap_append]; simp
theorem qNFD (hp : zat rows) (hk : zdl rows) (hv : zmy rows v) (n f : Bool) (L : List Int) (hr : R32 L) (hL : L.length < 1000000) : PCall Tryz.prog 39 [v, .sl n f (i32s L)] fun x => ∃ n f, x = .sl n f (i32s (nfdL rows L)) := by
  have hv' := hv
  obtain ⟨tc, tg, tj, tf, tp, made, sec, rfl, ht, hm⟩ := hv
  refine zrn _ _ _ _ _ _ _ _ _ _ (fun i h0 _ s => h0 = .ptr [tc, tg, tj, tf, tp, .mp (zcp made), .mp (zhb sec)] ∧ 0 ≤ i ∧ i ≤ L.length ∧ s = i32s ((L.take i.toNat).flatMap (zak rows 8))) (fun i _ _ _ => L.length - i.toNat) ?_
  unfold zhd
  refine ⟨rfl, ⟨rfl, rfl, Int.le_refl _, by omega, rfl⟩, ?_⟩
  rintro i h0 n1 _ ⟨rfl, i0, i1, rfl⟩
  refine iteD (fun hc => ?_) (fun hc => ?_)
  · simp only [decide_eq_true_eq, zac] at hc
    have hi : i.toNat < L.length := by omega
    obtain ⟨g1, g2⟩ := zh5 i0 hi
    have hx := hr _ (List.getElem_mem hi)
    have hw : IntKind.i64.wrap (i + 1) = i + 1 := zaa (by omega) (by omega)
    have hfl := zlq rows (L.take i.toNat)
    rw [List.length_take] at hfl
    refine ⟨g1, L[i.toNat], by rw [g2]; rfl, ?_⟩
    refine (z33 _ _ hp ht 8 _ n1 _ (by omega) hx (by omega)).mono ?_
    rintro r h' ⟨nl, rfl, rfl⟩
    rw [hw]
    exact ⟨(nl, _), ⟨rfl, rfl⟩, ⟨trivial, trivial, trivial⟩, rfl, ⟨rfl, by omega, by omega, by rw [show (i + 1).toNat = i.toNat + 1 by omega, zru rows hi]; rfl⟩, by dsimp only; omega⟩
  · simp only [decide_eq_true_eq, zac] at hc
    rw [List.take_of_length_le (by omega)]
    have hfl := zlq rows L
    refine (z38 hk hv' n1 false _ (zue hp hr) (by omega)).mono ?_
    rintro _ ⟨n2, f2, rfl⟩
    exact ⟨_, _, _, rfl, _, _, rfl⟩
theorem z4a (hp : zat rows) (hk : zdl rows) (n f n2 f2 : Bool) (hrl : rows.length < 1000000) (L : List Int) (hr : R32 L) (hL : L.length < 1000000) : PCall Tryz.prog 12 [.sl n f (rws rows), .sl n2 f2 (i32s L)] fun x => ∃ n f, x = .sl n f (i32s (nfdL rows L)) := by
  refine zjy _ _ _ _ _ _ (fun i _ s => 0 ≤ i ∧ i ≤ L.length ∧ s = i32s ((L.take i.toNat).flatMap (zak rows 8))) (fun i _ _ => L.length - i.toNat) ?_
  unfold zdg
  refine ⟨⟨rfl, Int.le_refl _, by omega, rfl⟩, ?_⟩
  rintro i n1 _ ⟨i0, i1, rfl⟩
  refine iteD (fun hc => ?_) (fun hc => ?_)
  · simp only [decide_eq_true_eq, zac] at hc
    have hi : i.toNat < L.length := by omega
    obtain ⟨g1, g2⟩ := zh5 i0 hi
    have hx := hr _ (List.getElem_mem hi)
    have hw : IntKind.i64.wrap (i + 1) = i + 1 := zaa (by omega) (by omega)
    have hfl := zlq rows (L.take i.toNat)
    rw [List.length_take] at hfl
    have hf1 := zcv rows 8 L[i.toNat]
    have he : i32s ((L.take i.toNat).flatMap (zak rows 8)) ++ i32s (zak rows 8 L[i.toNat]) = i32s ((L.take (i + 1).toNat).flatMap (zak rows 8)) := by
      rw [show (i + 1).toNat = i.toNat + 1 by omega, zru rows hi, zd1]
    refine ⟨g1, L[i.toNat], by rw [g2]; rfl, ?_⟩
    rw [hw]
    refine (z32 hp n f hrl 8 _ (by omega) hx).mono ?_
    rintro r h' (⟨nl, rfl, rfl⟩ | ⟨rfl, rfl⟩)
    · exact .inl ⟨(nl, _), ⟨rfl, rfl⟩, trivial, ⟨zcf _, by simp only [zac, List.length_map]; omega⟩, rfl, ⟨by omega, by omega, he⟩, by dsimp only; omega⟩
    · exact .inr ⟨_, ⟨rfl, rfl⟩, trivial, ⟨zcf _, by rw [zac, zac]; omega⟩, rfl, ⟨by omega, by omega, he⟩, by dsimp only; omega⟩
  · simp only [decide_eq_true_eq, zac] at hc
    rw [List.take_of_length_le (by omega)]
    have hfl := zlq rows L
    refine (z20 hk n f n1 false _ hrl (by omega) (zue hp hr)).mono ?_
    rintro _ ⟨n2, f2, rfl⟩
    exact ⟨_, _, _, rfl, _, _, rfl⟩
theorem z4b (hk : zdl rows) {l : List Int} (h : l.length < 1000000) : (nfdL rows l).length < 1000000000000 := by
  have := zpw hk l; omega
end
end Go.Eng



namespace Go.Eng.Rows
open Go Go.Eng Go.Eng.Trie Go.Eng.Srt
def zkt (a b : Int) : Option Int :=
  if (4352 ≤ a ∧ a < 4371) ∧ 4449 ≤ b ∧ b < 4470 then some (44032 + ((a - 4352) * 21 + (b - 4449)) * 28)
  else if (sylB a = true ∧ (a - 44032) % 28 = 0) ∧ 4519 < b ∧ b < 4547 then some (a + (b - 4519)) else none
def cmpB (rows : List Row) (a b : Int) (x : Row) : Bool := decide (x.kind = 2) && (decide (x.a = a) && (decide (x.b = b) && (!decide (b = 0) && !outG rows x.fr)))
def cmpS (rows : List Row) (a b : Int) (o : Option Int) (x : Row) : Option Int :=
  if cmpB rows a b x then (match o with | none => some x.fr | some r => if x.fr < r then some x.fr else some r) else o
def cmpG (rows : List Row) (a b : Int) : Option Int := rows.foldl (cmpS rows a b) none
def zj0 (rows : List Row) (a b : Int) : Option Int := match zkt a b with | some r => some r | none => cmpG rows a b
theorem z4c (rows : List Row) (a b : Int) (l : List Row) : match l.foldl (cmpS rows a b) none with
    | none => ∀ x ∈ l, cmpB rows a b x = false
    | some r => (∃ x ∈ l, cmpB rows a b x = true ∧ x.fr = r) ∧ ∀ x ∈ l, cmpB rows a b x = true → r ≤ x.fr := by
  have : ∀ (m : List Row), match m.reverse.foldl (cmpS rows a b) none with
    | none => ∀ x ∈ m, cmpB rows a b x = false
    | some r => (∃ x ∈ m, cmpB rows a b x = true ∧ x.fr = r) ∧ ∀ x ∈ m, cmpB rows a b x = true → r ≤ x.fr := by
    intro m
    induction m with
    | nil => intro x hx; cases hx
    | cons y m ih =>
      rw [List.reverse_cons, List.foldl_append, List.foldl_cons, List.foldl_nil]
      generalize m.reverse.foldl (cmpS rows a b) none = o at ih
      unfold cmpS
      cases hc : cmpB rows a b y with
      | false =>
        simp only [Bool.false_eq_true, if_false]
        cases o with
        | none => intro x hx; rcases List.mem_cons.1 hx with rfl | hx; exact hc; exact ih x hx
        | some r =>
          obtain ⟨⟨x, h1, h2⟩, h3⟩ := ih
          exact ⟨⟨x, List.mem_cons_of_mem _ h1, h2⟩, fun z hz hz2 => by rcases List.mem_cons.1 hz with rfl | hz; rw [hc] at hz2; cases hz2; exact h3 z hz hz2⟩
      | true =>
        simp only [if_true]
        cases o with
        | none =>
          refine ⟨⟨y, List.mem_cons_self, hc, rfl⟩, fun z hz hz2 => ?_⟩
          rcases List.mem_cons.1 hz with rfl | hz
          · exact Int.le_refl _
          · have := ih z hz; rw [this] at hz2; cases hz2
        | some r =>
          obtain ⟨⟨x, h1, h2, h4⟩, h3⟩ := ih
          by_cases hlt : y.fr < r
          · simp only [hlt, if_true]
            refine ⟨⟨y, List.mem_cons_self, hc, rfl⟩, fun z hz hz2 => ?_⟩
            rcases List.mem_cons.1 hz with rfl | hz
            · exact Int.le_refl _
            · have := h3 z hz hz2; omega
          · simp only [hlt, if_false]
            refine ⟨⟨x, List.mem_cons_of_mem _ h1, h2, h4⟩, fun z hz hz2 => ?_⟩
            rcases List.mem_cons.1 hz with rfl | hz
            · omega
            · exact h3 z hz hz2
  have h := this l.reverse
  rw [List.reverse_reverse] at h
  generalize l.foldl (cmpS rows a b) none = o at h ⊢
  cases o with
  | none => intro x hx; exact h x (List.mem_reverse.2 hx)
  | some r => exact ⟨by obtain ⟨⟨x, h1, h2⟩, _⟩ := h; exact ⟨x, List.mem_reverse.1 h1, h2⟩, fun x hx => h.2 x (List.mem_reverse.2 hx)⟩
theorem zpx {rows : List Row} (h1 : zce rows) {x : Row} (hx : x ∈ rows) (hk : x.kind = 2) : zag rows x.fr = (x.a, x.b) ∧ 0 ≤ x.fr ∧ x.fr ≤ 1114111 := by
  obtain ⟨e1, e2, e3⟩ := h1 x hx hk
  have hf : za0 rows 2 x.fr = some (x.a, x.b) := by unfold za0; rw [if_pos e2]; exact e3
  exact ⟨by unfold zag; rw [hf], e2⟩
theorem zz8 {rows : List Row} (h1 : zce rows) {r : Int} (h : zag rows r ≠ (0, 0)) : ∃ x ∈ rows, x.kind = 2 ∧ x.fr = r ∧ zag rows r = (x.a, x.b) := by
  cases hf : za0 rows 2 r with
  | none => exact absurd (by unfold zag; rw [hf]) h
  | some p =>
    obtain ⟨y, hy, hk, f1, f2⟩ := zrp hf
    obtain ⟨e1, _⟩ := h1 y hy hk
    have hr : y.fr = r := by omega
    have := (zpx h1 hy hk).1
    rw [hr] at this
    exact ⟨y, hy, hk, hr, this⟩
theorem zpy {rows : List Row} (h1 : zce rows) {a b r : Int} (h : cmpG rows a b = some r) : zag rows r = (a, b) ∧ b ≠ 0 ∧ outG rows r = false ∧ (0 ≤ r ∧ r ≤ 1114111) ∧ ∃ x ∈ rows, x.kind = 2 ∧ x.fr = r := by
  have := z4c rows a b rows
  unfold cmpG at h
  rw [h] at this
  obtain ⟨⟨x, hx, hc, rfl⟩, _⟩ := this
  simp only [cmpB, Bool.and_eq_true, decide_eq_true_eq, Bool.not_eq_true', decide_eq_false_iff_not] at hc
  obtain ⟨hk, ha, hb, h0, ho⟩ := hc
  obtain ⟨hp, hr⟩ := zpx h1 hx hk
  exact ⟨by rw [hp, ha, hb], h0, ho, hr, x, hx, hk, rfl⟩
theorem zpz {a b r : Int} (h : zkt a b = some r) : sylB r = true := by
  unfold zkt at h
  split at h
  · rename_i hc; cases h; simp only [sylB, Bool.and_eq_true, decide_eq_true_eq]; omega
  · split at h
    · rename_i hc; cases h; simp only [sylB, Bool.and_eq_true, decide_eq_true_eq] at hc ⊢; omega
    · cases h
theorem zx8 {rows : List Row} (h1 : zce rows) {a b r : Int} (h : zj0 rows a b = some r) : 0 ≤ r ∧ r ≤ 1114111 := by
  unfold zj0 at h
  split at h
  · rename_i s hj; cases h; have := zpz hj; simp only [sylB, Bool.and_eq_true, decide_eq_true_eq] at this; omega
  · exact (zpy h1 h).2.2.2.1
structure CSt where
  P : List Int
  s : Option Int
  M : List Int
def zfa (key : Int → Int) (M : List Int) : Int := match M.getLast? with | some m => key m | none => 0
def CSt.out (st : CSt) : List Int := st.P ++ (st.s.toList ++ st.M)
def cApp (key : Int → Int) (st : CSt) (r : Int) : CSt := if key r = 0 then ⟨st.out, some r, []⟩ else ⟨st.P, st.s, st.M ++ [r]⟩
def zc6 (rows : List Row) (st : CSt) (r : Int) : CSt := match st.s with
  | none => cApp (numG rows 1) st r
  | some a => if st.M = [] ∨ zfa (numG rows 1) st.M < numG rows 1 r then (match zj0 rows a r with
    | some c => ⟨st.P, some c, st.M⟩
    | none => cApp (numG rows 1) st r) else cApp (numG rows 1) st r
def zah (rows : List Row) (l : List Int) : CSt := l.foldl (zc6 rows) ⟨[], none, []⟩
def zci (rows : List Row) (l : List Int) : List Int := (zah rows l).out
theorem zaq (rows : List Row) (l : List Int) (r : Int) : zah rows (l ++ [r]) = zc6 rows (zah rows l) r := by simp [zah]
theorem zfg (key : Int → Int) (st : CSt) (r : Int) : (cApp key st r).out = st.out ++ [r] := by
  unfold cApp; split <;> simp [CSt.out]
theorem ze9 (rows : List Row) (st : CSt) (r : Int) : zc6 rows st r = cApp (numG rows 1) st r ∨ ∃ a c, st.s = some a ∧ zj0 rows a r = some c ∧ (st.M = [] ∨ zfa (numG rows 1) st.M < numG rows 1 r) ∧ zc6 rows st r = ⟨st.P, some c, st.M⟩ := by
  unfold zc6
  split
  · exact .inl rfl
  · rename_i a ha
    split
    · rename_i hf
      cases hc : zj0 rows a r with
      | none => exact .inl rfl
      | some c => exact .inr ⟨a, c, ha, hc, hf, rfl⟩
    · exact .inl rfl
theorem zm7 (rows : List Row) (l : List Int) : (zci rows l).length ≤ l.length := by
  unfold zci
  induction l using zdx with
  | h0 => simp [zah, CSt.out]
  | h1 l r ih =>
    rw [zaq, List.length_append, List.length_singleton]
    rcases ze9 rows (zah rows l) r with e | ⟨a, c, hs, _, _, e⟩
    · rw [e, zfg, List.length_append, List.length_singleton]; omega
    · rw [e]; simp only [CSt.out, hs, Option.toList, List.length_append, List.length_cons] at ih ⊢; omega
theorem zm8 {rows : List Row} (h1 : zce rows) (l : List Int) : ∀ x ∈ zci rows l, x ∈ l ∨ (0 ≤ x ∧ x ≤ 1114111) := by
  unfold zci
  induction l using zdx with
  | h0 => intro x hx; simp [zah, CSt.out] at hx
  | h1 l r ih =>
    rw [zaq]
    rcases ze9 rows (zah rows l) r with e | ⟨a, c, hs, hc, _, e⟩
    · rw [e, zfg]
      intro x hx
      rcases List.mem_append.1 hx with hx | hx
      · exact (ih x hx).imp (fun h => List.mem_append.2 (.inl h)) id
      · exact .inl (List.mem_append.2 (.inr hx))
    · rw [e]
      intro x hx
      simp only [CSt.out, Option.toList, List.mem_append, List.mem_cons, List.not_mem_nil, or_false] at hx ih
      rcases hx with hx | rfl | hx
      · exact (ih x (.inl hx)).imp (fun h => List.mem_append.2 (.inl h)) id
      · exact .inr (zx8 h1 hc)
      · exact (ih x (.inr (.inr hx))).imp (fun h => List.mem_append.2 (.inl h)) id
structure TabC (rows : List Row) : Prop where
  one : zce rows
  closed : zm3 rows
  cls : zdl rows
  syl : ∀ x ∈ rows, x.kind = 2 → sylB x.fr = false
  deep : ∀ x ∈ rows, x.kind = 2 → zak rows 7 x.fr = zak rows 8 x.fr
theorem TabC.full7 {rows : List Row} (h : TabC rows) (r : Int) : zak rows 7 r = zak rows 8 r := by
  by_cases hs : sylB r = true
  · rw [zb1 hs, zb1 hs]
  · simp only [Bool.not_eq_true] at hs
    by_cases h0 : zag rows r = (0, 0)
    · rw [zga hs h0, zga hs h0]
    · obtain ⟨x, hx, hk, rfl, _⟩ := zz8 h.one h0
      exact h.deep x hx hk
theorem TabC.join {rows : List Row} (h : TabC rows) {a b c : Int} (ha : zb6 rows a = true ∨ sylB a = true) (hj : zkt a b = some c) : zak rows 8 c = zak rows 8 a ++ [b] := by
  rw [zb1 (zpz hj)]
  unfold zkt at hj
  split at hj
  · rename_i hc
    cases hj
    have hr : zb6 rows a = true := by
      rcases ha with ha | ha
      · exact ha
      · simp only [sylB, Bool.and_eq_true, decide_eq_true_eq] at ha; omega
    rw [zjz hr]
    unfold zcu
    rw [if_pos (by omega)]
    simp only [List.cons_append, List.nil_append, List.cons.injEq, and_true]
    omega
  · split at hj
    · rename_i hc
      cases hj
      obtain ⟨⟨hs, h0⟩, h1, h2⟩ := hc
      rw [zb1 hs]
      simp only [sylB, Bool.and_eq_true, decide_eq_true_eq] at hs
      unfold zcu
      rw [if_neg (by omega), if_pos h0]
      simp only [List.cons_append, List.nil_append, List.cons.injEq, and_true]
      omega
    · cases hj
theorem TabC.lead {rows : List Row} (h : TabC rows) {a : Int} (ha : 4352 ≤ a ∧ a < 4371) : zb6 rows a = true := by
  have hx := h.closed (44032 + (a - 4352) * 588) a
  refine hx ?_
  have hs : sylB (44032 + (a - 4352) * 588) = true := by simp only [sylB, Bool.and_eq_true, decide_eq_true_eq]; omega
  rw [zb1 hs]
  unfold zcu
  rw [if_pos (by omega), show 4352 + (44032 + (a - 4352) * 588 - 44032) / 588 = a by omega]
  exact List.mem_cons_self
theorem TabC.pair {rows : List Row} (h : TabC rows) {a b c : Int} (hb : zb6 rows b = true) (hc : zj0 rows a b = some c) : zak rows 8 c = zak rows 8 a ++ [b] := by
  unfold zj0 at hc
  split at hc
  · rename_i s hj
    cases hc
    refine h.join ?_ hj
    unfold zkt at hj
    split at hj
    · rename_i hq; exact .inl (h.lead hq.1)
    · split at hj
      · rename_i hq; exact .inr hq.1.1
      · cases hj
  · obtain ⟨hp, h0, _, _, x, hx, hk, rfl⟩ := zpy h.one hc
    have hs := h.syl x hx hk
    have hn : zag rows x.fr ≠ (0, 0) := by rw [hp]; intro e; cases e; exact h0 rfl
    rw [show (8 : Nat) = 7 + 1 from rfl]
    rw [zak, if_neg (by rw [hs]; simp), if_neg hn, hp]
    simp only
    rw [if_neg h0, h.full7, zjz hb]
theorem zhm (key : Int → Int) (M : List Int) (r : Int) : zfa key (M ++ [r]) = key r := by simp [zfa]
structure InvC (rows : List Row) (st : CSt) (p : List Int) : Prop where
  e : Eqv (numG rows 1) (st.out.flatMap (zak rows 8)) p
  m : ∀ m ∈ st.M, numG rows 1 m ≠ 0 ∧ zb6 rows m = true ∧ numG rows 1 m ≤ zfa (numG rows 1) st.M
  q : st.M ≠ [] → ∃ p' q, p = p' ++ [q] ∧ zfa (numG rows 1) st.M ≤ numG rows 1 q
theorem InvC.app {rows : List Row} {st : CSt} {p : List Int} (h : InvC rows st p) {r : Int} (hr : zb6 rows r = true) (hc : zcg (numG rows 1) (p ++ [r])) : InvC rows (cApp (numG rows 1) st r) (p ++ [r]) := by
  have he : Eqv (numG rows 1) ((cApp (numG rows 1) st r).out.flatMap (zak rows 8)) (p ++ [r]) := by
    rw [zfg, List.flatMap_append, List.flatMap_singleton, zjz hr]
    simpa using h.e.app [] [r]
  refine ⟨he, ?_, ?_⟩
  · unfold cApp
    split
    · intro m hm; cases hm
    · rename_i h0
      intro m hm
      simp only at hm ⊢
      rw [zhm]
      rcases List.mem_append.1 hm with hm | hm
      · obtain ⟨k1, k2, k3⟩ := h.m m hm
        refine ⟨k1, k2, ?_⟩
        obtain ⟨p', q, rfl, hq⟩ := h.q (List.ne_nil_of_mem hm)
        have := (zde.1 hc).2.2 q r (by simp) rfl h0
        omega
      · rw [List.mem_singleton] at hm; subst hm; exact ⟨h0, hr, Int.le_refl _⟩
  · unfold cApp
    split
    · intro hn; exact absurd rfl hn
    · intro _; exact ⟨p, r, rfl, by simp only; rw [zhm]; exact Int.le_refl _⟩
theorem InvC.step {rows : List Row} (ht : TabC rows) {st : CSt} {p : List Int} (h : InvC rows st p) {r : Int} (hr : zb6 rows r = true) (hc : zcg (numG rows 1) (p ++ [r])) : InvC rows (zc6 rows st r) (p ++ [r]) := by
  rcases ze9 rows st r with e | ⟨a, c, hs, hpc, hf, e⟩
  · rw [e]; exact h.app hr hc
  · rw [e]
    have hM : st.M.flatMap (zak rows 8) = st.M := zm5 fun m hm => (h.m m hm).2.1
    have he := h.e
    simp only [CSt.out, hs, Option.toList, List.flatMap_append, List.flatMap_singleton, hM] at he
    have hlt : st.M ≠ [] → zfa (numG rows 1) st.M < numG rows 1 r := fun hn => hf.elim (fun e => absurd e hn) id
    refine ⟨?_, h.m, fun hn => ⟨p, r, rfl, Int.le_of_lt (hlt hn)⟩⟩
    simp only [CSt.out, Option.toList, List.flatMap_append, List.flatMap_singleton, hM, ht.pair hr hpc]
    refine Eqv.trans ?_ (by simpa using he.app [] [r])
    by_cases hn : st.M = []
    · rw [hn]; simp; exact .refl _
    · have h3 : zfa (numG rows 1) st.M < numG rows 1 r := hlt hn
      have hr0 : numG rows 1 r ≠ 0 := by
        intro e0
        obtain ⟨m, hm⟩ := List.exists_mem_of_ne_nil _ hn
        obtain ⟨k1, _, k3⟩ := h.m m hm
        have := ht.cls m; omega
      have := (Eqv.ahead (key := numG rows 1) hr0 (B := st.M) [] fun m hm => ⟨(h.m m hm).1, by have := (h.m m hm).2.2; omega⟩).symm.app (st.P.flatMap (zak rows 8) ++ zak rows 8 a) []
      simpa using this
theorem invC {rows : List Row} (ht : TabC rows) {l : List Int} (hr : ∀ x ∈ l, zb6 rows x = true) (hc : zcg (numG rows 1) l) : InvC rows (zah rows l) l := by
  revert hr hc
  induction l using zdx with
  | h0 => intro _ _; exact ⟨.refl _, (fun m hm => by cases hm), fun hn => absurd rfl hn⟩
  | h1 l r ih =>
    intro hr hc
    rw [zaq]
    exact (ih (fun x hx => hr x (by simp [hx])) (zde.1 hc).1).step ht (hr r (by simp)) hc
theorem zsz {rows : List Row} (ht : TabC rows) {l : List Int} (hr : ∀ x ∈ l, zb6 rows x = true) (hc : zcg (numG rows 1) l) : nfdL rows (zci rows l) = l := by
  show ord (numG rows 1) ((zah rows l).out.flatMap (zak rows 8)) = l
  rw [zsu (invC ht hr hc).e, zrm hc]
def nfcL (rows : List Row) (l : List Int) : List Int := zci rows (nfdL rows l)
theorem z21 {rows : List Row} (ht : TabC rows) (l : List Int) : nfdL rows (nfcL rows l) = nfdL rows l := zsz ht (zud ht.cls ht.closed l) (zx2 rows l)
def z49 (rows : List Row) : Bool := rows.all fun x => !decide (x.kind = 2) || (!sylB x.fr && decide (zak rows 7 x.fr = zak rows 8 x.fr))
end Go.Eng.Rows



namespace Go.Eng
open Go Go.Proofs Go.Eng.Rows Go.Eng.Trie
theorem z0z : z49 tab73 = true := by kernel_rfl
theorem z5a : TabC tab where
  one := zpv
  closed := zoo
  cls := ze8
  syl := fun x hx hk => by
    have := List.all_eq_true.1 z0z x (zrt hx hk)
    simp only [hk, decide_true, Bool.not_true, Bool.false_or, Bool.and_eq_true, Bool.not_eq_true'] at this
    exact this.1
  deep := fun x hx hk => by
    have := List.all_eq_true.1 z0z x (zrt hx hk)
    simp only [hk, decide_true, Bool.not_true, Bool.false_or, Bool.and_eq_true, decide_eq_true_eq] at this
    rw [zm6, zm6]; exact this.2
end Go.Eng



namespace Go.Eng.Rows
open Go Go.Eng Go.Eng.Trie Go.Eng.Srt
def Comp (rows : List Row) (s : List Int) : Prop := ∃ d, (∀ x ∈ d, zb6 rows x = true) ∧ zcg (numG rows 1) d ∧ zci rows d = s
section
variable {rows : List Row}
def cDec (rows : List Row) (s : Option Int) (M : List Int) (r : Int) : Option Int := match s with
  | none => none
  | some a => if M = [] ∨ zfa (numG rows 1) M < numG rows 1 r then zj0 rows a r else none
theorem zdh (st : CSt) (r : Int) : zc6 rows st r = match cDec rows st.s st.M r with | some c => ⟨st.P, some c, st.M⟩ | none => cApp (numG rows 1) st r := by
  unfold zc6 cDec
  cases st.s with
  | none => rfl
  | some a =>
    simp only
    split
    · rfl
    · rfl
theorem zm9 {s : Option Int} {M : List Int} {r c : Int} (h : cDec rows s M r = some c) : ∃ a, s = some a ∧ zj0 rows a r = some c ∧ (M = [] ∨ zfa (numG rows 1) M < numG rows 1 r) := by
  unfold cDec at h
  cases s with
  | none => cases h
  | some a =>
    simp only at h
    split at h
    · rename_i hf; exact ⟨a, rfl, h, hf⟩
    · cases h
theorem zcj {d : List Int} {x : Int} : zcg (numG rows 1) (d ++ [x]) ↔ zcg (numG rows 1) d ∧ (∀ z, d.getLast? = some z → numG rows 1 x ≠ 0 → numG rows 1 z ≤ numG rows 1 x) := by
  rw [zde]
  constructor
  · rintro ⟨h1, _, h3⟩; exact ⟨h1, fun z hz hx => h3 z x hz rfl hx⟩
  · rintro ⟨h1, h3⟩; exact ⟨h1, trivial, fun z x' hz hx' h0 => by simp at hx'; subst hx'; exact h3 z hz h0⟩
theorem ziu {d : List Int} {r x : Int} (h : zcg (numG rows 1) (d ++ [r] ++ [x])) (hx : numG rows 1 x ≠ 0) : numG rows 1 r ≤ numG rows 1 x := (zcj.1 h).2 r (by simp) hx
def Wit (rows : List Row) (d : List Int) (st : CSt) : Prop := ∃ e, (∀ x ∈ e, zb6 rows x = true) ∧ zah rows e = st ∧ (st.out = [] → e = []) ∧ zcg (numG rows 1) e ∧ ∀ x, zcg (numG rows 1) (d ++ [x]) → zcg (numG rows 1) (e ++ [x])
theorem Wit.snoc {d : List Int} {st : CSt} (h : Wit rows d st) {r : Int} (hr : zb6 rows r = true) (hc : zcg (numG rows 1) (d ++ [r])) (hn : (zc6 rows st r).out ≠ []) : Wit rows (d ++ [r]) (zc6 rows st r) := by
  obtain ⟨e, h1, h2, h3, h4, h5⟩ := h
  refine ⟨e ++ [r], fun x hx => ?_, by rw [zaq, h2], fun hq => absurd hq hn, h5 r hc, fun x hx => ?_⟩
  · rcases List.mem_append.1 hx with hx | hx
    · exact h1 x hx
    · rw [List.mem_singleton] at hx; subst hx; exact hr
  · exact zcj.2 ⟨h5 r hc, fun z hz h0 => by simp at hz; subst hz; exact ziu hx h0⟩
theorem zrv {key : Int → Int} {M : List Int} (h : M ≠ []) : ∃ m ∈ M, zfa key M = key m := by
  rcases M.eq_nil_or_concat with rfl | ⟨D, z, rfl⟩
  · exact absurd rfl h
  · exact ⟨z, by simp, by simp [zfa]⟩
theorem z00 {d : List Int} (h : (zah rows d).out = []) : d = [] := by
  revert h
  induction d using zdx with
  | h0 => exact fun _ => rfl
  | h1 d r ih =>
    rw [zaq, zdh]
    intro h
    split at h
    · simp [CSt.out] at h
    · rw [zfg] at h; simp at h
theorem zuf {d : List Int} (h : (zah rows d).s = none) : (zah rows d).P = [] := by
  revert h
  induction d using zdx with
  | h0 => exact fun _ => rfl
  | h1 d r ih =>
    rw [zaq, zdh]
    split
    · intro h; cases h
    · unfold cApp
      split
      · intro h; cases h
      · exact ih
theorem zz9 (ht : TabC rows) {d : List Int} (hr : ∀ x ∈ d, zb6 rows x = true) (hc : zcg (numG rows 1) d) (hn : (zah rows d).M ≠ []) :
    Wit rows d ⟨(zah rows d).P, (zah rows d).s, (zah rows d).M.dropLast⟩ := by
  revert hr hc hn
  induction d using zdx with
  | h0 => intro _ _ hn; exact absurd rfl hn
  | h1 d r ih =>
    intro hr hc
    have hr1 : ∀ x ∈ d, zb6 rows x = true := fun x hx => hr x (by simp [hx])
    have hc1 := (zcj.1 hc).1
    have hinv := invC ht hr1 hc1
    have hrr := hr r (by simp)
    rw [zaq]
    have ih := ih hr1 hc1
    have hon := z00 (rows := rows) (d := d)
    generalize hsd : zah rows d = st at *
    rw [zdh]
    cases hd : cDec rows st.s st.M r with
    | none =>
      simp only
      unfold cApp
      split
      · intro hn; exact absurd rfl hn
      · rename_i h0
        intro _
        simp only [List.dropLast_concat]
        refine ⟨d, hr1, hsd, fun h => hon h, hc1, fun x hx => zcj.2 ⟨hc1, fun z hz hx0 => ?_⟩⟩
        have := (zcj.1 hc).2 z hz h0
        have := ziu hx hx0
        omega
    | some c =>
      simp only
      intro hn
      obtain ⟨a, hs, hp, hf⟩ := zm9 hd
      have hlt := hf.elim (fun e => absurd e hn) id
      have hw := (ih hn).snoc hrr hc
      have he : zc6 rows ⟨st.P, st.s, st.M.dropLast⟩ r = ⟨st.P, some c, st.M.dropLast⟩ := by
        rw [zdh]
        have : cDec rows st.s st.M.dropLast r = some c := by
          unfold cDec
          rw [hs]
          simp only
          rw [if_pos, hp]
          by_cases hdl : st.M.dropLast = []
          · exact .inl hdl
          · obtain ⟨m, hm, e⟩ := zrv (key := numG rows 1) hdl
            have := (hinv.m m (List.dropLast_subset _ hm)).2.2
            exact .inr (by omega)
        simp only [this]
      rw [he] at hw
      exact hw (by simp [CSt.out])
def zhu (st : CSt) : CSt := match st.s, st.P with
  | none, P => ⟨P, none, st.M.tail⟩
  | some _, [] => ⟨[], none, st.M⟩
  | some c, _ :: P => ⟨P, some c, st.M⟩
theorem zx9 {st : CSt} (h : st.s = none → st.P = []) : (zhu st).out = st.out.tail := by
  obtain ⟨P, s, M⟩ := st
  cases s with
  | none =>
    have hp : P = [] := h rfl
    subst hp
    simp [zhu, CSt.out]
  | some c => cases P <;> simp [zhu, CSt.out]
theorem zya (hk : zdl rows) (M : List Int) : 0 ≤ zfa (numG rows 1) M := by
  by_cases h : M = []
  · subst h; exact Int.le_refl _
  · obtain ⟨m, _, e⟩ := zrv (key := numG rows 1) h
    rw [e]; exact hk m
theorem z0a (ht : TabC rows) {d : List Int} (hr : ∀ x ∈ d, zb6 rows x = true) (hc : zcg (numG rows 1) d) (hn : d ≠ []) : Wit rows d (zhu (zah rows d)) := by
  revert hr hc hn
  induction d using zdx with
  | h0 => intro _ _ hn; exact absurd rfl hn
  | h1 d r ih =>
    intro hr hc _
    have hr1 : ∀ x ∈ d, zb6 rows x = true := fun x hx => hr x (by simp [hx])
    have hc1 := (zcj.1 hc).1
    have hrr := hr r (by simp)
    by_cases hd0 : d = []
    · subst hd0
      refine ⟨[], fun x hx => (by cases hx), ?_, fun _ => rfl, trivial, fun x _ => trivial⟩
      rw [zaq]
      show _ = zhu (cApp (numG rows 1) ⟨[], none, []⟩ r)
      unfold cApp
      split <;> rfl
    · have ih := ih hr1 hc1 hd0
      have hP := zuf (rows := rows) (d := d)
      have hon : (zah rows d).out ≠ [] := fun h => hd0 (z00 h)
      rw [zaq]
      generalize zah rows d = st at *
      have key : (zhu (zc6 rows st r) = zc6 rows (zhu st) r ∧ (zc6 rows (zhu st) r).out ≠ []) → Wit rows (d ++ [r]) (zhu (zc6 rows st r)) := fun ⟨h1, h2⟩ => by
        rw [h1]; exact ih.snoc hrr hc h2
      obtain ⟨P, s, M⟩ := st
      cases s with
      | none =>
        obtain rfl : P = [] := hP rfl
        cases M with
        | nil => exact absurd rfl hon
        | cons m M =>
          refine key ?_
          have e1 : zc6 rows ⟨[], none, m :: M⟩ r = cApp (numG rows 1) ⟨[], none, m :: M⟩ r := rfl
          have e2 : zc6 rows (zhu ⟨[], none, m :: M⟩) r = cApp (numG rows 1) ⟨[], none, M⟩ r := rfl
          rw [e1, e2, zfg]
          refine ⟨?_, by simp⟩
          unfold cApp
          split <;> simp [zhu, CSt.out]
      | some c =>
        cases P with
        | cons p P =>
          refine key ?_
          have e2 : zhu ⟨p :: P, some c, M⟩ = ⟨P, some c, M⟩ := rfl
          rw [e2, zdh, zdh]
          simp only
          cases cDec rows (some c) M r with
          | none => simp only; rw [zfg]; refine ⟨?_, by simp⟩; unfold cApp; split <;> simp [zhu, CSt.out]
          | some c' => exact ⟨rfl, by simp [CSt.out]⟩
        | nil =>
          have e2 : zhu ⟨[], some c, M⟩ = ⟨[], none, M⟩ := rfl
          have e3 : zc6 rows ⟨[], none, M⟩ r = cApp (numG rows 1) ⟨[], none, M⟩ r := rfl
          cases hdec : cDec rows (some c) M r with
          | none =>
            refine key ?_
            rw [e2, e3, zdh]
            simp only [hdec]
            rw [zfg]
            refine ⟨?_, by simp⟩
            unfold cApp
            split <;> simp [zhu, CSt.out]
          | some c' =>
            obtain ⟨a, _, hp, hf⟩ := zm9 hdec
            have e4 : zhu (zc6 rows ⟨[], some c, M⟩ r) = ⟨[], none, M⟩ := by
              rw [zdh]; simp only [hdec]; rfl
            rw [e4]
            rw [e2] at ih
            obtain ⟨e, h1, h2, h3, h4, h5⟩ := ih
            refine ⟨e, h1, h2, h3, h4, fun x hx => zcj.2 ⟨h4, fun z hz hx0 => ?_⟩⟩
            by_cases h0 : numG rows 1 r = 0
            · have hl := zya ht.cls M
              have hM : M = [] := hf.elim id fun h => by omega
              subst hM
              have := h3 rfl
              subst this
              simp at hz
            · have k1 := (zcj.1 (h5 r hc)).2 z hz h0
              have k2 := ziu hx hx0
              omega
theorem z0b {d : List Int} (hr : ∀ x ∈ d, zb6 rows x = true) (hc : zcg (numG rows 1) d) (hn : (zah rows d).s ≠ none) : ∃ e, (∀ x ∈ e, zb6 rows x = true) ∧ zcg (numG rows 1) e ∧ (zah rows e).out = (zah rows d).P := by
  revert hr hc hn
  induction d using zdx with
  | h0 => intro _ _ hn; exact absurd rfl hn
  | h1 d r ih =>
    intro hr hc
    have hr1 : ∀ x ∈ d, zb6 rows x = true := fun x hx => hr x (by simp [hx])
    have hc1 := (zcj.1 hc).1
    have ih := ih hr1 hc1
    rw [zaq, zdh]
    cases hd : cDec rows (zah rows d).s (zah rows d).M r with
    | none =>
      simp only
      unfold cApp
      split
      · intro _; exact ⟨d, hr1, hc1, rfl⟩
      · exact ih
    | some c =>
      obtain ⟨a, hs, _⟩ := zm9 hd
      intro _
      exact ih (by rw [hs]; simp)
theorem Comp.nil : Comp rows [] := ⟨[], fun x hx => (by cases hx), trivial, rfl⟩
theorem Comp.tail (ht : TabC rows) {s : List Int} (h : Comp rows s) : Comp rows s.tail := by
  obtain ⟨d, h1, h2, rfl⟩ := h
  by_cases hd : d = []
  · subst hd; exact .nil
  · obtain ⟨e, k1, k2, _, k4, _⟩ := z0a ht h1 h2 hd
    exact ⟨e, k1, k4, by unfold zci; rw [k2, zx9 zuf]⟩
theorem Comp.dropLast (ht : TabC rows) {s : List Int} (h : Comp rows s) : Comp rows s.dropLast := by
  obtain ⟨d, h1, h2, rfl⟩ := h
  unfold zci
  by_cases hM : (zah rows d).M = []
  · cases hs : (zah rows d).s with
    | none =>
      have : (zah rows d).out = [] := by simp [CSt.out, zuf hs, hs, hM]
      rw [this]; exact .nil
    | some c =>
      obtain ⟨e, k1, k2, k3⟩ := z0b h1 h2 (by rw [hs]; simp)
      refine ⟨e, k1, k2, ?_⟩
      unfold zci
      rw [k3]
      simp [CSt.out, hs, hM]
  · obtain ⟨e, k1, k2, _, k4, _⟩ := zz9 ht h1 h2 hM
    refine ⟨e, k1, k4, ?_⟩
    unfold zci
    rw [k2]
    simp only [CSt.out]
    rw [List.dropLast_append_of_ne_nil (by simp [hM]), List.dropLast_append_of_ne_nil hM]
theorem Comp.drop (ht : TabC rows) {s : List Int} (h : Comp rows s) : ∀ k, Comp rows (s.drop k)
  | 0 => h
  | k + 1 => by
    have := (Comp.drop ht h k).tail ht
    rwa [List.tail_drop] at this
theorem Comp.take (ht : TabC rows) {s : List Int} (h : Comp rows s) (k : Nat) : Comp rows (s.take k) := by
  have : ∀ n, Comp rows (s.take (s.length - n)) := by
    intro n
    induction n with
    | zero => rw [Nat.sub_zero, List.take_length]; exact h
    | succ n ih =>
      have := ih.dropLast ht
      rw [List.dropLast_eq_take, List.take_take, List.length_take] at this
      rwa [show min (min (s.length - n) s.length - 1) (s.length - n) = s.length - (n + 1) by omega] at this
  by_cases hk : k ≤ s.length
  · have := this (s.length - k)
    rwa [show s.length - (s.length - k) = k by omega] at this
  · rw [List.take_of_length_le (by omega)]; exact h
end
end Go.Eng.Rows



namespace Go.Eng
open Go Go.Proofs
end Go.Eng



namespace Go.Eng
open Go Go.Proofs Go.Eng.Rows Go.Eng.Trie Go.Eng.Srt
def optV : Option Int → PV
  | some r => .tup [.int .i32 r, .bool true]
  | none => .tup [.int .i32 0, .bool false]
section
variable {rows : List Row} {v : PV}
def zei (st : CSt) : Int := match st.s with | none => -1 | some _ => st.P.length
theorem z0c {d : List Int} : ∀ m ∈ (zah rows d).M, numG rows 1 m ≠ 0 := by
  induction d using zdx with
  | h0 => intro m hm; cases hm
  | h1 d r ih =>
    rw [zaq]
    rcases ze9 rows (zah rows d) r with e | ⟨a, c, hs, hp, _, e⟩
    · rw [e]
      unfold cApp
      split
      · intro m hm; cases hm
      · rename_i h0
        intro m hm
        rcases List.mem_append.1 hm with hm | hm
        · exact ih m hm
        · rw [List.mem_singleton] at hm; subst hm; exact h0
    · rw [e]; exact ih
def JC (rows : List Row) (L : List Int) (x6 x7 i : Int) (s : List (List PV)) : Prop := (0 ≤ i ∧ i ≤ L.length) ∧ s = i32s (zah rows (L.take i.toNat)).out ∧ x6 = zei (zah rows (L.take i.toNat)) ∧ x7 = zfa (numG rows 1) (zah rows (L.take i.toNat)).M
theorem JC.next {L : List Int} {i : Int} (h0 : 0 ≤ i) (hi : i.toNat < L.length) {st : CSt} (he : zc6 rows (zah rows (L.take i.toNat)) L[i.toNat] = st) : JC rows L (zei st) (zfa (numG rows 1) st.M) (i + 1) (i32s st.out) := by
  have e : zah rows (L.take (i + 1).toNat) = st := by
    rw [show (i + 1).toNat = i.toNat + 1 by omega, zas hi, zaq, he]
  exact ⟨⟨by omega, by omega⟩, by rw [e], by rw [e], by rw [e]⟩
theorem z23 (hp : zat rows) (h1 : zce rows) (hk : zdl rows) {l : List Int} (h : R32 l) : R32 (nfcL rows l) := fun x hx => by
  rcases zm8 h1 _ x hx with h2 | h2
  · exact zsw hk hp h x h2
  · omega
theorem z24 (hk : zdl rows) (l : List Int) : (nfcL rows l).length ≤ 768 * l.length := Nat.le_trans (zm7 rows _) (zpw hk l)
end
end Go.Eng



namespace Go.Eng
open Go Go.Proofs Go.Eng.Rows Go.Eng.Trie Go.Eng.Srt
theorem v22 : Tryz.prog.underlying 22 = some (.slice 21) := by kernel_rfl
theorem v21 : Tryz.prog.underlying 21 = some (.int .i32) := by kernel_rfl
theorem zrw {v : PV} (h : zob Tryz.prog 8 22 v) : ∃ nl l, v = .sl nl false (i32s l) ∧ R32 l := by
  obtain ⟨nl, l, e, hl, _, hr⟩ := zu6 v22 v21 (zqy (by kernel_rfl) h)
  cases e
  exact ⟨nl, l, rfl, hr⟩
end Go.Eng



namespace Go.Eng.Rows
open Go Go.Eng Go.Eng.Trie Go.Eng.Srt
def subL (L : List Int) (a b : Nat) : List Int := (L.take b).drop a
def hitB (rows : List Row) (L want : List Int) (a b : Nat) : Bool := decide (nfdL rows (subL L a b) = want)
def fTo (p : Nat → Bool) (b : Nat) : Nat → Option Nat
  | 0 => none
  | k + 1 => if p b then some b else fTo p (b + 1) k
def fOut (rows : List Row) (L want : List Int) (a : Nat) : Nat → Option (Nat × Nat)
  | 0 => none
  | k + 1 => match fTo (hitB rows L want a) a (L.length + 1 - a) with
    | some b => some (a, b)
    | none => fOut rows L want (a + 1) k
def findL (rows : List Row) (L want : List Int) : Option (Nat × Nat) := fOut rows L want 0 (L.length + 1)
theorem zug {p : Nat → Bool} : ∀ {k b : Nat}, (∀ j, j < k → p (b + j) = false) → fTo p b k = none
  | 0, b, _ => rfl
  | k + 1, b, h => by
    rw [fTo, if_neg (by have := h 0 (by omega); rw [Nat.add_zero] at this; rw [this]; simp)]
    exact zug fun j hj => by have := h (j + 1) (by omega); rwa [show b + (j + 1) = b + 1 + j by omega] at this
theorem z4d {L : List Int} {i : Nat} (h : i < L.length) : L.take (i + 1) = L.take i ++ [L[i]] := by
  rw [List.take_add_one, List.getElem?_eq_getElem h]; rfl
theorem zyb {L : List Int} {a b : Nat} (h : a ≤ b) (hb : b < L.length) : subL L a (b + 1) = subL L a b ++ [L[b]] := by
  unfold subL
  rw [z4d hb, List.drop_append_of_le_length (by rw [List.length_take]; omega)]
theorem zp0 (L : List Int) (a : Nat) : subL L a a = [] := by
  unfold subL; exact List.drop_eq_nil_of_le (by rw [List.length_take]; omega)
def szS (rows : List Row) (L : List Int) (a b : Nat) : Nat := ((subL L a b).flatMap (zak rows 8)).length
theorem zuh (rows : List Row) {L : List Int} {a b : Nat} (h : a ≤ b) (hb : b < L.length) : szS rows L a (b + 1) = szS rows L a b + (zak rows 8 L[b]).length := by
  unfold szS; rw [zyb h hb]; simp
theorem zui (rows : List Row) {L : List Int} {a b : Nat} (h : a ≤ b) : ∀ {k : Nat}, b + k ≤ L.length → szS rows L a b ≤ szS rows L a (b + k)
  | 0, _ => Nat.le_refl _
  | k + 1, hk => by
    have := zui rows (L := L) h (k := k) (by omega)
    have h2 := zuh rows (L := L) (a := a) (b := b + k) (by omega) (by omega)
    rw [show b + (k + 1) = b + k + 1 by omega]; omega
theorem z4e (rows : List Row) (L : List Int) (a b : Nat) : szS rows L a b ≤ 768 * (b - a) := by
  unfold szS
  have : ∀ l : List Int, (l.flatMap (zak rows 8)).length ≤ 768 * l.length := fun l => by
    induction l with
    | nil => simp
    | cons x l ih =>
      have := zcv rows 8 x
      rw [List.flatMap_cons, List.length_append, List.length_cons]; omega
  refine Nat.le_trans (this _) ?_
  unfold subL
  rw [List.length_drop, List.length_take]
  exact Nat.mul_le_mul_left _ (by omega)
theorem ziv {rows : List Row} (hk : zdl rows) (L : List Int) (a b : Nat) : (nfdL rows (subL L a b)).length = szS rows L a b := by
  unfold nfdL szS; exact (zks hk _).len.symm
theorem z0d {rows : List Row} (hk : zdl rows) {L want : List Int} {a b : Nat} (h : a ≤ b) (hl : want.length < szS rows L a b) : ∀ j, b + j ≤ L.length → hitB rows L want a (b + j) = false := fun j hj => by
  have := zui rows h hj
  unfold hitB
  rw [decide_eq_false_iff_not]
  intro e
  have := congrArg List.length e
  rw [ziv hk] at this
  omega
theorem z26 {rows : List Row} (hk : zdl rows) {L want : List Int} {a b : Nat} (hl : szS rows L a b ≠ want.length) : hitB rows L want a b = false := by
  unfold hitB
  rw [decide_eq_false_iff_not]
  intro e
  exact hl (by rw [← ziv hk, e])
theorem z27 {rows : List Row} {L want : List Int} (hw : want ≠ []) (a : Nat) : hitB rows L want a a = false := by
  unfold hitB
  rw [zp0, decide_eq_false_iff_not]
  intro e; exact hw (by rw [← e]; rfl)
def zna (rows : List Row) (L want : List Int) (a b : Nat) : Option (Nat × Nat) := match fTo (hitB rows L want a) b (L.length + 1 - b) with
  | some c => some (a, c)
  | none => fOut rows L want (a + 1) (L.length - a)
theorem znb {rows : List Row} {L want : List Int} (hw : want ≠ []) {a : Nat} (ha : a ≤ L.length) : fOut rows L want a (L.length + 1 - a) = zna rows L want a (a + 1) := by
  rw [show L.length + 1 - a = (L.length - a) + 1 by omega, fOut]
  unfold zna
  rw [show L.length + 1 - a = (L.length + 1 - (a + 1)) + 1 by omega, fTo, if_neg (by rw [z27 hw]; simp)]
theorem zvm {rows : List Row} {L want : List Int} {a b : Nat} (hb : b ≤ L.length) (h : hitB rows L want a b = false) : zna rows L want a b = zna rows L want a (b + 1) := by
  unfold zna
  rw [show L.length + 1 - b = (L.length + 1 - (b + 1)) + 1 by omega, fTo, if_neg (by rw [h]; simp)]
theorem zyc {rows : List Row} {L want : List Int} {a b : Nat} (hb : b ≤ L.length) (h : hitB rows L want a b = true) : zna rows L want a b = some (a, b) := by
  unfold zna
  rw [show L.length + 1 - b = (L.length + 1 - (b + 1)) + 1 by omega, fTo, if_pos h]
theorem zop {rows : List Row} {L want : List Int} {a b : Nat} (h : ∀ j, b + j ≤ L.length → hitB rows L want a (b + j) = false) : zna rows L want a b = fOut rows L want (a + 1) (L.length + 1 - (a + 1)) := by
  unfold zna
  rw [zug fun j hj => h j (by omega)]
  rw [show L.length + 1 - (a + 1) = L.length - a by omega]
theorem z28 {rows : List Row} {L want : List Int} (hw : want ≠ []) : fOut rows L want L.length (L.length + 1 - L.length) = none := by
  rw [znb hw (Nat.le_refl _), zop fun j hj => by omega]
  rw [Nat.sub_self]; rfl
end Go.Eng.Rows



namespace Go.Eng
open Go Go.Proofs
end Go.Eng



namespace Go.Eng
open Go Go.Proofs Go.Eng.Rows Go.Eng.Trie Go.Eng.Srt
theorem z5b {l : List Int} (h : R32 l) : R32 (nfcL tab l) := z23 zd7 zpv ze8 h
theorem z5c {l : List Int} (h : R32 l) : R32 (nfdL tab l) := zsw ze8 zd7 h
theorem zyd (l : List Int) (k : Nat) : (l.take k).length ≤ k := by rw [List.length_take]; omega
theorem z5d {len : Nat} {i j : Int} (h0 : 0 ≤ i) (h1 : i ≤ j) (h2 : j ≤ len) : slOK len (some i) (some j) none := ⟨h0, h1, h2, trivial⟩
theorem z29 (L : List Int) (i j : Nat) : List.drop i (List.take j (i32s L)) = i32s (subL L i j) := by simp [i32s, subL]
theorem R32.sub {L : List Int} (h : R32 L) (i j : Nat) : R32 (subL L i j) := fun x hx => h x (List.mem_of_mem_take (List.mem_of_mem_drop hx))
theorem z0e (L : List Int) (i j : Nat) : (subL L i j).length ≤ L.length := by unfold subL; rw [List.length_drop, List.length_take]; omega
theorem w3 : Tryz.prog.underlying 3 = some (.int .i64) := by kernel_rfl
end Go.Eng



namespace Go.Eng
open Go Go.Proofs
def zdi (n f : Bool) (es : LL) (r : Int) (R : PV → Prop) : Prop :=
 PCall Tryz.prog 74 [PV.sl n f es, Z3 r] fun (v : PV) ↦ ∃ (vs : List PV), v = PV.tup vs ∧ vs.length = 3 ∧ ∃ (x : PV), vs.head? = some x ∧ ∃ (n1 : Int), x = Z3 n1 ∧ ∃ (x1 : PV), vs.tail.head? = some x1 ∧ ∃ (n2 : Int), x1 = Z3 n2 ∧ ∃ (x2 :
 PV), vs.tail.tail.head? = some x2 ∧ ∃ (b : Bool), x2 = Zb b ∧ if (!b) = true then R (Zb false) else if (n2 == 0) = true then R (Zb true) else PCall Tryz.prog 102 [PV.sl n f es, Z6 3, Z3 r] fun (v1 : PV) ↦ ∃ (n3 : Int), v1 = Z6 n3 ∧ if (n3
 == 1) = true then R (Zb true) else PCall Tryz.prog 102 [PV.sl n f es, Z6 1, Z3 r] fun (v2 : PV) ↦ ∃ (n4 : Int), v2 = Z6 n4 ∧ if (n4 != 0) = true then R (Zb true) else PCall Tryz.prog 102 [PV.sl n f es, Z6 1, Z3 n1] fun (v3 : PV) ↦ ∃ (n5 :
 Int), v3 = Z6 n5 ∧ R (Zb (n5 != 0))
theorem zj1 (n f : Bool) (es : LL) (r : Int) {R : PV → Prop} (h : zdi n f es r R) : PCall Tryz.prog 121 [.sl n f es, .int .i32 r] R :=
  PCall.of Tryz.func121 (by kernel_rfl) (by kernel_rfl) (Nat.le_of_ble_eq_true (by kernel_rfl)) (Eq.mpr (by kernel_rfl : aFn Tryz.prog (fun _ => none) Tryz.f121 [0, 1, 4, 5, 6, 7, 16] (fun _ => none) (Tryz.f121.body.getD .skip) [.sl n f es, .int .i32 r] R = zdi n f es r R) h)

end Go.Eng



namespace Go.Eng
open Go Go.Proofs
end Go.Eng



namespace Go.Eng
open Go Go.Proofs Go.Eng.Rows Go.Eng.Trie
end Go.Eng



namespace Go.Eng
open Go Go.Proofs Go.Eng.Rows Go.Eng.Trie
section
variable {rows : List Row}
theorem zrx (i : Int) : zhr rows 3 i = decide (numG rows 3 i = 1) := by
  unfold zhr numG
  cases za0 rows 3 i with
  | none => rfl
  | some p => rfl
theorem z5e (hp : zat rows) (n f : Bool) (r : Int) (hl : rows.length < 1000000) (hr : -2147483648 ≤ r ∧ r ≤ 2147483647) : PCall Tryz.prog 121 [.sl n f (rws rows), .int .i32 r] fun v => v = .bool (outG rows r) := by
  refine zj1 _ _ _ _ ?_; unfold zdi
  refine (zt8 hp n f r hl hr).mono ?_
  rintro _ rfl
  have hrng := ze7 hp r
  refine ⟨_, rfl, rfl, _, rfl, _, rfl, _, rfl, _, rfl, _, rfl, _, rfl, ?_⟩
  refine iteD (fun h1 => ?_) (fun h1 => iteD (fun h2 => ?_) (fun h2 => ?_))
  · simp only [Bool.not_not, decide_eq_true_eq] at h1
    unfold outG; simp [h1]
  · simp only [Bool.not_not, decide_eq_true_eq] at h1
    simp only [beq_iff_eq] at h2
    unfold outG; simp [h1, h2]
  · simp only [Bool.not_not, decide_eq_true_eq] at h1
    simp only [beq_iff_eq] at h2
    refine (pOf4 n f 3 r hl hr).mono ?_
    rintro _ rfl
    refine ⟨_, rfl, ?_⟩
    refine iteD (fun h4 => ?_) (fun h4 => ?_)
    · simp only [beq_iff_eq] at h4
      unfold outG; rw [zrx]; simp [h1, h2, h4]
    · simp only [beq_iff_eq] at h4
      refine (pOf4 n f 1 r hl hr).mono ?_
      rintro _ rfl
      refine ⟨_, rfl, ?_⟩
      refine iteD (fun h5 => ?_) (fun h5 => ?_)
      · simp only [bne_iff_ne, ne_eq] at h5
        unfold outG; simp [h1, h2, h5]
      · simp only [bne_iff_ne, ne_eq, Decidable.not_not] at h5
        refine (pOf4 n f 1 _ hl (by omega)).mono ?_
        rintro _ rfl
        refine ⟨_, rfl, ?_⟩
        unfold outG; rw [zrx]
        simp only [h1, h2, h4, h5, decide_false, Bool.not_false, Bool.true_and, Bool.false_or, decide_true, Bool.not_true]
        rfl
end
end Go.Eng



namespace Go.Eng
open Go Go.Proofs Go.Eng.Rows Go.Eng.Trie
section
variable {rows : List Row} {v : PV}
theorem z5f (hp : zat rows) (hv : zmy rows v) {r : Int} (hr : -2147483648 ≤ r ∧ r ≤ 2147483647) : PCall Tryz.prog 40 [v, .int .i32 r] fun x => ∃ nl, x = .sl nl false (i32s (zak rows 8 r)) := by
  obtain ⟨tc, tg, tj, tf, tp, made, sec, rfl, ht, hm⟩ := hv
  exact z4w _ _ hp ht hr
end
end Go.Eng



namespace Go.Eng
open Go Go.Proofs
def z3a (tc tg tj tf tp : PV) (M S : List (PV × PV)) (n f : Bool) (es : LL) (n2 f2 : Bool) (ss : LL) (n9 : Bool) (f9 : Bool) (s9 : LL) (x27 : Int) (n_0 : Bool) (s_0 : LL) : Env × Hp := ([(0, LV.pv (PV.ptr [tc, tg, tj, tf, tp, PV.mp M, PV.mp S])), (1, LV.pv (PV.sl n f es)), (9, .pv (.sl n9 f9 s9)), (10, LV.own 0), (25, LV.pv (PV.sl n f es)), (26, LV.pv (PV.int IntKind.i64 ↑es.length)), (27, .pv (.int IntKind.i64 x27))], [.sl (3, 1) true n_0 s_0])
def zuj (tc tg tj tf tp : PV) (M S : List (PV × PV)) (n f : Bool) (es : LL) (n2 f2 : Bool) (ss : LL) (n9 : Bool) (f9 : Bool) (s9 : LL) (x42 : Int) (n_0 : Bool) (s_0 : LL) : Env × Hp := ([(0, LV.pv (PV.ptr [tc, tg, tj, tf, tp, PV.mp M, PV.mp S])), (1, LV.pv (PV.sl n f es)), (9, .pv (.sl n9 f9 s9)), (10, LV.own 0), (41, LV.pv (PV.int IntKind.i64 ↑es.length)), (42, .pv (.int IntKind.i64 x42))], [.sl (3, 1) true n_0 s_0])
def zuk (tc tg tj tf tp : PV) (M S : List (PV × PV)) (n f : Bool) (es : LL) (n2 f2 : Bool) (ss : LL) (n9 : Bool) (f9 : Bool) (s9 : LL) (x13 : Int) (x14 : Int) (x15 : Int) (x42 : Int) (n_0 : Bool) (s_0 : LL) : Env × Hp := ([(0, LV.pv (PV.ptr [tc, tg, tj, tf, tp, PV.mp M, PV.mp S])), (1, LV.pv (PV.sl n f es)), (9, .pv (.sl n9 f9 s9)), (10, LV.own 0), (13, .pv (.int IntKind.i64 x13)), (14, .pv (.int IntKind.i64 x14)), (15, .pv (.int IntKind.i64 x15)), (41, LV.pv (PV.int IntKind.i64 ↑es.length)), (42, .pv (.int IntKind.i64 x42))], [.sl (3, 1) true n_0 s_0])
def ziw (tc tg tj tf tp : PV) (M S : List (PV × PV)) (n f : Bool) (es : LL) (n2 f2 : Bool) (ss : LL) (J : Bool → Bool → (LL) → Int → Bool → (LL) → Prop) (μ : Bool → Bool → (LL) → Int → Bool → (LL) → Nat) (J2 : Bool → Bool → (LL) → Int → Bool → (LL) → Prop) (μ2 : Bool → Bool → (LL) → Int → Bool → (LL) → Nat) (J3 : Bool → Bool → (LL) → Int → Int → Int → Int → Bool → (LL) → Bool → Bool → (LL) → Int → Int → Int → Int → Bool → (LL) → Prop) (μ3 : Bool → Bool → (LL) → Int → Int → Int → Int → Bool → (LL) → Nat) (R : PV → Prop) : Prop :=
 PCall Tryz.prog 39 [PV.ptr [tc, tg, tj, tf, tp, PV.mp M, PV.mp S], PV.sl n2 f2 ss] fun (v : PV) ↦ ∃ (n1 : Bool), ∃ (f1 : Bool), ∃ (es1 : LL), v = PV.sl n1 f1 es1 ∧ if ((↑es1.length : Int) == 0) = true then R (PV.tup [Z6 0, Z6 0, Zb true])
 else ((0 : Int) ≤ (↑es.length : Int) ∧ (↑es.length : Int) ≤ (↑es.length : Int) ∧ (↑8 : Int) * (↑es.length : Int) ≤ 281474976710656 ∧ (↑es.length : Int) ≤ 9223372036854775807) ∧ (zab (z3a tc tg tj tf tp M S n f es n2 f2 ss n1 f1 es1 (0 :
 Int) false (List.replicate (↑es.length : Int).toNat [Z6 0])) ∧ J n1 f1 es1 (0 : Int) false (List.replicate (↑es.length : Int).toNat [Z6 0])) ∧ ∀ (n9 f9 : Bool) (s9 : LL) (x27 : Int) (n_0 : Bool) (s_0 : LL), J n9 f9 s9 x27 n_0 s_0 → if
 decide (x27 < (↑es.length : Int)) = true then zam es x27 1 ∧ ∃ (n3 : Int), (es.getD x27.toNat []).head? = some (Z3 n3) ∧ PCall Tryz.prog 40 [PV.ptr [tc, tg, tj, tf, tp, PV.mp M, PV.mp S], Z3 n3] fun (v1 : PV) ↦ ∃ (n4 : Bool), ∃ (f3 :
 Bool), ∃ (es2 : LL), v1 = PV.sl n4 f3 es2 ∧ zam s_0 x27 1 ∧ (1 = 1 ∧ 1 ≤ (s_0.getD x27.toNat []).length) ∧ zab (z3a tc tg tj tf tp M S n f es n2 f2 ss n9 f9 s9 (IntKind.i64.wrap (x27 + 1)) n_0 (s_0.set x27.toNat (Z6 (↑es2.length :
 Int) :: List.append._f [] PUnit.unit (List.drop 1 (s_0.getD x27.toNat []))))) ∧ J n9 f9 s9 (IntKind.i64.wrap (x27 + 1)) n_0 (s_0.set x27.toNat (Z6 (↑es2.length : Int) :: List.append._f [] PUnit.unit (List.drop 1 (s_0.getD x27.toNat [])))) ∧
 μ n9 f9 s9 (IntKind.i64.wrap (x27 + 1)) n_0 (s_0.set x27.toNat (Z6 (↑es2.length : Int) :: List.append._f [] PUnit.unit (List.drop 1 (s_0.getD x27.toNat [])))) < μ n9 f9 s9 x27 n_0 s_0 else (zab (zuj tc tg tj tf tp M S n f es n2 f2 ss
 n9 f9 s9 (0 : Int) n_0 s_0) ∧ J2 n9 f9 s9 (0 : Int) n_0 s_0) ∧ ∀ (n91 f91 : Bool) (s91 : LL) (x42 : Int) (n_01 : Bool) (s_01 : LL), J2 n91 f91 s91 x42 n_01 s_01 → if decide (x42 < (↑es.length : Int)) = true then (zab (zuk tc tg tj tf
 tp M S n f es n2 f2 ss n91 f91 s91 x42 (0 : Int) x42 x42 n_01 s_01) ∧ J3 n91 f91 s91 x42 (0 : Int) x42 x42 n_01 s_01 n91 f91 s91 x42 (0 : Int) x42 x42 n_01 s_01) ∧ ∀ (n92 f92 : Bool) (s92 : LL) (x13 x14 x15 x421 : Int) (n_02 : Bool) (s_02 :
 LL), J3 n91 f91 s91 x42 (0 : Int) x42 x42 n_01 s_01 n92 f92 s92 x13 x14 x15 x421 n_02 s_02 → if decide (x15 < (↑es.length : Int)) = true then zam s_02 x15 1 ∧ ∃ (n3 : Int), (List.drop 0 (s_02.getD x15.toNat [])).head? = some (Z6 n3) ∧ if
 decide (IntKind.i64.wrap (x14 + n3) > (↑s92.length : Int)) = true then zab (zuj tc tg tj tf tp M S n f es n2 f2 ss n92 f92 s92 (IntKind.i64.wrap (x421 + 1)) n_02 s_02) ∧ J2 n92 f92 s92 (IntKind.i64.wrap (x421 + 1)) n_02 s_02 ∧ μ2 n92
 f92 s92 (IntKind.i64.wrap (x421 + 1)) n_02 s_02 < μ2 n91 f91 s91 x42 n_01 s_01 else if (IntKind.i64.wrap (x14 + n3) == (↑s92.length : Int)) = true then (slOK es.length (some x13) (some (IntKind.i64.wrap (x15 + 1))) none ∧ szOK es 1) ∧ PCall
 Tryz.prog 39 [PV.ptr [tc, tg, tj, tf, tp, PV.mp M, PV.mp S], PV.sl n (f && decide (IntKind.i64.wrap (x15 + 1) = (↑es.length : Int))) (List.drop x13.toNat (List.take (IntKind.i64.wrap (x15 + 1)).toNat es))] fun (v1 : PV) ↦ ∃ (n4 : Bool), ∃
 (f3 : Bool), ∃ (es2 : LL), v1 = PV.sl n4 f3 es2 ∧ PCall Tryz.prog 41 [PV.sl n4 f3 es2, PV.sl n92 f92 s92] fun (v2 : PV) ↦ ∃ (b : Bool), v2 = Zb b ∧ if b = true then R (PV.tup [Z6 x13, Z6 (IntKind.i64.wrap (x15 + 1)), Zb true]) else zab
 (zuk tc tg tj tf tp M S n f es n2 f2 ss n92 f92 s92 x13 (IntKind.i64.wrap (x14 + n3)) (IntKind.i64.wrap (x15 + 1)) x421 n_02 s_02) ∧ J3 n91 f91 s91 x42 (0 : Int) x42 x42 n_01 s_01 n92 f92 s92 x13 (IntKind.i64.wrap (x14 + n3))
 (IntKind.i64.wrap (x15 + 1)) x421 n_02 s_02 ∧ μ3 n92 f92 s92 x13 (IntKind.i64.wrap (x14 + n3)) (IntKind.i64.wrap (x15 + 1)) x421 n_02 s_02 < μ3 n92 f92 s92 x13 x14 x15 x421 n_02 s_02 else zab (zuk tc tg tj tf tp M S n f es n2 f2 ss n92
 f92 s92 x13 (IntKind.i64.wrap (x14 + n3)) (IntKind.i64.wrap (x15 + 1)) x421 n_02 s_02) ∧ J3 n91 f91 s91 x42 (0 : Int) x42 x42 n_01 s_01 n92 f92 s92 x13 (IntKind.i64.wrap (x14 + n3)) (IntKind.i64.wrap (x15 + 1)) x421 n_02 s_02 ∧ μ3 n92 f92
 s92 x13 (IntKind.i64.wrap (x14 + n3)) (IntKind.i64.wrap (x15 + 1)) x421 n_02 s_02 < μ3 n92 f92 s92 x13 x14 x15 x421 n_02 s_02 else zab (zuj tc tg tj tf tp M S n f es n2 f2 ss n92 f92 s92 (IntKind.i64.wrap (x421 + 1)) n_02 s_02) ∧ J2
 n92 f92 s92 (IntKind.i64.wrap (x421 + 1)) n_02 s_02 ∧ μ2 n92 f92 s92 (IntKind.i64.wrap (x421 + 1)) n_02 s_02 < μ2 n91 f91 s91 x42 n_01 s_01 else R (PV.tup [Z6 0, Z6 0, Zb false])
theorem zs0 (tc tg tj tf tp : PV) (M S : List (PV × PV)) (n f : Bool) (es : LL) (n2 f2 : Bool) (ss : LL) (J : Bool → Bool → (LL) → Int → Bool → (LL) → Prop) (μ : Bool → Bool → (LL) → Int → Bool → (LL) → Nat) (J2 : Bool → Bool → (LL) → Int → Bool → (LL) → Prop) (μ2 : Bool → Bool → (LL) → Int → Bool → (LL) → Nat) (J3 : Bool → Bool → (LL) → Int → Int → Int → Int → Bool → (LL) → Bool → Bool → (LL) → Int → Int → Int → Int → Bool → (LL) → Prop) (μ3 : Bool → Bool → (LL) → Int → Int → Int → Int → Bool → (LL) → Nat) {R : PV → Prop} (h : ziw tc tg tj tf tp M S n f es n2 f2 ss J μ J2 μ2 J3 μ3 R) : PCall Tryz.prog 11 [.ptr [tc, tg, tj, tf, tp, .mp M, .mp S], .sl n f es, .sl n2 f2 ss] R :=
  PCall.of Tryz.func11 (by kernel_rfl) (by kernel_rfl) (Nat.le_of_ble_eq_true (by kernel_rfl)) (Eq.mpr (by kernel_rfl : aFn Tryz.prog (fun _ => none) Tryz.f11 [0, 1, 2, 6, 7, 8, 9, 10, 11, 12, 13, 14, 15, 21, 25, 26, 27, 28, 41, 42, 43, 49, 58, 63] (fun zz_ => match zz_ with | 6 => some ⟨Bool × Bool × (LL) × Int × Bool × (LL), fun s => z3a tc tg tj tf tp M S n f es n2 f2 ss s.1 s.2.1 s.2.2.1 s.2.2.2.1 s.2.2.2.2.1 s.2.2.2.2.2, fun _ s => J s.1 s.2.1 s.2.2.1 s.2.2.2.1 s.2.2.2.2.1 s.2.2.2.2.2, fun s => μ s.1 s.2.1 s.2.2.1 s.2.2.2.1 s.2.2.2.2.1 s.2.2.2.2.2, fun e h => (gN e 9, gF e 9, gS e 9, gI e 27, oN h 0, oS h 0), [], [0, 1, 9, 10, 25, 26, 27], [], fun p => ∀ (n9 : Bool) (f9 : Bool) (s9 : LL) (x27 : Int) (n_0 : Bool) (s_0 : LL), p (n9, f9, s9, x27, n_0, s_0), fun p h s => h s.1 s.2.1 s.2.2.1 s.2.2.2.1 s.2.2.2.2.1 s.2.2.2.2.2⟩ | 11 => some ⟨Bool × Bool × (LL) × Int × Bool × (LL), fun s => zuj tc tg tj tf tp M S n f es n2 f2 ss s.1 s.2.1 s.2.2.1 s.2.2.2.1 s.2.2.2.2.1 s.2.2.2.2.2, fun _ s => J2 s.1 s.2.1 s.2.2.1 s.2.2.2.1 s.2.2.2.2.1 s.2.2.2.2.2, fun s => μ2 s.1 s.2.1 s.2.2.1 s.2.2.2.1 s.2.2.2.2.1 s.2.2.2.2.2, fun e h => (gN e 9, gF e 9, gS e 9, gI e 42, oN h 0, oS h 0), [], [0, 1, 9, 10, 41, 42], [], fun p => ∀ (n9 : Bool) (f9 : Bool) (s9 : LL) (x42 : Int) (n_0 : Bool) (s_0 : LL), p (n9, f9, s9, x42, n_0, s_0), fun p h s => h s.1 s.2.1 s.2.2.1 s.2.2.2.1 s.2.2.2.2.1 s.2.2.2.2.2⟩ | 15 => some ⟨Bool × Bool × (LL) × Int × Int × Int × Int × Bool × (LL), fun s => zuk tc tg tj tf tp M S n f es n2 f2 ss s.1 s.2.1 s.2.2.1 s.2.2.2.1 s.2.2.2.2.1 s.2.2.2.2.2.1 s.2.2.2.2.2.2.1 s.2.2.2.2.2.2.2.1 s.2.2.2.2.2.2.2.2, fun t s => J3 t.1 t.2.1 t.2.2.1 t.2.2.2.1 t.2.2.2.2.1 t.2.2.2.2.2.1 t.2.2.2.2.2.2.1 t.2.2.2.2.2.2.2.1 t.2.2.2.2.2.2.2.2 s.1 s.2.1 s.2.2.1 s.2.2.2.1 s.2.2.2.2.1 s.2.2.2.2.2.1 s.2.2.2.2.2.2.1 s.2.2.2.2.2.2.2.1 s.2.2.2.2.2.2.2.2, fun s => μ3 s.1 s.2.1 s.2.2.1 s.2.2.2.1 s.2.2.2.2.1 s.2.2.2.2.2.1 s.2.2.2.2.2.2.1 s.2.2.2.2.2.2.2.1 s.2.2.2.2.2.2.2.2, fun e h => (gN e 9, gF e 9, gS e 9, gI e 13, gI e 14, gI e 15, gI e 42, oN h 0, oS h 0), [], [0, 1, 9, 10, 13, 14, 15, 41, 42], [], fun p => ∀ (n9 : Bool) (f9 : Bool) (s9 : LL) (x13 : Int) (x14 : Int) (x15 : Int) (x42 : Int) (n_0 : Bool) (s_0 : LL), p (n9, f9, s9, x13, x14, x15, x42, n_0, s_0), fun p h s => h s.1 s.2.1 s.2.2.1 s.2.2.2.1 s.2.2.2.2.1 s.2.2.2.2.2.1 s.2.2.2.2.2.2.1 s.2.2.2.2.2.2.2.1 s.2.2.2.2.2.2.2.2⟩ | _ => none) (Tryz.f11.body.getD .skip) [.ptr [tc, tg, tj, tf, tp, .mp M, .mp S], .sl n f es, .sl n2 f2 ss] R = ziw tc tg tj tf tp M S n f es n2 f2 ss J μ J2 μ2 J3 μ3 R) h)

def zku (tc tg tj tf tp : PV) (M S : List (PV × PV)) (n f : Bool) (es : LL) (n2 f2 : Bool) (ss : LL) (R : PV → Prop) : Prop :=
 PCall Tryz.prog 11 [PV.ptr [tc, tg, tj, tf, tp, PV.mp M, PV.mp S], PV.sl n f es, PV.sl n2 f2 ss] fun (v : PV) ↦ ∃ (vs : List PV), v = PV.tup vs ∧ vs.length = 3 ∧ ∃ (x : PV), vs.head? = some x ∧ ∃ (n1 : Int), x = Z6 n1 ∧ ∃ (x1 : PV),
 vs.tail.head? = some x1 ∧ ∃ (n3 : Int), x1 = Z6 n3 ∧ ∃ (x2 : PV), vs.tail.tail.head? = some x2 ∧ ∃ (b : Bool), x2 = Zb b ∧ R (Zb b)
theorem zvn (tc tg tj tf tp : PV) (M S : List (PV × PV)) (n f : Bool) (es : LL) (n2 f2 : Bool) (ss : LL) {R : PV → Prop} (h : zku tc tg tj tf tp M S n f es n2 f2 ss R) : PCall Tryz.prog 45 [.ptr [tc, tg, tj, tf, tp, .mp M, .mp S], .sl n f es, .sl n2 f2 ss] R :=
  PCall.of Tryz.func45 (by kernel_rfl) (by kernel_rfl) (Nat.le_of_ble_eq_true (by kernel_rfl)) (Eq.mpr (by kernel_rfl : aFn Tryz.prog (fun _ => none) Tryz.f45 [0, 1, 2, 6, 9] (fun _ => none) (Tryz.f45.body.getD .skip) [.ptr [tc, tg, tj, tf, tp, .mp M, .mp S], .sl n f es, .sl n2 f2 ss] R = zku tc tg tj tf tp M S n f es n2 f2 ss R) h)

def zcr  (R : PV → Prop) : Prop :=
 PCall Tryz.prog 9 [] fun (v : PV) ↦ ∃ (n : Bool), ∃ (f : Bool), ∃ (es : LL), v = PV.sl n f es ∧ PCall Tryz.prog 10 [PV.sl n f es] fun (v1 : PV) ↦ PCall Tryz.prog 11 [v1, PV.sl false true [[Z3 120], [Z3 233], [Z3 121]], PV.sl false true [[Z3
 101], [Z3 769]]] fun (v2 : PV) ↦ ∃ (vs : List PV), v2 = PV.tup vs ∧ vs.length = 3 ∧ ∃ (x : PV), vs.head? = some x ∧ ∃ (n1 : Int), x = Z6 n1 ∧ ∃ (x1 : PV), vs.tail.head? = some x1 ∧ ∃ (n2 : Int), x1 = Z6 n2 ∧ ∃ (x2 : PV), vs.tail.tail.head?
 = some x2 ∧ ∃ (b : Bool), x2 = Zb b ∧ PCall Tryz.prog 11 [v1, PV.sl false true [[Z3 120], [Z3 101], [Z3 769]], PV.sl false true [[Z3 233]]] fun (v3 : PV) ↦ ∃ (vs1 : List PV), v3 = PV.tup vs1 ∧ vs1.length = 3 ∧ ∃ (x3 : PV), vs1.head? = some
 x3 ∧ ∃ (n3 : Int), x3 = Z6 n3 ∧ ∃ (x4 : PV), vs1.tail.head? = some x4 ∧ ∃ (n4 : Int), x4 = Z6 n4 ∧ ∃ (x5 : PV), vs1.tail.tail.head? = some x5 ∧ ∃ (b1 : Bool), x5 = Zb b1 ∧ if (n1 == 1 && n2 == 2 && b && n3 == 1 && n4 == 3 && b1) = true then
 PCall Tryz.prog 45 [v1, PV.sl false true [[Z3 233]], PV.sl false true [[Z3 101]]] fun (v4 : PV) ↦ ∃ (b2 : Bool), v4 = Zb b2 ∧ R (Zb !b2) else R (Zb false)
theorem zhv  {R : PV → Prop} (h : zcr  R) : PCall Tryz.prog 14 [] R :=
  PCall.of Tryz.func14 (by kernel_rfl) (by kernel_rfl) (Nat.le_of_ble_eq_true (by kernel_rfl)) (Eq.mpr (by kernel_rfl : aFn Tryz.prog (fun _ => none) Tryz.f14 [0, 1, 2, 3, 4, 5, 6, 7] (fun _ => none) (Tryz.f14.body.getD .skip) [] R = zcr  R) h)

def zbz (n f : Bool) (es : LL) (n2 f2 : Bool) (ss : LL) (R : PV → Prop) : Prop :=
 PCall Tryz.prog 8 [PV.sl n f es, Z6 30] fun (v : PV) ↦ ∃ (n1 : Bool), ∃ (f1 : Bool), ∃ (es1 : LL), v = PV.sl n1 f1 es1 ∧ PCall Tryz.prog 8 [PV.sl n2 f2 ss, Z6 10] fun (v1 : PV) ↦ ∃ (n3 : Bool), ∃ (f3 : Bool), ∃ (es2 : LL), v1 = PV.sl n3 f3
 es2 ∧ PCall Tryz.prog 9 [] fun (v2 : PV) ↦ ∃ (n4 : Bool), ∃ (f4 : Bool), ∃ (es3 : LL), v2 = PV.sl n4 f4 es3 ∧ PCall Tryz.prog 10 [PV.sl n4 f4 es3] fun (v3 : PV) ↦ PCall Tryz.prog 11 [v3, PV.sl n1 f1 es1, PV.sl n3 f3 es2] fun (v4 : PV) ↦ ∃
 (vs : List PV), v4 = PV.tup vs ∧ vs.length = 3 ∧ ∃ (x : PV), vs.head? = some x ∧ ∃ (n5 : Int), x = Z6 n5 ∧ ∃ (x1 : PV), vs.tail.head? = some x1 ∧ ∃ (n6 : Int), x1 = Z6 n6 ∧ ∃ (x2 : PV), vs.tail.tail.head? = some x2 ∧ ∃ (b : Bool), x2 = Zb b
 ∧ PCall Tryz.prog 12 [PV.sl n4 f4 es3, PV.sl n3 f3 es2] fun (v5 : PV) ↦ ∃ (n7 : Bool), ∃ (f5 : Bool), ∃ (es4 : LL), v5 = PV.sl n7 f5 es4 ∧ PCall Tryz.prog 11 [v3, PV.sl n1 f1 es1, PV.sl n7 f5 es4] fun (v6 : PV) ↦ ∃ (vs1 : List PV), v6 =
 PV.tup vs1 ∧ vs1.length = 3 ∧ ∃ (x3 : PV), vs1.head? = some x3 ∧ ∃ (n8 : Int), x3 = Z6 n8 ∧ ∃ (x4 : PV), vs1.tail.head? = some x4 ∧ ∃ (n9 : Int), x4 = Z6 n9 ∧ ∃ (x5 : PV), vs1.tail.tail.head? = some x5 ∧ ∃ (b1 : Bool), x5 = Zb b1 ∧ PCall
 Tryz.prog 13 [PV.sl n4 f4 es3, PV.sl n3 f3 es2] fun (v7 : PV) ↦ ∃ (n10 : Bool), ∃ (f6 : Bool), ∃ (es5 : LL), v7 = PV.sl n10 f6 es5 ∧ PCall Tryz.prog 11 [v3, PV.sl n1 f1 es1, PV.sl n10 f6 es5] fun (v8 : PV) ↦ ∃ (vs2 : List PV), v8 = PV.tup
 vs2 ∧ vs2.length = 3 ∧ ∃ (x6 : PV), vs2.head? = some x6 ∧ ∃ (n11 : Int), x6 = Z6 n11 ∧ ∃ (x7 : PV), vs2.tail.head? = some x7 ∧ ∃ (n12 : Int), x7 = Z6 n12 ∧ ∃ (x8 : PV), vs2.tail.tail.head? = some x8 ∧ ∃ (b2 : Bool), x8 = Zb b2 ∧ if (n5 ==
 n8 && n6 == n9 && b == b1 && n5 == n11 && n6 == n12 && b == b2) = true then PCall Tryz.prog 14 [] fun (v9 : PV) ↦ ∃ (b3 : Bool), v9 = Zb b3 ∧ R (Zb b3) else R (Zb false)
theorem zgc (n f : Bool) (es : LL) (n2 f2 : Bool) (ss : LL) {R : PV → Prop} (h : zbz n f es n2 f2 ss R) : PCall Tryz.prog 3 [.sl n f es, .sl n2 f2 ss] R :=
  PCall.of Tryz.func3 (by kernel_rfl) (by kernel_rfl) (Nat.le_of_ble_eq_true (by kernel_rfl)) (Eq.mpr (by kernel_rfl : aFn Tryz.prog (fun _ => none) Tryz.f3 [0, 1, 4, 5, 6, 7, 8, 9, 10, 11, 12, 13, 14, 15] (fun _ => none) (Tryz.f3.body.getD .skip) [.sl n f es, .sl n2 f2 ss] R = zbz n f es n2 f2 ss R) h)

end Go.Eng



namespace Go.Eng
open Go Go.Proofs Go.Eng.Rows Go.Eng.Trie Go.Eng.Srt
def z0f : Option (Nat × Nat) → PV
  | some (a, b) => .tup [.int .i64 a, .int .i64 b, .bool true]
  | none => .tup [.int .i64 0, .int .i64 0, .bool false]
def szI (rows : List Row) (L : List Int) (i : Nat) : List (List PV) := (L.take i).map (fun r => [PV.int .i64 (zak rows 8 r).length]) ++ List.replicate (L.length - i) [PV.int .i64 0]
section
variable {rows : List Row} {v : PV}
theorem zye {L : List Int} {i : Nat} (h : i ≤ L.length) : (szI rows L i).length = L.length := by
  unfold szI
  rw [List.length_append, List.length_map, List.length_take, List.length_replicate]; omega
theorem z3b {L : List Int} {i : Nat} (h : i < L.length) : (szI rows L i).getD i [] = [PV.int .i64 0] := by
  unfold szI
  rw [List.getD, List.getElem?_append_right (by rw [List.length_map, List.length_take]; omega), List.length_map, List.length_take, List.getElem?_replicate, if_pos (by omega)]; rfl
theorem z3c {L : List Int} {i : Nat} (h : i < L.length) : (szI rows L i).set i [PV.int .i64 (zak rows 8 L[i]).length] = szI rows L (i + 1) := by
  unfold szI
  rw [List.set_append_right _ _ (by rw [List.length_map, List.length_take]; omega), List.length_map, List.length_take, z4d h, List.map_append, List.append_assoc]
  congr 1
  rw [show i - min i L.length = 0 by omega, show L.length - i = (L.length - (i + 1)) + 1 by omega, List.replicate_succ, List.set_cons_zero]; rfl
theorem z4f {L : List Int} {i : Nat} (h : i < L.length) : (szI rows L L.length).getD i [] = [PV.int .i64 (zak rows 8 L[i]).length] := by
  unfold szI
  rw [Nat.sub_self, List.replicate_zero, List.append_nil, List.take_length, List.getD, List.getElem?_map, List.getElem?_eq_getElem h]; rfl
theorem z0g (rows : List Row) (L : List Int) : findL rows L [] = some (0, 0) := by
  unfold Rows.findL
  rw [fOut, Nat.sub_zero, fTo, if_pos (by unfold hitB; rw [zp0]; exact decide_eq_true rfl)]
theorem sets (es : List (List PV)) (k : Nat) (w x : PV) (h : es.getD k [] = [x]) : es.set k (w :: List.append._f [] PUnit.unit (List.drop 1 (es.getD k []))) = es.set k [w] := by rw [h]; rfl
theorem z3d {L : List Int} (h : R32 L) (i j : Nat) : R32 (subL L i j) := fun x hx => h x (List.mem_of_mem_take (List.mem_of_mem_drop hx))
theorem z3e (hp : zat rows) (hk : zdl rows) (hv : zmy rows v) (n f n2 f2 : Bool) (L P : List Int) (hr : R32 L) (hL : L.length < 100000) (hr2 : R32 P) (hL2 : P.length < 1000000) :
    PCall Tryz.prog 11 [v, .sl n f (i32s L), .sl n2 f2 (i32s P)] fun x => x = z0f (findL rows L (nfdL rows P)) := by
  have hv' := hv
  obtain ⟨tc, tg, tj, tf, tp, made, sec, rfl, ht, hm⟩ := hv
  have hwl := zpw hk P
  refine zs0 _ _ _ _ _ _ _ _ _ _ _ _ _
    (fun _ _ s i _ z => s = i32s (nfdL rows P) ∧ (0 ≤ i ∧ i ≤ L.length) ∧ z = szI rows L i.toNat) (fun _ _ _ i _ _ => L.length - i.toNat)
    (fun _ _ s i _ z => s = i32s (nfdL rows P) ∧ (0 ≤ i ∧ i ≤ L.length) ∧ z = szI rows L L.length ∧ findL rows L (nfdL rows P) = fOut rows L (nfdL rows P) i.toNat (L.length + 1 - i.toNat)) (fun _ _ _ i _ _ => L.length - i.toNat)
    (fun _ _ _ y13 _ _ _ _ _ _ _ s x13 x14 x15 x42 _ z => (y13 = x13 ∧ y13 = x42) ∧ s = i32s (nfdL rows P) ∧ (0 ≤ y13 ∧ y13 < L.length ∧ y13 ≤ x15 ∧ x15 ≤ L.length) ∧ z = szI rows L L.length ∧ x14 = (szS rows L y13.toNat x15.toNat : Nat) ∧ findL rows L (nfdL rows P) = zna rows L (nfdL rows P) y13.toNat (x15.toNat + 1)) (fun _ _ _ _ _ x15 _ _ _ => L.length - x15.toNat) ?_
  unfold ziw
  refine (qNFD hp hk hv' n2 f2 P hr2 hL2).mono ?_
  rintro _ ⟨n1, f1, rfl⟩
  refine ⟨_, _, _, rfl, iteD (fun hc => ?_) (fun hc => ?_)⟩
  · simp only [beq_iff_eq, zac] at hc
    have : nfdL rows P = [] := List.eq_nil_of_length_eq_zero (by omega)
    rw [this, z0g]; rfl
  simp only [beq_iff_eq, zac] at hc
  have hw0 : nfdL rows P ≠ [] := fun e => by rw [e] at hc; exact hc rfl
  generalize hwant : nfdL rows P = want at *
  have hl8 : ((i32s L).length : Int) = L.length := by rw [zac]
  rw [hl8]
  refine ⟨⟨by omega, Int.le_refl _, by omega, by omega⟩, ⟨rfl, rfl, ⟨Int.le_refl _, by omega⟩, ?_⟩, ?_⟩
  · unfold szI; simp
  rintro n9 f9 _ i n0 _ ⟨rfl, ⟨i0, i1⟩, rfl⟩
  refine iteD (fun hc => ?_) (fun hc => ?_)
  · simp only [decide_eq_true_eq] at hc
    have hi : i.toNat < L.length := by omega
    obtain ⟨g1, g2⟩ := zh5 i0 hi
    have hx := hr _ (List.getElem_mem hi)
    have hw : IntKind.i64.wrap (i + 1) = i + 1 := zaa (by omega) (by omega)
    have hzl := zye (rows := rows) (L := L) (i := i.toNat) (by omega)
    have hzg := z3b (rows := rows) hi
    refine ⟨g1, L[i.toNat], by rw [g2]; rfl, ?_⟩
    refine (z5f hp hv' hx).mono ?_
    rintro _ ⟨n3, rfl⟩
    rw [hw]
    refine ⟨_, _, _, rfl, ⟨i0, by rw [hzl]; omega, by rw [hzg]; rfl⟩, ⟨rfl, by rw [hzg]; exact Nat.le_refl _⟩, rfl, ⟨rfl, by omega, ?_⟩, by dsimp only; omega⟩
    · rw [sets _ _ _ _ hzg, show (i + 1).toNat = i.toNat + 1 by omega, ← z3c hi, zac]
  · simp only [decide_eq_true_eq] at hc
    have hie : i.toNat = L.length := by omega
    rw [hie]
    refine ⟨⟨rfl, rfl, ⟨Int.le_refl _, by omega⟩, rfl, rfl⟩, ?_⟩
    clear hc hie i0 i1 i
    rintro n4 f4 _ i n5 _ ⟨rfl, ⟨i0, i1⟩, rfl, hf⟩
    refine iteD (fun hc => ?_) (fun hc => ?_)
    · simp only [decide_eq_true_eq] at hc
      have hz0 : szS rows L i.toNat i.toNat = 0 := by unfold szS; rw [zp0]; rfl
      refine ⟨⟨rfl, ⟨rfl, rfl⟩, rfl, ⟨i0, hc, Int.le_refl _, i1⟩, rfl, by rw [hz0]; rfl, by rw [hf]; exact znb hw0 (by omega)⟩, ?_⟩
      rintro n6 f6 _ _ _ j _ n7 _ ⟨⟨rfl, rfl⟩, rfl, ⟨_, _, j0, j1⟩, rfl, rfl, hf2⟩
      have hw : IntKind.i64.wrap (i + 1) = i + 1 := zaa (by omega) (by omega)
      rw [hw]
      have nextI : (∀ k, j.toNat + 1 + k ≤ L.length → hitB rows L want i.toNat (j.toNat + 1 + k) = false) → findL rows L want = fOut rows L want (i + 1).toNat (L.length + 1 - (i + 1).toNat) := fun h => by
        rw [hf2, zop h, show (i + 1).toNat = i.toNat + 1 by omega]
      refine iteD (fun hc2 => ?_) (fun hc2 => ?_)
      · simp only [decide_eq_true_eq] at hc2
        have hj : j.toNat < L.length := by omega
        have hzl := zye (rows := rows) (L := L) (i := L.length) (Nat.le_refl _)
        have hzg := z4f (rows := rows) hj
        have hsn := zuh rows (L := L) (a := i.toNat) (b := j.toNat) (by omega) hj
        have hle := z4e rows L i.toNat (j.toNat + 1)
        have hwn : IntKind.i64.wrap ((szS rows L i.toNat j.toNat : Nat) + ((zak rows 8 L[j.toNat]).length : Int)) = (szS rows L i.toNat (j.toNat + 1) : Nat) := by
          rw [hsn]
          have : ((szS rows L i.toNat j.toNat : Nat) : Int) + ((zak rows 8 L[j.toNat]).length : Int) = ((szS rows L i.toNat j.toNat + (zak rows 8 L[j.toNat]).length : Nat) : Int) := by omega
          rw [this]; exact zaa (by omega) (by omega)
        have hwj : IntKind.i64.wrap (j + 1) = j + 1 := zaa (by omega) (by omega)
        refine ⟨⟨by omega, by rw [hzl]; omega, by rw [hzg]; rfl⟩, (zak rows 8 L[j.toNat]).length, by rw [hzg]; rfl, ?_⟩
        rw [hwn, hwj, zac]
        have nextJ : hitB rows L want i.toNat (j.toNat + 1) = false → findL rows L want = zna rows L want i.toNat ((j + 1).toNat + 1) := fun h => by
          rw [hf2, zvm (by omega) h, show (j + 1).toNat = j.toNat + 1 by omega]
        have hj1 : (j + 1).toNat = j.toNat + 1 := by omega
        refine iteD (fun h3 => ?_) (fun h3 => ?_)
        · simp only [gt_iff_lt, decide_eq_true_eq] at h3
          exact ⟨rfl, ⟨rfl, ⟨by omega, by omega⟩, rfl, nextI fun k hk2 => z0d hk (by omega) (by omega) k hk2⟩, by dsimp only; omega⟩
        · simp only [gt_iff_lt, decide_eq_true_eq] at h3
          refine iteD (fun h4 => ?_) (fun h4 => ?_)
          · simp only [beq_iff_eq] at h4
            rw [z29, hj1]
            refine ⟨⟨z5d (by omega) (by omega) (by rw [zac]; omega), zcf _⟩, ?_⟩
            have hsl := z0e L i.toNat (j.toNat + 1)
            have hnl := ziv hk L i.toNat (j.toNat + 1)
            refine (qNFD hp hk hv' _ _ _ (z3d hr _ _) (by omega)).mono ?_
            rintro _ ⟨n8, f8, rfl⟩
            refine ⟨_, _, _, rfl, ?_⟩
            refine (pSEq _ _ _ _ _ _ (by omega)).mono ?_
            rintro _ rfl
            refine ⟨_, rfl, iteD (fun h5 => ?_) (fun h5 => ?_)⟩
            · rw [hf2, zyc (by omega) h5]
              show _ = PV.tup [.int .i64 (i.toNat : Int), .int .i64 ((j.toNat + 1 : Nat) : Int), .bool true]
              rw [show (i.toNat : Int) = i by omega, show ((j.toNat + 1 : Nat) : Int) = j + 1 by omega]
            · exact ⟨rfl, ⟨⟨rfl, rfl⟩, rfl, ⟨i0, hc, by omega, by omega⟩, rfl, by rw [hj1], nextJ (by simpa [hitB] using h5)⟩, by dsimp only; omega⟩
          · simp only [beq_iff_eq] at h4
            exact ⟨rfl, ⟨⟨rfl, rfl⟩, rfl, ⟨i0, hc, by omega, by omega⟩, rfl, by rw [hj1], nextJ (z26 hk (by omega))⟩, by dsimp only; omega⟩
      · simp only [decide_eq_true_eq] at hc2
        exact ⟨rfl, ⟨rfl, ⟨by omega, by omega⟩, rfl, nextI fun k hk2 => by omega⟩, by dsimp only; omega⟩
    · simp only [decide_eq_true_eq] at hc
      have hie : i.toNat = L.length := by omega
      rw [hf, hie, z28 hw0]; rfl
theorem qHas (hp : zat rows) (hk : zdl rows) (hv : zmy rows v) (n f n2 f2 : Bool) (L P : List Int) (hr : R32 L) (hL : L.length < 100000) (hr2 : R32 P) (hL2 : P.length < 1000000) :
    PCall Tryz.prog 45 [v, .sl n f (i32s L), .sl n2 f2 (i32s P)] fun x => x = .bool (findL rows L (nfdL rows P)).isSome := by
  have hv' := hv
  obtain ⟨tc, tg, tj, tf, tp, made, sec, rfl, ht, hm⟩ := hv
  refine zvn _ _ _ _ _ _ _ _ _ _ _ _ _ ?_; unfold zku
  refine (z3e hp hk hv' n f n2 f2 L P hr hL hr2 hL2).mono ?_
  rintro _ rfl
  cases findL rows L (nfdL rows P) with
  | none => exact ⟨_, rfl, rfl, _, rfl, _, rfl, _, rfl, _, rfl, _, rfl, _, rfl, rfl⟩
  | some p => exact ⟨_, rfl, rfl, _, rfl, _, rfl, _, rfl, _, rfl, _, rfl, _, rfl, rfl⟩
end
theorem f1' : findL tab [120, 233, 121] (nfdL tab [101, 769]) = some (1, 2) := by kernel_rfl
theorem f2' : findL tab [120, 101, 769] (nfdL tab [233]) = some (1, 3) := by kernel_rfl
theorem f3' : findL tab [233] (nfdL tab [101]) = none := by kernel_rfl
theorem awake21 : PCall Tryz.prog 14 [] fun v => v = .bool true := by
  refine zhv ?_; unfold zcr
  refine p42.mono ?_
  rintro _ ⟨n, f, rfl⟩
  refine ⟨_, _, _, rfl, ?_⟩
  refine (z0y n f).mono fun t ht => ?_
  have ff : ∀ (l m : List Int), l.length < 10 → m.length < 10 → R32 l → R32 m → PCall Tryz.prog 11 [t, .sl false true (i32s l), .sl false true (i32s m)] fun x => x = z0f (findL tab l (nfdL tab m)) := fun l m h1 h2 r1 r2 =>
    z3e zd7 ze8 ht _ _ _ _ l m r1 (by omega) r2 (by omega)
  refine (ff [120, 233, 121] [101, 769] (by simp) (by simp) (fun x hx => by simp at hx; omega) (fun x hx => by simp at hx; omega)).mono ?_
  rintro _ rfl
  rw [f1']
  refine ⟨_, rfl, rfl, _, rfl, _, rfl, _, rfl, _, rfl, _, rfl, _, rfl, ?_⟩
  refine (ff [120, 101, 769] [233] (by simp) (by simp) (fun x hx => by simp at hx; omega) (fun x hx => by simp at hx; omega)).mono ?_
  rintro _ rfl
  rw [f2']
  refine ⟨_, rfl, rfl, _, rfl, _, rfl, _, rfl, _, rfl, _, rfl, _, rfl, iteT rfl ?_⟩
  refine (qHas zd7 ze8 ht _ _ _ _ [233] [101] (fun x hx => by simp at hx; omega) (by simp) (fun x hx => by simp at hx; omega) (by simp)).mono ?_
  rintro _ rfl
  rw [f3']
  exact ⟨_, rfl, rfl⟩
end Go.Eng



namespace Go.Eng.Srt
open Go Go.Eng
section
variable {key : Int → Int} (hk : ∀ x, 0 ≤ key x)
include hk
end
end Go.Eng.Srt
namespace Go.Eng.Rows
open Go Go.Eng Go.Eng.Trie Go.Eng.Srt
section
variable {rows : List Row}
def CSt.pre (Q : List Int) (st : CSt) : CSt := ⟨Q ++ st.P, st.s, st.M⟩
end
end Go.Eng.Rows



namespace Go.Eng.Rows
open Go Go.Eng Go.Eng.Trie Go.Eng.Srt
section
variable {rows : List Row}
theorem z0h {r : Int} (h : outG rows r = false) (hn : zag rows r ≠ (0, 0)) : (zag rows r).2 ≠ 0 ∧ numG rows 1 r = 0 ∧ numG rows 1 (zag rows r).1 = 0 := by
  unfold outG at h
  simp [hn] at h
  exact ⟨h.1, h.2.2.1, h.2.2.2⟩
theorem zyf (h1 : zce rows) (hks : ∀ r, sylB r = true → numG rows 1 r = 0) {a b c : Int} (h : zj0 rows a b = some c) : numG rows 1 c = 0 := by
  unfold zj0 at h
  split at h
  · rename_i s hj; cases h; exact hks _ (zpz hj)
  · obtain ⟨q1, q2, q3, _⟩ := zpy h1 h
    exact (z0h q3 (by rw [q1]; intro e; exact q2 (Prod.mk.inj e).2)).2.1
theorem z0i (h1 : zce rows) (hks : ∀ r, sylB r = true → numG rows 1 r = 0) (d : List Int) : ∀ a, (zah rows d).s = some a → numG rows 1 a = 0 := by
  induction d using zdx with
  | h0 => intro a h; cases h
  | h1 d r ih =>
    rw [zaq]
    rcases ze9 rows (zah rows d) r with e | ⟨b, c, hs, hp, _, e⟩
    · rw [e]
      unfold cApp
      split
      · rename_i h0; intro a h; cases h; exact h0
      · exact ih
    · rw [e]
      intro a h; cases h; exact zyf h1 hks hp
end
end Go.Eng.Rows



namespace Go.Eng
open Go Go.Proofs
def zc1 (a b : Int) (R : PV → Prop) : Prop :=
 if (decide (a ≥ 4352) && decide (a ≤ 4370) && decide (b ≥ 4449) && decide (b ≤ 4469)) = true then R (PV.tup [Z3 (IntKind.i32.wrap (IntKind.i64.wrap (IntKind.i64.wrap ((44032 : Int) + IntKind.i64.wrap (IntKind.i64.wrap (IntKind.i64.wrap a -
 4352) * 588)) + IntKind.i64.wrap (IntKind.i64.wrap (IntKind.i64.wrap b - 4449) * 28)))), Zb true]) else ACall Tryz.prog 73 [LV.pv (Z3 a)] [] fun (r : LV) (h' : Hp) ↦ (∃ (t : Bool × LL), (r = LV.own 0 ∧ h' = [Ob.sl (21, 1) true t.fst t.snd])
 ∧ True ∧ if ((↑t.snd.length : Int) == 2 && decide (b ≥ 4520) && decide (b ≤ 4546)) = true then R (PV.tup [Z3 (IntKind.i32.wrap (a + IntKind.i32.wrap (b - 4519))), Zb true]) else R (PV.tup [Z3 0, Zb false])) ∨ ∃ (t : Bool × LL), (r = LV.pv
 (PV.sl t.fst true t.snd) ∧ h' = []) ∧ True ∧ if ((↑t.snd.length : Int) == 2 && decide (b ≥ 4520) && decide (b ≤ 4546)) = true then R (PV.tup [Z3 (IntKind.i32.wrap (a + IntKind.i32.wrap (b - 4519))), Zb true]) else R (PV.tup [Z3 0, Zb
 false])
theorem zix (a b : Int) {R : PV → Prop} (h : zc1 a b R) : PCall Tryz.prog 103 [.int .i32 a, .int .i32 b] R :=
  PCall.of Tryz.func103 (by kernel_rfl) (by kernel_rfl) (Nat.le_of_ble_eq_true (by kernel_rfl)) (Eq.mpr (by kernel_rfl : aFn Tryz.prog (fun zz_ => match zz_ with | 73 => some ⟨Bool × LL, fun _ hs t => (.own hs.length, hs ++ [.sl (21, 1) true t.1 t.2]), some ⟨Bool × LL, fun _ hs t => (.pv (.sl t.1 true t.2), hs)⟩⟩ | _ => none) Tryz.f103 [0, 1, 4, 5, 6, 20, 44] (fun _ => none) (Tryz.f103.body.getD .skip) [.int .i32 a, .int .i32 b] R = zc1 a b R) h)

def zk6 (n f : Bool) (es : LL) (a b : Int) (x8 : Int) (x9 : Bool) (x10 : Int) : Env × Hp := ([(0, LV.pv (PV.sl n f es)), (1, LV.pv (PV.int IntKind.i32 a)), (2, LV.pv (PV.int IntKind.i32 b)), (8, .pv (.int IntKind.i32 x8)), (9, .pv (.bool x9)), (10, .pv (.int IntKind.i64 x10))], [])
def zb7 (n f : Bool) (es : LL) (a b : Int) (J : Int → Bool → Int → Prop) (μ : Int → Bool → Int → Nat) (R : PV → Prop) : Prop :=
 (zab (zk6 n f es a b (0 : Int) false (0 : Int)) ∧ J (0 : Int) false (0 : Int)) ∧ ∀ (x8 : Int) (x9 : Bool) (x10 : Int), J x8 x9 x10 → if decide (x10 < (↑es.length : Int)) = true then zam es x10 5 ∧ ∃ (n1 : Int), (List.drop 0 (es.getD
 x10.toNat [])).head? = some (Z6 n1) ∧ if (n1 != 2) = true then zab (zk6 n f es a b x8 x9 (IntKind.i64.wrap (x10 + 1))) ∧ J x8 x9 (IntKind.i64.wrap (x10 + 1)) ∧ μ x8 x9 (IntKind.i64.wrap (x10 + 1)) < μ x8 x9 x10 else zam es x10 5 ∧ ∃
 (n2 : Int), (List.drop 3 (es.getD x10.toNat [])).head? = some (Z6 n2) ∧ if (n2 != IntKind.i64.wrap a) = true then zab (zk6 n f es a b x8 x9 (IntKind.i64.wrap (x10 + 1))) ∧ J x8 x9 (IntKind.i64.wrap (x10 + 1)) ∧ μ x8 x9
 (IntKind.i64.wrap (x10 + 1)) < μ x8 x9 x10 else zam es x10 5 ∧ ∃ (n3 : Int), (List.drop 4 (es.getD x10.toNat [])).head? = some (Z6 n3) ∧ if (n3 != IntKind.i64.wrap b || b == 0) = true then zab (zk6 n f es a b x8 x9 (IntKind.i64.wrap
 (x10 + 1))) ∧ J x8 x9 (IntKind.i64.wrap (x10 + 1)) ∧ μ x8 x9 (IntKind.i64.wrap (x10 + 1)) < μ x8 x9 x10 else zam es x10 5 ∧ ∃ (n4 : Int), (List.drop 1 (es.getD x10.toNat [])).head? = some (Z6 n4) ∧ PCall Tryz.prog 74 [PV.sl n f es, Z3
 (IntKind.i32.wrap n4)] fun (v : PV) ↦ ∃ (vs : List PV), v = PV.tup vs ∧ vs.length = 3 ∧ ∃ (x : PV), vs.head? = some x ∧ ∃ (n5 : Int), x = Z3 n5 ∧ ∃ (x1 : PV), vs.tail.head? = some x1 ∧ ∃ (n6 : Int), x1 = Z3 n6 ∧ ∃ (x2 : PV),
 vs.tail.tail.head? = some x2 ∧ ∃ (b1 : Bool), x2 = Zb b1 ∧ if (b1 && n5 == a && n6 == b) = true then PCall Tryz.prog 121 [PV.sl n f es, Z3 (IntKind.i32.wrap n4)] fun (v1 : PV) ↦ ∃ (b2 : Bool), v1 = Zb b2 ∧ if (!b2 && (!x9 || decide
 (IntKind.i32.wrap n4 < x8))) = true then zab (zk6 n f es a b (IntKind.i32.wrap n4) true (IntKind.i64.wrap (x10 + 1))) ∧ J (IntKind.i32.wrap n4) true (IntKind.i64.wrap (x10 + 1)) ∧ μ (IntKind.i32.wrap n4) true (IntKind.i64.wrap (x10 +
 1)) < μ x8 x9 x10 else zab (zk6 n f es a b x8 x9 (IntKind.i64.wrap (x10 + 1))) ∧ J x8 x9 (IntKind.i64.wrap (x10 + 1)) ∧ μ x8 x9 (IntKind.i64.wrap (x10 + 1)) < μ x8 x9 x10 else zab (zk6 n f es a b x8 x9 (IntKind.i64.wrap (x10 +
 1))) ∧ J x8 x9 (IntKind.i64.wrap (x10 + 1)) ∧ μ x8 x9 (IntKind.i64.wrap (x10 + 1)) < μ x8 x9 x10 else R (PV.tup [Z3 x8, Zb x9])
theorem zgj (n f : Bool) (es : LL) (a b : Int) (J : Int → Bool → Int → Prop) (μ : Int → Bool → Int → Nat) {R : PV → Prop} (h : zb7 n f es a b J μ R) : PCall Tryz.prog 104 [.sl n f es, .int .i32 a, .int .i32 b] R :=
  PCall.of Tryz.func104 (by kernel_rfl) (by kernel_rfl) (Nat.le_of_ble_eq_true (by kernel_rfl)) (Eq.mpr (by kernel_rfl : aFn Tryz.prog (fun _ => none) Tryz.f104 [0, 1, 2, 6, 7, 8, 9, 10, 11, 12, 13, 14, 18, 50, 89] (fun zz_ => match zz_ with | 4 => some ⟨Int × Bool × Int, fun s => zk6 n f es a b s.1 s.2.1 s.2.2, fun _ s => J s.1 s.2.1 s.2.2, fun s => μ s.1 s.2.1 s.2.2, fun e h => (gI e 8, gB e 9, gI e 10), [], [0, 1, 2, 8, 9, 10], [], fun p => ∀ (x8 : Int) (x9 : Bool) (x10 : Int), p (x8, x9, x10), fun p h s => h s.1 s.2.1 s.2.2⟩ | _ => none) (Tryz.f104.body.getD .skip) [.sl n f es, .int .i32 a, .int .i32 b] R = zb7 n f es a b J μ R) h)

def zc2 (n f : Bool) (es : LL) (a b : Int) (R : PV → Prop) : Prop :=
 PCall Tryz.prog 103 [Z3 a, Z3 b] fun (v : PV) ↦ ∃ (vs : List PV), v = PV.tup vs ∧ vs.length = 2 ∧ ∃ (x : PV), vs.head? = some x ∧ ∃ (n1 : Int), x = Z3 n1 ∧ ∃ (x1 : PV), vs.tail.head? = some x1 ∧ ∃ (b1 : Bool), x1 = Zb b1 ∧ if b1 = true then
 R (PV.tup [Z3 n1, Zb true]) else PCall Tryz.prog 104 [PV.sl n f es, Z3 a, Z3 b] fun (v1 : PV) ↦ ∃ (vs1 : List PV), v1 = PV.tup vs1 ∧ vs1.length = 2 ∧ ∃ (x2 : PV), vs1.head? = some x2 ∧ ∃ (n2 : Int), x2 = Z3 n2 ∧ ∃ (x3 : PV), vs1.tail.head?
 = some x3 ∧ ∃ (b2 : Bool), x3 = Zb b2 ∧ R (PV.tup [Z3 n2, Zb b2])
theorem ziy (n f : Bool) (es : LL) (a b : Int) {R : PV → Prop} (h : zc2 n f es a b R) : PCall Tryz.prog 78 [.sl n f es, .int .i32 a, .int .i32 b] R :=
  PCall.of Tryz.func78 (by kernel_rfl) (by kernel_rfl) (Nat.le_of_ble_eq_true (by kernel_rfl)) (Eq.mpr (by kernel_rfl : aFn Tryz.prog (fun _ => none) Tryz.f78 [0, 1, 2, 6, 7, 8, 9, 16] (fun _ => none) (Tryz.f78.body.getD .skip) [.sl n f es, .int .i32 a, .int .i32 b] R = zc2 n f es a b R) h)

def z3f (n f : Bool) (es : LL) (n2 f2 : Bool) (ss : LL) (x5 : Int) : Env × Hp := ([(0, LV.pv (PV.sl n f es)), (1, LV.pv (PV.sl n2 f2 ss)), (5, .pv (.int IntKind.i64 x5))], [])
def zcs (n f : Bool) (es : LL) (n2 f2 : Bool) (ss : LL) (J : Int → Prop) (μ : Int → Nat) (R : PV → Prop) : Prop :=
 (zab (z3f n f es n2 f2 ss (IntKind.i64.wrap ((↑ss.length : Int) - 1))) ∧ J (IntKind.i64.wrap ((↑ss.length : Int) - 1))) ∧ ∀ (x5 : Int), J x5 → if decide (x5 ≥ 0) = true then zam ss x5 1 ∧ ∃ (n1 : Int), (ss.getD x5.toNat []).head? =
 some (Z3 n1) ∧ PCall Tryz.prog 75 [PV.sl n f es, Z3 n1] fun (v : PV) ↦ ∃ (n3 : Int), v = Z6 n3 ∧ if (n3 == 0) = true then R (Z6 x5) else zab (z3f n f es n2 f2 ss (IntKind.i64.wrap (x5 - 1))) ∧ J (IntKind.i64.wrap (x5 - 1)) ∧ μ
 (IntKind.i64.wrap (x5 - 1)) < μ x5 else R (Z6 (-1 : Int))
theorem zhw (n f : Bool) (es : LL) (n2 f2 : Bool) (ss : LL) (J : Int → Prop) (μ : Int → Nat) {R : PV → Prop} (h : zcs n f es n2 f2 ss J μ R) : PCall Tryz.prog 76 [.sl n f es, .sl n2 f2 ss] R :=
  PCall.of Tryz.func76 (by kernel_rfl) (by kernel_rfl) (Nat.le_of_ble_eq_true (by kernel_rfl)) (Eq.mpr (by kernel_rfl : aFn Tryz.prog (fun _ => none) Tryz.f76 [0, 1, 4, 5, 10, 19] (fun zz_ => match zz_ with | 2 => some ⟨Int × Unit, fun s => z3f n f es n2 f2 ss s.1, fun _ s => J s.1, fun s => μ s.1, fun e h => (((gI e 5), ())), [], [0, 1, 5], [], fun p => ∀ (x5 : Int), p (x5, ()), fun p h s => h s.1⟩ | _ => none) (Tryz.f76.body.getD .skip) [.sl n f es, .sl n2 f2 ss] R = zcs n f es n2 f2 ss J μ R) h)

def zc3 (n f : Bool) (es : LL) (n2 f2 : Bool) (ss : LL) (k r : Int) (R : PV → Prop) : Prop :=
 if (k == IntKind.i64.wrap ((↑ss.length : Int) - 1)) = true then R (Zb true) else zam ss (IntKind.i64.wrap ((↑ss.length : Int) - 1)) 1 ∧ ∃ (n1 : Int), (ss.getD (IntKind.i64.wrap ((↑ss.length : Int) - 1)).toNat []).head? = some (Z3 n1) ∧
 PCall Tryz.prog 75 [PV.sl n f es, Z3 n1] fun (v : PV) ↦ ∃ (n3 : Int), v = Z6 n3 ∧ PCall Tryz.prog 75 [PV.sl n f es, Z3 r] fun (v1 : PV) ↦ ∃ (n4 : Int), v1 = Z6 n4 ∧ R (Zb (decide (n3 < n4)))
theorem ziz (n f : Bool) (es : LL) (n2 f2 : Bool) (ss : LL) (k r : Int) {R : PV → Prop} (h : zc3 n f es n2 f2 ss k r R) : PCall Tryz.prog 77 [.sl n f es, .sl n2 f2 ss, .int .i64 k, .int .i32 r] R :=
  PCall.of Tryz.func77 (by kernel_rfl) (by kernel_rfl) (Nat.le_of_ble_eq_true (by kernel_rfl)) (Eq.mpr (by kernel_rfl : aFn Tryz.prog (fun _ => none) Tryz.f77 [0, 1, 2, 3, 8, 13] (fun _ => none) (Tryz.f77.body.getD .skip) [.sl n f es, .sl n2 f2 ss, .int .i64 k, .int .i32 r] R = zc3 n f es n2 f2 ss k r R) h)

def zvo (n f : Bool) (es : LL) (n2 f2 : Bool) (ss : LL) (x6 : Int) (n_0 : Bool) (s_0 : LL) : Env × Hp := ([(0, LV.pv (PV.sl n f es)), (1, LV.pv (PV.sl n2 f2 ss)), (5, LV.own 0), (6, .pv (.int IntKind.i64 x6))], [.sl (21, 1) true n_0 s_0])
def zb8 (n f : Bool) (es : LL) (n2 f2 : Bool) (ss : LL) (J : Int → Bool → (LL) → Prop) (μ : Int → Bool → (LL) → Nat) (R : PV → Prop) : Prop :=
 (zab (zvo n f es n2 f2 ss (0 : Int) true []) ∧ J (0 : Int) true []) ∧ ∀ (x6 : Int) (n_0 : Bool) (s_0 : LL), J x6 n_0 s_0 → if decide (x6 < (↑ss.length : Int)) = true then PCall Tryz.prog 76 [PV.sl n f es, PV.sl n_0 false s_0] fun (v :
 PV) ↦ ∃ (n1 : Int), v = Z6 n1 ∧ true = true ∧ if decide (n1 ≥ 0) = true then zam ss x6 1 ∧ ∃ (n3 : Int), (ss.getD x6.toNat []).head? = some (Z3 n3) ∧ PCall Tryz.prog 77 [PV.sl n f es, PV.sl n_0 false s_0, Z6 n1, Z3 n3] fun (v1 : PV) ↦ ∃
 (b : Bool), v1 = Zb b ∧ true = true ∧ if b = true then zam s_0 n1 1 ∧ ∃ (n4 : Int), (List.drop 0 (s_0.getD n1.toNat [])).head? = some (Z3 n4) ∧ zam ss x6 1 ∧ ∃ (n5 : Int), (ss.getD x6.toNat []).head? = some (Z3 n5) ∧ PCall Tryz.prog 78
 [PV.sl n f es, Z3 n4, Z3 n5] fun (v2 : PV) ↦ ∃ (vs : List PV), v2 = PV.tup vs ∧ vs.length = 2 ∧ ∃ (x : PV), vs.head? = some x ∧ ∃ (n6 : Int), x = Z3 n6 ∧ ∃ (x1 : PV), vs.tail.head? = some x1 ∧ ∃ (b1 : Bool), x1 = Zb b1 ∧ if b1 = true then
 zam s_0 n1 1 ∧ (1 = 1 ∧ 1 ≤ (s_0.getD n1.toNat []).length) ∧ zab (zvo n f es n2 f2 ss (IntKind.i64.wrap (x6 + 1)) n_0 (s_0.set n1.toNat (Z3 n6 :: List.append._f [] PUnit.unit (List.drop 1 (s_0.getD n1.toNat []))))) ∧ J
 (IntKind.i64.wrap (x6 + 1)) n_0 (s_0.set n1.toNat (Z3 n6 :: List.append._f [] PUnit.unit (List.drop 1 (s_0.getD n1.toNat [])))) ∧ μ (IntKind.i64.wrap (x6 + 1)) n_0 (s_0.set n1.toNat (Z3 n6 :: List.append._f [] PUnit.unit (List.drop 1
 (s_0.getD n1.toNat [])))) < μ x6 n_0 s_0 else zam ss x6 1 ∧ ∃ (n7 : Int), (ss.getD x6.toNat []).head? = some (Z3 n7) ∧ (szOK [[Z3 n7]] 1 ∧ (s_0.length + 1) * 4 ≤ 140737488355328) ∧ zab (zvo n f es n2 f2 ss (IntKind.i64.wrap (x6 + 1))
 (n_0 && false) (s_0 ++ [[Z3 n7]])) ∧ J (IntKind.i64.wrap (x6 + 1)) (n_0 && false) (s_0 ++ [[Z3 n7]]) ∧ μ (IntKind.i64.wrap (x6 + 1)) (n_0 && false) (s_0 ++ [[Z3 n7]]) < μ x6 n_0 s_0 else zam ss x6 1 ∧ ∃ (n4 : Int), (ss.getD x6.toNat
 []).head? = some (Z3 n4) ∧ (szOK [[Z3 n4]] 1 ∧ (s_0.length + 1) * 4 ≤ 140737488355328) ∧ zab (zvo n f es n2 f2 ss (IntKind.i64.wrap (x6 + 1)) (n_0 && false) (s_0 ++ [[Z3 n4]])) ∧ J (IntKind.i64.wrap (x6 + 1)) (n_0 && false) (s_0 ++ [[Z3
 n4]]) ∧ μ (IntKind.i64.wrap (x6 + 1)) (n_0 && false) (s_0 ++ [[Z3 n4]]) < μ x6 n_0 s_0 else zam ss x6 1 ∧ ∃ (n3 : Int), (ss.getD x6.toNat []).head? = some (Z3 n3) ∧ (szOK [[Z3 n3]] 1 ∧ (s_0.length + 1) * 4 ≤ 140737488355328) ∧ zab
 (zvo n f es n2 f2 ss (IntKind.i64.wrap (x6 + 1)) (n_0 && false) (s_0 ++ [[Z3 n3]])) ∧ J (IntKind.i64.wrap (x6 + 1)) (n_0 && false) (s_0 ++ [[Z3 n3]]) ∧ μ (IntKind.i64.wrap (x6 + 1)) (n_0 && false) (s_0 ++ [[Z3 n3]]) < μ x6 n_0 s_0 else R
 (PV.sl n_0 false s_0)
theorem zgk (n f : Bool) (es : LL) (n2 f2 : Bool) (ss : LL) (J : Int → Bool → (LL) → Prop) (μ : Int → Bool → (LL) → Nat) {R : PV → Prop} (h : zb8 n f es n2 f2 ss J μ R) : PCall Tryz.prog 44 [.sl n f es, .sl n2 f2 ss] R :=
  PCall.of Tryz.func44 (by kernel_rfl) (by kernel_rfl) (Nat.le_of_ble_eq_true (by kernel_rfl)) (Eq.mpr (by kernel_rfl : aFn Tryz.prog (fun _ => none) Tryz.f44 [0, 1, 4, 5, 6, 7, 8, 9, 13, 30, 44] (fun zz_ => match zz_ with | 3 => some ⟨Int × Bool × (LL), fun s => zvo n f es n2 f2 ss s.1 s.2.1 s.2.2, fun _ s => J s.1 s.2.1 s.2.2, fun s => μ s.1 s.2.1 s.2.2, fun e h => (gI e 6, oN h 0, oS h 0), [(5, 21, 1)], [0, 1, 5, 6], [], fun p => ∀ (x6 : Int) (n_0 : Bool) (s_0 : LL), p (x6, n_0, s_0), fun p h s => h s.1 s.2.1 s.2.2⟩ | _ => none) (Tryz.f44.body.getD .skip) [.sl n f es, .sl n2 f2 ss] R = zb8 n f es n2 f2 ss J μ R) h)

def zdj (n f : Bool) (es : LL) (n2 f2 : Bool) (ss : LL) (R : PV → Prop) : Prop :=
 PCall Tryz.prog 12 [PV.sl n f es, PV.sl n2 f2 ss] fun (v : PV) ↦ ∃ (n1 : Bool), ∃ (f1 : Bool), ∃ (es1 : LL), v = PV.sl n1 f1 es1 ∧ PCall Tryz.prog 44 [PV.sl n f es, PV.sl n1 f1 es1] fun (v1 : PV) ↦ ∃ (n3 : Bool), ∃ (f3 : Bool), ∃ (es2 :
 LL), v1 = PV.sl n3 f3 es2 ∧ R (PV.sl n3 f3 es2)
theorem zj2 (n f : Bool) (es : LL) (n2 f2 : Bool) (ss : LL) {R : PV → Prop} (h : zdj n f es n2 f2 ss R) : PCall Tryz.prog 13 [.sl n f es, .sl n2 f2 ss] R :=
  PCall.of Tryz.func13 (by kernel_rfl) (by kernel_rfl) (Nat.le_of_ble_eq_true (by kernel_rfl)) (Eq.mpr (by kernel_rfl : aFn Tryz.prog (fun _ => none) Tryz.f13 [0, 1, 4] (fun _ => none) (Tryz.f13.body.getD .skip) [.sl n f es, .sl n2 f2 ss] R = zdj n f es n2 f2 ss R) h)

end Go.Eng


