/- States run over the code: what each function gives, and what follows. -/
import Derived.Test.YtalmenopiaakhaaGreatShTb
open Go.IntKind (i64 i32)
set_option linter.unusedVariables false
set_option linter.unusedSimpArgs false
set_option maxRecDepth 100000
set_option linter.constructorNameAsVariable false
namespace Go.Eng
open Go Go.Proofs Go.Eng.Rows Go.Eng.Srt
section
variable {key : Int -> Int} {T : PV}
theorem zn1 (hc : iK T key) (lo hi : Nat) (nl : Bool) (P X R : List Int) (y : Int) (a m b : Int) (ha : 0 <= a) (hP : P.length = lo + a.toNat) (hm : m = a + X.length) (hX1 : X.length ≠ 1) (hb : b = m + 1) (hhi : (lo : Int) + b <= hi) (hr : R32 (P ++ (X ++ ([y] ++ R)))) (hlen : hi < 1000000000000) (hX : Srtd key X) :
 ACall Tryz.prog 162 [.sub 0 lo hi, .pv (.int .i64 a), .pv (.int .i64 m), .pv (.int .i64 b), .fn 141 [.box 1 0]] [.sl (21, 1) false nl (aA (P ++ (X ++ ([y] ++ R)))), .box [.pv T]] (iL key nl T P (X ++ [y]) R) := by
 have hat : ∀ h : Int, a <= h -> h < m -> (P ++ (X ++ ([y] ++ R)))[lo + h.toNat]? = some (X.getD (h - a).toNat 0) := fun h h1 h2 => by
  rw [List.getElem?_append_right (by omega), show lo + h.toNat - P.length = (h - a).toNat by omega, List.getElem?_append_left (by omega)]
  exact pP (by omega)
 have hay : (P ++ (X ++ ([y] ++ R)))[lo + m.toNat]? = some y := by
  have e : P ++ (X ++ ([y] ++ R)) = (P ++ X) ++ y :: R := by simp
  rw [e, show lo + m.toNat = (P ++ X).length by simp; omega, m7]
 refine wD _ _ _ _ _ _ _ _
  (fun _ _ _ => True) (fun _ _ _ => 0) (fun _ _ _ => True) (fun _ _ _ => 0)
  (fun i j s => s = aA (P ++ (X ++ ([y] ++ R))) /\ a <= i /\ i <= j /\ j <= m /\ (∀ h, a <= h -> h < i -> ¬ key y < key (X.getD (h - a).toNat 0)) /\ (∀ h, j <= h -> h < m -> key y < key (X.getD (h - a).toNat 0))) (fun i j _ => (j - i).toNat)
  (fun i k s => a <= i /\ i <= m /\ (∀ h, a <= h -> h < i -> ¬ key y < key (X.getD (h - a).toNat 0)) /\ (∀ h, i <= h -> h < m -> key y < key (X.getD (h - a).toNat 0)) /\ i <= k /\ k <= m /\ s = aA (P ++ (X.take (k - a).toNat ++ (y :: (X.drop (k - a).toNat ++ R))))) (fun i k _ => (k - i).toNat)
  (fun _ _ _ => True) (fun _ _ _ => 0) ?_
 unfold sF
 have w1 : i64.wrap (m - a) = X.length := by rw [aD (by omega) (by omega)]; omega
 have w2 : i64.wrap (b - m) = 1 := by rw [aD (by omega) (by omega)]; omega
 refine bB (by rw [w1]; simp; omega) (bA (by rw [w2]; rfl) ⟨⟨rfl, rfl, Int.le_refl _, by omega, Int.le_refl _, fun h h1 h2 => by omega, fun h h1 h2 => by omega⟩, ?_⟩)
 rintro i j _ ⟨rfl, i0, hij, hjb, hlt, hge⟩
 refine aF (fun hc1 => ?_) (fun hc1 => ?_)
 ·simp only [decide_eq_true_eq] at hc1
  rw [pQ (by omega) (by omega) (by omega)]
  obtain ⟨h, hh⟩ : ∃ h, h = (i + j) / 2 := ⟨_, rfl⟩
  rw [<- hh]
  have b1 : i <= h /\ h < j := by omega
  have gx := hat h (by omega) (by omega)
  have wh : i64.wrap (h + 1) = h + 1 := aD (by omega) (by omega)
  rw [wh]
  refine ⟨⟨by omega, by omega, by rw [cV hay]; rfl⟩, y, by rw [cV hay]; rfl, ⟨by omega, by omega, by rw [cV gx]; rfl⟩, _, by rw [cV gx]; rfl, ?_⟩
  refine (hc y _ (kM hr hay) (kM hr gx)).mono ?_
  rintro _ ⟨n2, rfl, hn2⟩
  refine ⟨n2, rfl, rfl, aF (fun hl => ?_) (fun hl => ?_)⟩
  ·simp only [Bool.not_eq_true', decide_eq_false_iff_not] at hl
   have hk : ¬ key y < key (X.getD (h - a).toNat 0) := fun h => hl (hn2.2 h)
   refine ⟨rfl, ⟨rfl, by omega, by omega, by omega, fun q q1 q2 => ?_, hge⟩, by dsimp only; omega⟩
   have := hX.get (i := (q - a).toNat) (j := (h - a).toNat) (by omega) (by omega)
   omega
  ·simp only [Bool.not_eq_true', decide_eq_false_iff_not, Decidable.not_not] at hl
   have hk := hn2.1 hl
   refine ⟨rfl, ⟨rfl, by omega, by omega, by omega, hlt, fun q q1 q2 => ?_⟩, by dsimp only; omega⟩
   have := hX.get (i := (h - a).toNat) (j := (q - a).toNat) (by omega) (by omega)
   omega
 ·simp only [decide_eq_true_eq] at hc1
  have : i = j := by omega
  subst this
  have hml : (m - a).toNat = X.length := by omega
  refine ⟨⟨rfl, i0, hjb, hlt, hge, by omega, Int.le_refl _, by rw [hml]; simp⟩, ?_⟩
  clear hc1 hij hjb hlt hge i0
  rintro i k _ ⟨i0, ib, hlt, hge, k0, k1, rfl⟩
  refine aF (fun hc2 => ?_) (fun hc2 => ?_)
  ·simp only [decide_eq_true_eq, gt_iff_lt] at hc2
   have wk : i64.wrap (k - 1) = k - 1 := aD (by omega) (by omega)
   rw [wk]
   have hlk : (k - 1 - a).toNat < X.length := by omega
   have hn : (k - a).toNat = (k - 1 - a).toNat + 1 := by omega
   have dx : X.drop (k - 1 - a).toNat = X[(k - 1 - a).toNat] :: X.drop ((k - 1 - a).toNat + 1) := List.drop_eq_getElem_cons hlk
   have tx : X.take ((k - 1 - a).toNat + 1) = X.take (k - 1 - a).toNat ++ [X[(k - 1 - a).toNat]] := dI hlk
   have lt : (X.take (k - 1 - a).toNat).length = (k - 1 - a).toNat := by rw [List.length_take]; omega
   obtain ⟨D, hDe⟩ : ∃ D, D = P ++ (X.take (k - a).toNat ++ (y :: (X.drop (k - a).toNat ++ R))) := ⟨_, rfl⟩
   have hRD : R32 D := fun z hz => hr z (by
    rw [hDe] at hz
    simp only [List.mem_append, List.mem_cons] at hz ⊢
    rcases hz with hz | hz | hz | hz | hz
    ·exact .inl hz
    ·exact .inr (.inl (List.mem_of_mem_take hz))
    ·exact .inr (.inr (.inl (by simp [hz])))
    ·exact .inr (.inl (List.mem_of_mem_drop hz))
    ·exact .inr (.inr (.inr hz)))
   rw [<- hDe]
   have hD : D = (P ++ X.take (k - 1 - a).toNat) ++ X[(k - 1 - a).toNat] :: y :: (X.drop ((k - 1 - a).toNat + 1) ++ R) := by rw [hDe, hn, tx]; simp only [List.append_assoc, List.cons_append, List.nil_append]
   have hk0 : lo + (k - 1).toNat = (P ++ X.take (k - 1 - a).toNat).length := by rw [List.length_append, lt]; omega
   have hk1 : lo + k.toNat = (P ++ X.take (k - 1 - a).toNat).length + 1 := by rw [List.length_append, lt]; omega
   have gx : D[lo + (k - 1).toNat]? = some X[(k - 1 - a).toNat] := by rw [hD, hk0, m7]
   have gy : D[lo + k.toNat]? = some y := by rw [hD, hk1, List.getElem?_append_right (by omega)]; simp
   have hsw : (D.set (lo + k.toNat) X[(k - 1 - a).toNat]).set (lo + (k - 1).toNat) y = P ++ (X.take (k - 1 - a).toNat ++ (y :: (X.drop (k - 1 - a).toNat ++ R))) := by
    rw [hD, hk0, hk1, zfj, dx]; simp only [List.append_assoc, List.cons_append, List.nil_append]
   obtain ⟨t1, t2, t3, t4⟩ := s9 D gy gx (by omega) X[(k - 1 - a).toNat] y
   rw [hsw] at t1
   have hla : 1 <= ((aA D).getD (lo + k.toNat) []).length := by rw [t2]; exact Nat.le_refl _
   refine ⟨⟨by omega, by omega, t3⟩, X[(k - 1 - a).toNat], by rw [cV gx]; rfl, ⟨by omega, by omega, t2⟩, y, by rw [cV gy]; rfl, ⟨by omega, by omega, t2⟩, ?_⟩
   refine ⟨?_, ?_⟩
   all_goals exact ⟨⟨rfl, hla⟩, ⟨by omega, by omega, t4⟩, ⟨rfl, by rw [t4]; exact Nat.le_refl _⟩, rfl, ⟨i0, ib, hlt, hge, by omega, by omega, t1⟩, by dsimp only; omega⟩
  ·simp only [decide_eq_true_eq, gt_iff_lt] at hc2
   have hk : k = i := by omega
   subst hk
   have h1 : ∀ z ∈ X.take (k - a).toNat, key z <= key y := fun z hz => by
    obtain ⟨q, hq, rfl⟩ := kN hz
    rw [List.length_take] at hq
    have e : (X.take (k - a).toNat).getD q 0 = X.getD q 0 := by simp only [List.getD]; rw [List.getElem?_take_of_lt (by omega)]
    rw [e]
    have := hlt (a + q) (by omega) (by omega)
    rw [show (a + (q : Int) - a).toNat = q by omega] at this
    omega
   have h2 : ∀ z ∈ X.drop (k - a).toNat, key y < key z := fun z hz => by
    obtain ⟨q, hq, rfl⟩ := kN hz
    rw [List.length_drop] at hq
    have e : (X.drop (k - a).toNat).getD q 0 = X.getD ((k - a).toNat + q) 0 := by simp only [List.getD, List.getElem?_drop]
    rw [e]
    have := hge (k + q) (by omega) (by omega)
    rwa [show (k + (q : Int) - a).toNat = (k - a).toNat + q by omega] at this
   have hXs : Srtd key (X.take (k - a).toNat ++ X.drop (k - a).toNat) := by rw [List.take_append_drop]; exact hX
   refine ⟨X.take (k - a).toNat ++ y :: X.drop (k - a).toNat, rfl, by simp, zfm hXs h1 (fun z hz => Int.le_of_lt (h2 z hz)), ?_⟩
   have := Stab.rot1 (key := key) (u := X.take (k - a).toNat) (v := []) (a := X.drop (k - a).toNat) (b := [y]) (fun p hp q hq => by simp at hq; subst hq; have := h2 p hp; omega)
   rw [<- List.append_assoc, List.take_append_drop] at this
   simpa using this
end
end Go.Eng



namespace Go.Eng
open Go Go.Proofs Go.Eng.Rows Go.Eng.Srt
section
variable {key : Int -> Int} {T : PV} (lo hi : Nat) (nl : Bool)
abbrev iM (nl : Bool) (T : PV) (t : List (List PV)) : Hp := [.sl (21, 1) false nl t, .box [.pv T]]
abbrev yE (nl : Bool) (T : PV) (t : List (List PV)) (K : List (List PV) -> Prop) : LV -> Hp -> Prop := fun r h' => ∃ t1, (r = .tup [] /\ h' = iM nl T t1) /\ (True /\ ((21, 1) = (21, 1) /\ nl = nl /\ t.length = t1.length) /\ True) /\ K t1
def tC (T : PV) (mid e b : Int) (Q : LV -> Hp -> Prop) (t : List (List PV)) : Prop :=
 if (decide (mid < e) && decide (e < b)) = true then ACall Tryz.prog 162 [.sub 0 lo hi, .pv (.int .i64 mid), .pv (.int .i64 e), .pv (.int .i64 b), .fn 141 [.box 1 0]] (iM nl T t) (yE nl T t fun t1 => Q (.tup []) (iM nl T t1)) else Q (.tup []) (iM nl T t)
def tD (T : PV) (a s mid e b : Int) (Q : LV -> Hp -> Prop) (t : List (List PV)) : Prop :=
 if (decide (a < s) && decide (s < mid)) = true then ACall Tryz.prog 162 [.sub 0 lo hi, .pv (.int .i64 a), .pv (.int .i64 s), .pv (.int .i64 mid), .fn 141 [.box 1 0]] (iM nl T t) (yE nl T t (tC lo hi nl T mid e b Q)) else tC lo hi nl T mid e b Q t
def yF (T : PV) (a s m mid e b : Int) (Q : LV -> Hp -> Prop) (t : List (List PV)) : Prop :=
 if (decide (s < m) && decide (m < e)) = true then ACall Tryz.prog 163 [.sub 0 lo hi, .pv (.int .i64 s), .pv (.int .i64 m), .pv (.int .i64 e), .fn 141 [.box 1 0]] (iM nl T t) (yE nl T t (tD lo hi nl T a s mid e b Q)) else tD lo hi nl T a s mid e b Q t
theorem R32.of {l m : List Int} (h : R32 l) (hm : ∀ x ∈ m, x ∈ l) : R32 m := fun x hx => h x (hm x hx)
def zfn (T : PV) (key : Int -> Int) (N : Int) : Prop := ∀ (P X Y R : List Int) (a m b : Int), 0 <= a -> P.length = lo + a.toNat -> m = a + X.length -> b = m + Y.length -> X ≠ [] -> Y ≠ [] -> (lo : Int) + b <= hi -> R32 (P ++ (X ++ (Y ++ R))) -> Srtd key X -> Srtd key Y -> b - a < N ->
 ACall Tryz.prog 162 [.sub 0 lo hi, .pv (.int .i64 a), .pv (.int .i64 m), .pv (.int .i64 b), .fn 141 [.box 1 0]] (iM nl T (aA (P ++ (X ++ (Y ++ R))))) (iL key nl T P (X ++ Y) R)
theorem zn2 {N : Int} (ih : zfn lo hi nl T key N) (hlen : hi < 1000000000000) (P X1 X2 Y1 Y2 R : List Int) (a s m mid e b : Int) (ha : 0 <= a) (hP : P.length = lo + a.toNat) (h1 : s = a + X1.length) (h2 : m = s + X2.length) (h3 : e = m + Y1.length) (h4 : b = e + Y2.length) (h5 : mid = s + Y1.length)
 (hhi : (lo : Int) + b <= hi) (hr : R32 (P ++ (X1 ++ (X2 ++ (Y1 ++ (Y2 ++ R)))))) (hX : Srtd key (X1 ++ X2)) (hY : Srtd key (Y1 ++ Y2)) (f1 : ∀ x ∈ X2, ∀ y ∈ Y1, key y < key x) (f2 : ∀ x ∈ X1, ∀ y ∈ Y2, key x <= key y) (n1 : mid - a < N) (n2 : b - mid < N) :
 yF lo hi nl T a s m mid e b (iL key nl T P ((X1 ++ X2) ++ (Y1 ++ Y2)) R) (aA (P ++ (X1 ++ (X2 ++ (Y1 ++ (Y2 ++ R)))))) := by
 have hl1 : ∀ {u v : List Int}, u.length = v.length -> (aA u).length = (aA v).length := fun h => by simp [h]
 obtain ⟨x1, x2, x3⟩ := gW.1 hX
 obtain ⟨y1, y2, y3⟩ := gW.1 hY
 have t3 : ∀ S1 : List Int, Srtd key S1 -> Stab key (X1 ++ Y1) S1 -> tC lo hi nl T mid e b (iL key nl T P ((X1 ++ X2) ++ (Y1 ++ Y2)) R) (aA (P ++ (S1 ++ (X2 ++ (Y2 ++ R))))) := fun S1 s1 k1 => by
  have kl := k1.len
  rw [List.length_append] at kl
  have fin : ∀ S2 : List Int, Srtd key S2 -> Stab key (X2 ++ Y2) S2 -> iL key nl T P ((X1 ++ X2) ++ (Y1 ++ Y2)) R (.tup []) (iM nl T (aA (P ++ (S1 ++ (S2 ++ R))))) := fun S2 s2 k2 => by
   obtain ⟨c1, c2⟩ := znz hX hY f1 f2 s1 k1 s2 k2
   exact ⟨S1 ++ S2, rfl, by simp, c1, c2⟩
  unfold tC
  refine aF (fun hc => ?_) (fun hc => ?_)
  ·simp only [Bool.and_eq_true, decide_eq_true_eq] at hc
   have nx : X2 ≠ [] := fun h => by subst h; simp at h2; omega
   have ny : Y2 ≠ [] := fun h => by subst h; simp at h4; omega
   have := ih (P ++ S1) X2 Y2 R mid e b (by omega) (by rw [List.length_append]; omega) (by omega) h4 nx ny hhi (hr.of fun x hx => by
    simp only [List.mem_append] at hx ⊢
    rcases hx with (hx | hx) | hx | hx | hx
    ·exact .inl hx
    ·rcases List.mem_append.1 (k1.mem.2 hx) with hx | hx
     ·exact .inr (.inl hx)
     ·exact .inr (.inr (.inr (.inl hx)))
    ·exact .inr (.inr (.inl hx))
    ·exact .inr (.inr (.inr (.inr (.inl hx))))
    ·exact .inr (.inr (.inr (.inr (.inr hx))))) x2 y2 n2
   rw [show P ++ (S1 ++ (X2 ++ (Y2 ++ R))) = (P ++ S1) ++ (X2 ++ (Y2 ++ R)) by simp]
   refine this.mono ?_
   rintro r h' ⟨S2, rfl, rfl, s2, k2⟩
   refine ⟨_, ⟨rfl, rfl⟩, ⟨trivial, ⟨rfl, rfl, hl1 ?_⟩, trivial⟩, ?_⟩
   ·have := k2.len
    simp only [List.length_append] at this ⊢; omega
   ·have := fin S2 s2 k2
    rw [<- List.append_assoc P] at this
    exact this
  ·simp only [Bool.and_eq_true, decide_eq_true_eq] at hc
   have hz : X2 = [] ∨ Y2 = [] := by
    rcases Nat.eq_zero_or_pos X2.length with h | h
    ·exact .inl (List.length_eq_zero_iff.1 h)
    ·exact .inr (List.length_eq_zero_iff.1 (by omega))
   have s2 : Srtd key (X2 ++ Y2) := by
    rcases hz with h | h
    ·subst h; exact y2
    ·subst h; simpa using x2
   have := fin (X2 ++ Y2) s2 (.refl _)
   rw [List.append_assoc X2 Y2] at this
   exact this
 have t2 : tD lo hi nl T a s mid e b (iL key nl T P ((X1 ++ X2) ++ (Y1 ++ Y2)) R) (aA (P ++ (X1 ++ (Y1 ++ (X2 ++ (Y2 ++ R)))))) := by
  unfold tD
  refine aF (fun hc => ?_) (fun hc => ?_)
  ·simp only [Bool.and_eq_true, decide_eq_true_eq] at hc
   have nx : X1 ≠ [] := fun h => by subst h; simp at h1; omega
   have ny : Y1 ≠ [] := fun h => by subst h; simp at h5; omega
   refine (ih P X1 Y1 (X2 ++ (Y2 ++ R)) a s mid ha hP h1 h5 nx ny (by omega) (hr.of fun x hx => by
    simp only [List.mem_append] at hx ⊢
    rcases hx with hx | hx | hx | hx | hx | hx
    ·exact .inl hx
    ·exact .inr (.inl hx)
    ·exact .inr (.inr (.inr (.inl hx)))
    ·exact .inr (.inr (.inl hx))
    ·exact .inr (.inr (.inr (.inr (.inl hx))))
    ·exact .inr (.inr (.inr (.inr (.inr hx))))) x1 y1 n1).mono ?_
   rintro r h' ⟨S1, rfl, rfl, s1, k1⟩
   refine ⟨_, ⟨rfl, rfl⟩, ⟨trivial, ⟨rfl, rfl, hl1 ?_⟩, trivial⟩, t3 S1 s1 k1⟩
   have := k1.len
   simp only [List.length_append] at this ⊢; omega
  ·simp only [Bool.and_eq_true, decide_eq_true_eq] at hc
   have hz : X1 = [] ∨ Y1 = [] := by
    rcases Nat.eq_zero_or_pos X1.length with h | h
    ·exact .inl (List.length_eq_zero_iff.1 h)
    ·exact .inr (List.length_eq_zero_iff.1 (by omega))
   have s2 : Srtd key (X1 ++ Y1) := by
    rcases hz with h | h
    ·subst h; exact y1
    ·subst h; simpa using x1
   have := t3 (X1 ++ Y1) s2 (.refl _)
   rw [List.append_assoc X1 Y1] at this
   exact this
 unfold yF
 refine aF (fun hc => ?_) (fun hc => ?_)
 ·simp only [Bool.and_eq_true, decide_eq_true_eq] at hc
  have nx : X2 ≠ [] := fun h => by subst h; simp at h2; omega
  have ny : Y1 ≠ [] := fun h => by subst h; simp at h3; omega
  have := zny (T := T) lo hi nl (P ++ X1) X2 Y1 (Y2 ++ R) s m e (by omega) (by rw [List.length_append]; omega) h2 h3 nx ny (by omega) hlen
  rw [show P ++ (X1 ++ (X2 ++ (Y1 ++ (Y2 ++ R)))) = (P ++ X1) ++ (X2 ++ (Y1 ++ (Y2 ++ R))) by simp]
  refine this.mono ?_
  rintro r h' ⟨rfl, rfl⟩
  refine ⟨_, ⟨rfl, rfl⟩, ⟨trivial, ⟨rfl, rfl, hl1 ?_⟩, trivial⟩, ?_⟩
  ·simp only [List.length_append]; omega
  ·rw [List.append_assoc P]; exact t2
 ·simp only [Bool.and_eq_true, decide_eq_true_eq] at hc
  have hz : X2 = [] ∨ Y1 = [] := by
   rcases Nat.eq_zero_or_pos X2.length with h | h
   ·exact .inl (List.length_eq_zero_iff.1 h)
   ·exact .inr (List.length_eq_zero_iff.1 (by omega))
  have e : P ++ (X1 ++ (X2 ++ (Y1 ++ (Y2 ++ R)))) = P ++ (X1 ++ (Y1 ++ (X2 ++ (Y2 ++ R)))) := by
   rcases hz with h | h <;> subst h <;> simp
  rw [e]; exact t2
end
end Go.Eng



namespace Go.Eng
open Go Go.Proofs Go.Eng.Rows Go.Eng.Srt
section
variable {key : Int -> Int} {T : PV}
theorem zfo (hc : iK T key) (lo hi : Nat) (nl : Bool) (hlen : hi < 1000000000000) : ∀ N : Nat, zfn lo hi nl T key N := by
 intro N
 induction N with
 | zero =>
   intro P X Y R a m b ha hP hm hb hx hy hhi hr hX hY hN
   omega
 | succ N ih =>
   intro P X Y R a m b ha hP hm hb hx hy hhi hr hX hY hN
   have hxl := List.length_pos_iff.2 hx
   have hyl := List.length_pos_iff.2 hy
   by_cases hx1 : X.length = 1
   ·obtain ⟨x, rfl⟩ := List.length_eq_one_iff.1 hx1
    exact zn0 hc lo hi nl P Y R x a m b ha hP (by simpa using hm) hb hhi hr hlen hY
   by_cases hy1 : Y.length = 1
   ·obtain ⟨y, rfl⟩ := List.length_eq_one_iff.1 hy1
    exact zn1 hc lo hi nl P X R y a m b ha hP hm hx1 (by simpa using hb) hhi hr hlen hX
   obtain ⟨mid, hmid⟩ : ∃ mid, mid = (a + b) / 2 := ⟨_, rfl⟩
   have hat : ∀ h : Int, a <= h -> h < m -> (P ++ (X ++ (Y ++ R)))[lo + h.toNat]? = some (X.getD (h - a).toNat 0) := fun h h1 h2 => by
    rw [List.getElem?_append_right (by omega), show lo + h.toNat - P.length = (h - a).toNat by omega, List.getElem?_append_left (by omega)]
    exact pP (by omega)
   have hbt : ∀ h : Int, m <= h -> h < b -> (P ++ (X ++ (Y ++ R)))[lo + h.toNat]? = some (Y.getD (h - m).toNat 0) := fun h h1 h2 => by
    rw [<- List.append_assoc, List.getElem?_append_right (by rw [List.length_append]; omega), show lo + h.toNat - (P ++ X).length = (h - m).toNat by rw [List.length_append]; omega, List.getElem?_append_left (by omega)]
    exact pP (by omega)
   obtain ⟨s0, hs0⟩ : ∃ s0, s0 = if m > mid then mid + m - b else a := ⟨_, rfl⟩
   obtain ⟨r0, hr0⟩ : ∃ r0, r0 = if m > mid then mid else m := ⟨_, rfl⟩
   have rng : a <= s0 /\ s0 <= r0 /\ r0 <= m /\ mid + m - s0 <= b /\ m <= mid + m - r0 := by
    rw [hs0, hr0]; split <;> omega
   refine wD _ _ _ _ _ _ _ _
    (fun _ _ _ => True) (fun _ _ _ => 0) (fun _ _ _ => True) (fun _ _ _ => 0) (fun _ _ _ => True) (fun _ _ _ => 0) (fun _ _ _ => True) (fun _ _ _ => 0)
    (fun i j s => s = aA (P ++ (X ++ (Y ++ R))) /\ s0 <= i /\ i <= j /\ j <= r0 /\ (∀ c, s0 <= c -> c < i -> ¬ key (Y.getD (mid - 1 - c).toNat 0) < key (X.getD (c - a).toNat 0)) /\ (∀ c, j <= c -> c < r0 -> key (Y.getD (mid - 1 - c).toNat 0) < key (X.getD (c - a).toNat 0))) (fun i j _ => (j - i).toNat) ?_
   unfold sF
   have w1 : i64.wrap (m - a) = X.length := by rw [aD (by omega) (by omega)]; omega
   have w2 : i64.wrap (b - m) = Y.length := by rw [aD (by omega) (by omega)]; omega
   have w3 : i64.wrap (mid + m) = mid + m := aD (by omega) (by omega)
   have w4 : i64.wrap (mid + m - b) = mid + m - b := aD (by omega) (by omega)
   have w5 : i64.wrap (mid + m - 1) = mid + m - 1 := aD (by omega) (by omega)
   rw [w1, w2, pQ ha (by omega) (by omega), <- hmid, w3, w4, w5]
   -- what the loop is, and what follows it
   have body : ∀ (x20 x21 : Int) (s : List (List PV)), (s = aA (P ++ (X ++ (Y ++ R))) /\ s0 <= x20 /\ x20 <= x21 /\ x21 <= r0 /\ (∀ c, s0 <= c -> c < x20 -> ¬ key (Y.getD (mid - 1 - c).toNat 0) < key (X.getD (c - a).toNat 0)) /\ (∀ c, x21 <= c -> c < r0 -> key (Y.getD (mid - 1 - c).toNat 0) < key (X.getD (c - a).toNat 0))) ->
    (x20 < x21 -> ∃ h, h = (x20 + x21) / 2 /\ i64.wrap (mid + m - 1 - h) = mid + m - 1 - h /\ i64.wrap (h + 1) = h + 1 /\ (0 <= mid + m - 1 - h /\ mid + m - 1 - h < (hi : Int) - lo /\ (s.getD (lo + (mid + m - 1 - h).toNat) []).length = 1) /\ (0 <= h /\ h < (hi : Int) - lo /\ (s.getD (lo + h.toNat) []).length = 1) /\
     ∃ n n1, (List.drop 0 (s.getD (lo + (mid + m - 1 - h).toNat) [])).head? = some (PV.int .i32 n) /\ (List.drop 0 (s.getD (lo + h.toNat) [])).head? = some (PV.int .i32 n1) /\ (-2147483648 <= n /\ n <= 2147483647) /\ (-2147483648 <= n1 /\ n1 <= 2147483647) /\
     (¬ key n < key n1 -> (s = aA (P ++ (X ++ (Y ++ R))) /\ s0 <= h + 1 /\ h + 1 <= x21 /\ x21 <= r0 /\ (∀ c, s0 <= c -> c < h + 1 -> ¬ key (Y.getD (mid - 1 - c).toNat 0) < key (X.getD (c - a).toNat 0)) /\ (∀ c, x21 <= c -> c < r0 -> key (Y.getD (mid - 1 - c).toNat 0) < key (X.getD (c - a).toNat 0))) /\ (x21 - (h + 1)).toNat < (x21 - x20).toNat) /\
     (key n < key n1 -> (s = aA (P ++ (X ++ (Y ++ R))) /\ s0 <= x20 /\ x20 <= h /\ h <= r0 /\ (∀ c, s0 <= c -> c < x20 -> ¬ key (Y.getD (mid - 1 - c).toNat 0) < key (X.getD (c - a).toNat 0)) /\ (∀ c, h <= c -> c < r0 -> key (Y.getD (mid - 1 - c).toNat 0) < key (X.getD (c - a).toNat 0))) /\ (h - x20).toNat < (x21 - x20).toNat)) /\
    (¬ x20 < x21 -> i64.wrap (mid + m - x20) = mid + m - x20 /\ yF lo hi nl T a x20 m mid (mid + m - x20) b (iL key nl T P (X ++ Y) R) s) := by
    rintro i j _ ⟨rfl, i0, hij, hjr, hge, hlt⟩
    refine ⟨fun hc1 => ?_, fun hc1 => ?_⟩
    ·obtain ⟨h, hh⟩ : ∃ h, h = (i + j) / 2 := ⟨_, rfl⟩
     have b1 : i <= h /\ h < j := by omega
     have gx := hat h (by omega) (by omega)
     have gy := hbt (mid + m - 1 - h) (by omega) (by omega)
     rw [show (mid + m - 1 - h - m).toNat = (mid - 1 - h).toNat by omega] at gy
     refine ⟨h, hh, aD (by omega) (by omega), aD (by omega) (by omega), ⟨by omega, by omega, by rw [cV gy]; rfl⟩, ⟨by omega, by omega, by rw [cV gx]; rfl⟩, _, _, by rw [cV gy]; rfl, by rw [cV gx]; rfl, kM hr gy, kM hr gx, fun hk => ?_, fun hk => ?_⟩
     ·refine ⟨⟨rfl, by omega, by omega, hjr, fun c c1 c2 => ?_, hlt⟩, by omega⟩
      have u := hX.get (i := (c - a).toNat) (j := (h - a).toNat) (by omega) (by omega)
      have v := hY.get (i := (mid - 1 - h).toNat) (j := (mid - 1 - c).toNat) (by omega) (by omega)
      omega
     ·refine ⟨⟨rfl, i0, by omega, by omega, hge, fun c c1 c2 => ?_⟩, by omega⟩
      have u := hX.get (i := (h - a).toNat) (j := (c - a).toNat) (by omega) (by omega)
      have v := hY.get (i := (mid - 1 - c).toNat) (j := (mid - 1 - h).toNat) (by omega) (by omega)
      omega
    ·have hij2 : i = j := by omega
     subst hij2
     refine ⟨aD (by omega) (by omega), ?_⟩
     have l1 : (X.take (i - a).toNat).length = (i - a).toNat := by rw [List.length_take]; omega
     have l2 : (X.drop (i - a).toNat).length = X.length - (i - a).toNat := List.length_drop
     have l3 : (Y.take (mid - i).toNat).length = (mid - i).toNat := by rw [List.length_take]; omega
     have l4 : (Y.drop (mid - i).toNat).length = Y.length - (mid - i).toNat := List.length_drop
     have eX : X.take (i - a).toNat ++ X.drop (i - a).toNat = X := List.take_append_drop _ _
     have eY : Y.take (mid - i).toNat ++ Y.drop (mid - i).toNat = Y := List.take_append_drop _ _
     have tk : ∀ (L : List Int) (k q : Nat), q < k -> (L.take k).getD q 0 = L.getD q 0 := fun L k q h => by simp only [List.getD]; rw [List.getElem?_take_of_lt h]
     have dk : ∀ (L : List Int) (k q : Nat), (L.drop k).getD q 0 = L.getD (k + q) 0 := fun L k q => by simp only [List.getD, List.getElem?_drop]
     have f1 : ∀ x ∈ X.drop (i - a).toNat, ∀ y ∈ Y.take (mid - i).toNat, key y < key x := fun x hx y hy => by
      obtain ⟨q, hq, rfl⟩ := kN hx
      obtain ⟨p, hp, rfl⟩ := kN hy
      rw [l2] at hq
      rw [l3] at hp
      rw [tk _ _ _ hp, dk]
      have hir : i < r0 := by rw [hr0]; split <;> omega
      have k0 := hlt i (Int.le_refl _) hir
      have u := hX.get (i := (i - a).toNat) (j := (i - a).toNat + q) (by omega) (by omega)
      have v := hY.get (i := p) (j := (mid - 1 - i).toNat) (by omega) (by omega)
      omega
     have f2 : ∀ x ∈ X.take (i - a).toNat, ∀ y ∈ Y.drop (mid - i).toNat, key x <= key y := fun x hx y hy => by
      obtain ⟨q, hq, rfl⟩ := kN hx
      obtain ⟨p, hp, rfl⟩ := kN hy
      rw [l1] at hq
      rw [l4] at hp
      rw [tk _ _ _ hq, dk]
      have his : s0 <= i - 1 := by rw [hs0]; split <;> omega
      have k0 := hge (i - 1) his (by omega)
      rw [show (mid - 1 - (i - 1)).toNat = (mid - i).toNat by omega] at k0
      have u := hX.get (i := q) (j := (i - 1 - a).toNat) (by omega) (by omega)
      have v := hY.get (i := (mid - i).toNat) (j := (mid - i).toNat + p) (by omega) (by omega)
      omega
     have := zn2 lo hi nl (N := N) ih hlen P (X.take (i - a).toNat) (X.drop (i - a).toNat) (Y.take (mid - i).toNat) (Y.drop (mid - i).toNat) R a i m mid (mid + m - i) b ha hP (by omega) (by omega) (by omega) (by omega) (by omega) hhi
      (by rw [<- List.append_assoc (Y.take _), eY, <- List.append_assoc (X.take _), eX]; exact hr) (by rw [eX]; exact hX) (by rw [eY]; exact hY) f1 f2 (by omega) (by omega)
     rw [<- List.append_assoc (Y.take _) _ R, eY, <- List.append_assoc (X.take _) _ (Y ++ R), eX] at this
     exact this
   refine bB (by simp; omega) (bB (by simp; omega) ?_)
   refine aF (fun hm2 => ?_) (fun hm2 => ?_)
   ·simp only [decide_eq_true_eq] at hm2
    rw [if_pos hm2] at hs0 hr0
    refine ⟨⟨rfl, rfl, by omega, by omega, by omega, fun c c1 c2 => by omega, fun c c1 c2 => by omega⟩, ?_⟩
    rintro i j s hJ
    obtain ⟨b1, b2⟩ := body i j s hJ
    refine aF (fun hc1 => ?_) (fun hc1 => ?_)
    ·simp only [decide_eq_true_eq] at hc1
     obtain ⟨h, hh, e1, e2, e3, e4, n, n1, g1, g2, r1, r2, k1, k2⟩ := b1 hc1
     rw [pQ (by omega) (by omega) (by omega), <- hh, e1, e2]
     refine ⟨e3, n, g1, e4, n1, g2, ?_⟩
     refine (hc n n1 r1 r2).mono ?_
     rintro _ ⟨n2, rfl, hn2⟩
     refine ⟨n2, rfl, rfl, aF (fun hl => ?_) (fun hl => ?_)⟩
     ·simp only [Bool.not_eq_true', decide_eq_false_iff_not] at hl
      obtain ⟨q1, q2⟩ := k1 fun h => hl (hn2.2 h)
      exact ⟨rfl, q1, q2⟩
     ·simp only [Bool.not_eq_true', decide_eq_false_iff_not, Decidable.not_not] at hl
      obtain ⟨q1, q2⟩ := k2 (hn2.1 hl)
      exact ⟨rfl, q1, q2⟩
    ·simp only [decide_eq_true_eq] at hc1
     obtain ⟨e1, e2⟩ := b2 hc1
     rw [e1]
     exact e2
   ·simp only [decide_eq_true_eq] at hm2
    rw [if_neg hm2] at hs0 hr0
    refine ⟨⟨rfl, rfl, by omega, by omega, by omega, fun c c1 c2 => by omega, fun c c1 c2 => by omega⟩, ?_⟩
    rintro i j s hJ
    obtain ⟨b1, b2⟩ := body i j s hJ
    refine aF (fun hc1 => ?_) (fun hc1 => ?_)
    ·simp only [decide_eq_true_eq] at hc1
     obtain ⟨h, hh, e1, e2, e3, e4, n, n1, g1, g2, r1, r2, k1, k2⟩ := b1 hc1
     rw [pQ (by omega) (by omega) (by omega), <- hh, e1, e2]
     refine ⟨e3, n, g1, e4, n1, g2, ?_⟩
     refine (hc n n1 r1 r2).mono ?_
     rintro _ ⟨n2, rfl, hn2⟩
     refine ⟨n2, rfl, rfl, aF (fun hl => ?_) (fun hl => ?_)⟩
     ·simp only [Bool.not_eq_true', decide_eq_false_iff_not] at hl
      obtain ⟨q1, q2⟩ := k1 fun h => hl (hn2.2 h)
      exact ⟨rfl, q1, q2⟩
     ·simp only [Bool.not_eq_true', decide_eq_false_iff_not, Decidable.not_not] at hl
      obtain ⟨q1, q2⟩ := k2 (hn2.1 hl)
      exact ⟨rfl, q1, q2⟩
    ·simp only [decide_eq_true_eq] at hc1
     obtain ⟨e1, e2⟩ := b2 hc1
     rw [e1]
     exact e2
end
end Go.Eng



namespace Go.Eng
open Go Go.Proofs Go.Eng.Rows Go.Eng.Srt
section
variable {key : Int -> Int} {T : PV}
def lW (key : Int -> Int) (k : Nat) (Bs : List (List Int)) : Prop := ∀ B ∈ Bs, B.length = k /\ Srtd key B
theorem yG {k : Nat} : ∀ {Bs : List (List Int)}, lW key k Bs -> Bs.flatten.length = k * Bs.length
 | [], _ => by simp
 | B :: Bs, h => by
   rw [List.flatten_cons, List.length_append, (h B List.mem_cons_self).1, yG (Bs := Bs) fun C hC => h C (List.mem_cons_of_mem _ hC), List.length_cons, Nat.mul_add]; omega
theorem tE (Bs : List (List Int)) : Bs = [] ∨ (∃ X, Bs = [X]) ∨ ∃ X Y Bs', Bs = X :: Y :: Bs' := by
 match Bs with
 | [] => exact .inl rfl
 | [X] => exact .inr (.inl ⟨X, rfl⟩)
 | X :: Y :: Bs' => exact .inr (.inr ⟨X, Y, Bs', rfl⟩)
theorem zfp {k : Nat} {Bs : List (List Int)} {B : List Int} (h : lW key k Bs) (hl : B.length = k) (hs : Srtd key B) : lW key k (Bs ++ [B]) := fun C hC => by
 rcases List.mem_append.1 hC with hC | hC
 ·exact h C hC
 ·simp only [List.mem_singleton] at hC; subst hC; exact ⟨hl, hs⟩
theorem yH {P S R S' : List Int} (h : R32 (P ++ (S ++ R))) (k : Stab key S S') : R32 (P ++ (S' ++ R)) := h.of fun x hx => by
 simp only [List.mem_append] at hx ⊢
 rcases hx with hx | hx | hx
 ·exact .inl hx
 ·exact .inr (.inl (k.mem.2 hx))
 ·exact .inr (.inr hx)
theorem zn3 (hc : iK T key) (lo hi : Nat) (nl : Bool) (P S R : List Int) (hP : P.length = lo) (hS : hi = lo + S.length) (hr : R32 (P ++ (S ++ R))) (hlen : hi < 1000000000000) :
 ACall Tryz.prog 158 [.sub 0 lo hi, .pv (.int .i64 ((hi - lo : Nat) : Int)), .fn 141 [.box 1 0]] (iM nl T (aA (P ++ (S ++ R)))) (iL key nl T P S R) := by
 have hl1 : ∀ {u v : List Int}, u.length = v.length -> (aA u).length = (aA v).length := fun h => by simp [h]
 obtain ⟨n, hn⟩ : ∃ n : Int, n = ((hi - lo : Nat) : Int) := ⟨_, rfl⟩
 rw [<- hn]
 have hnS : n = S.length := by omega
 refine zke _ _ _ _ _ _
  (fun a b s => b = a + 20 /\ 0 <= a /\ ∃ Bs C, s = aA (P ++ (Bs.flatten ++ C ++ R)) /\ lW key 20 Bs /\ (Bs.flatten.length : Int) = a /\ Stab key S (Bs.flatten ++ C)) (fun a _ _ => (n + 1 - a).toNat)
  (fun k s => 0 < k /\ ∃ Bs C, s = aA (P ++ (Bs.flatten ++ C ++ R)) /\ lW key k.toNat Bs /\ Srtd key C /\ (C.length : Int) < k /\ Stab key S (Bs.flatten ++ C)) (fun k _ => (n - k).toNat)
  (fun k _ _ _ k' a b s => k = k' /\ b = a + 2 * k /\ 0 <= a /\ ∃ B2 Bs C, s = aA (P ++ (B2.flatten ++ (Bs.flatten ++ C) ++ R)) /\ lW key (2 * k).toNat B2 /\ lW key k.toNat Bs /\ Srtd key C /\ (C.length : Int) < k /\ (B2.flatten.length : Int) = a /\ Stab key S (B2.flatten ++ (Bs.flatten ++ C))) (fun k a _ _ => (n + 1 - a).toNat) ?_
 unfold zcs
 refine ⟨⟨rfl, rfl, Int.le_refl _, [], S, by simp, fun B hB => (by cases hB), rfl, by simpa using Stab.refl S⟩, ?_⟩
 rintro a b _ ⟨rfl, a0, Bs, C, rfl, hBs, hBl, hst⟩
 have hsl := hst.len
 rw [List.length_append] at hsl
 refine aF (fun hc1 => ?_) (fun hc1 => ?_)
 ·simp only [decide_eq_true_eq] at hc1
  have wa : i64.wrap (a + 20 + 20) = a + 20 + 20 := aD (by omega) (by omega)
  rw [wa]
  have hC : C.take 20 ++ C.drop 20 = C := List.take_append_drop _ _
  have hCl : (C.take 20).length = 20 := by rw [List.length_take]; omega
  have e1 : P ++ (Bs.flatten ++ C ++ R) = (P ++ Bs.flatten) ++ C.take 20 ++ (C.drop 20 ++ R) := by
   rw [show Bs.flatten ++ C ++ R = Bs.flatten ++ ((C.take 20 ++ C.drop 20) ++ R) by rw [hC]; simp]
   simp only [List.append_assoc]
  have := zfl hc lo hi nl (P ++ Bs.flatten) (C.take 20) (C.drop 20 ++ R) a (a + 20) a0 (by rw [List.length_append]; omega) (by omega) (by omega) (by rw [<- e1]; exact yH hr hst) hlen
  rw [e1]
  refine this.mono ?_
  rintro r h' ⟨S1, rfl, rfl, s1, k1⟩
  have k1l := k1.len
  refine ⟨_, ⟨rfl, rfl⟩, ⟨trivial, ⟨rfl, rfl, hl1 (by simp only [List.length_append]; omega)⟩, trivial⟩, rfl, ⟨rfl, by omega, Bs ++ [S1], C.drop 20, by simp, zfp hBs (by omega) s1, by simp only [List.flatten_append, List.flatten_cons, List.flatten_nil, List.append_nil, List.length_append]; omega, ?_⟩, by dsimp only; omega⟩
  refine hst.trans ?_
  have := (Stab.refl (key := key) Bs.flatten).app (k1.app (Stab.refl (C.drop 20)))
  rw [hC] at this
  simpa using this
 ·simp only [decide_eq_true_eq] at hc1
  have e1 : P ++ (Bs.flatten ++ C ++ R) = (P ++ Bs.flatten) ++ C ++ R := by simp
  have := zfl hc lo hi nl (P ++ Bs.flatten) C R a n a0 (by rw [List.length_append]; omega) (by omega) (by omega) (by rw [<- e1]; exact yH hr hst) hlen
  rw [e1]
  refine this.mono ?_
  rintro r h' ⟨C1, rfl, rfl, s1, k1⟩
  have k1l := k1.len
  refine ⟨_, ⟨rfl, rfl⟩, ⟨trivial, ⟨rfl, rfl, hl1 (by simp only [List.length_append]; omega)⟩, trivial⟩, ⟨rfl, by omega, Bs, C1, by simp, hBs, s1, by omega, hst.trans ((Stab.refl _).app k1)⟩, ?_⟩
  clear hBs hBl hst hsl hc1 e1 this s1 k1 k1l
  rintro k _ ⟨k0, Bs, C, rfl, hBs, hCs, hCk, hst⟩
  have hsl := hst.len
  rw [List.length_append] at hsl
  have hbl := yG hBs
  refine aF (fun hc2 => ?_) (fun hc2 => ?_)
  ·simp only [decide_eq_true_eq] at hc2
   have w2 : i64.wrap (2 * k) = 2 * k := aD (by omega) (by omega)
   have w3 : i64.wrap (k * 2) = 2 * k := by rw [aD (by omega) (by omega)]; omega
   rw [w2]
   refine ⟨⟨rfl, rfl, by omega, Int.le_refl _, [], Bs, C, by simp, fun B hB => (by cases hB), hBs, hCs, hCk, rfl, by simpa using hst⟩, ?_⟩
   clear hBs hCs hCk hst hsl hbl
   rintro _ a b _ ⟨rfl, rfl, a0, B2, Bs, C, rfl, hB2, hBs, hCs, hCk, hBl, hst⟩
   have hsl := hst.len
   rw [List.length_append, List.length_append] at hsl
   have hbl := yG hBs
   have hRs : R32 (P ++ (B2.flatten ++ (Bs.flatten ++ C) ++ R)) := yH hr hst
   rw [w2, w3]
   have hkn : (k.toNat : Int) = k := by omega
   refine aF (fun hc3 => ?_) (fun hc3 => ?_)
   ·simp only [decide_eq_true_eq] at hc3
    have w4 : i64.wrap (a + k) = a + k := aD (by omega) (by omega)
    have w5 : i64.wrap (a + 2 * k + 2 * k) = a + 2 * k + 2 * k := aD (by omega) (by omega)
    rw [w4, w5]
    obtain ⟨X, Y, Bs', rfl⟩ : ∃ X Y Bs', Bs = X :: Y :: Bs' := by
     rcases tE Bs with rfl | ⟨X, rfl⟩ | h
     ·simp only [List.flatten_nil, List.length_nil] at hsl; omega
     ·have h1 := (hBs X (by simp)).1
      simp only [List.flatten_cons, List.flatten_nil, List.append_nil] at hsl; omega
     ·exact h
    obtain ⟨hXl, hXs⟩ := hBs X (by simp)
    obtain ⟨hYl, hYs⟩ := hBs Y (by simp)
    have nx : X ≠ [] := fun h => by subst h; simp at hXl; omega
    have ny : Y ≠ [] := fun h => by subst h; simp at hYl; omega
    have e1 : P ++ (B2.flatten ++ ((X :: Y :: Bs').flatten ++ C) ++ R) = (P ++ B2.flatten) ++ (X ++ (Y ++ (Bs'.flatten ++ C ++ R))) := by simp
    have := zfo hc lo hi nl hlen (2 * k + 1).toNat (P ++ B2.flatten) X Y (Bs'.flatten ++ C ++ R) a (a + k) (a + 2 * k) a0 (by rw [List.length_append]; omega) (by omega) (by omega) nx ny (by omega) (by rw [<- e1]; exact hRs) hXs hYs (by omega)
    rw [e1]
    refine this.mono ?_
    rintro r h' ⟨S1, rfl, rfl, s1, k1⟩
    have k1l := k1.len
    rw [List.length_append] at k1l
    refine ⟨_, ⟨rfl, rfl⟩, ⟨trivial, ⟨rfl, rfl, hl1 (by simp only [List.length_append]; omega)⟩, trivial⟩, rfl, ⟨rfl, rfl, by omega, B2 ++ [S1], Bs', C, by simp, zfp hB2 (by omega) s1, fun B hB => hBs B (by simp [hB]), hCs, hCk, by simp only [List.flatten_append, List.flatten_cons, List.flatten_nil, List.append_nil, List.length_append]; omega, ?_⟩, by dsimp only; omega⟩
    refine hst.trans ?_
    have := (Stab.refl (key := key) B2.flatten).app (k1.app (Stab.refl (Bs'.flatten ++ C)))
    simpa using this
   ·simp only [decide_eq_true_eq] at hc3
    have w4 : i64.wrap (a + k) = a + k := aD (by omega) (by omega)
    rw [w4]
    refine aF (fun hc4 => ?_) (fun hc4 => ?_)
    ·simp only [decide_eq_true_eq] at hc4
     obtain ⟨X, rfl⟩ : ∃ X, Bs = [X] := by
      rcases tE Bs with rfl | h | ⟨X, Y, Bs', rfl⟩
      ·simp only [List.flatten_nil, List.length_nil] at hsl; omega
      ·exact h
      ·have h1 := (hBs X (by simp)).1
       have h2 := (hBs Y (by simp)).1
       simp only [List.flatten_cons, List.length_append] at hsl
       omega
     obtain ⟨hXl, hXs⟩ := hBs X (by simp)
     have nx : X ≠ [] := fun h => by subst h; simp at hXl; omega
     simp only [List.flatten_cons, List.flatten_nil, List.append_nil] at hsl hst
     have ny : C ≠ [] := fun h => by subst h; simp only [List.length_nil] at hsl; omega
     have e1 : P ++ (B2.flatten ++ ([X].flatten ++ C) ++ R) = (P ++ B2.flatten) ++ (X ++ (C ++ R)) := by simp
     have := zfo hc lo hi nl hlen (2 * k + 1).toNat (P ++ B2.flatten) X C R a (a + k) n a0 (by rw [List.length_append]; omega) (by omega) (by omega) nx ny (by omega) (by rw [<- e1]; exact hRs) hXs hCs (by omega)
     rw [e1]
     refine this.mono ?_
     rintro r h' ⟨S1, rfl, rfl, s1, k1⟩
     have k1l := k1.len
     rw [List.length_append] at k1l
     exact ⟨_, ⟨rfl, rfl⟩, ⟨trivial, ⟨rfl, rfl, hl1 (by simp only [List.length_append]; omega)⟩, trivial⟩, rfl, ⟨by omega, B2, S1, by simp, hB2, s1, by omega, hst.trans ((Stab.refl _).app k1)⟩, by dsimp only; omega⟩
    ·simp only [decide_eq_true_eq] at hc4
     have hCs2 : Srtd key (Bs.flatten ++ C) /\ ((Bs.flatten ++ C).length : Int) < 2 * k := by
      rcases tE Bs with rfl | ⟨X, rfl⟩ | ⟨X, Y, Bs', rfl⟩
      ·exact ⟨by simpa using hCs, by simp; omega⟩
      ·have h1 := hBs X (by simp)
       simp only [List.flatten_cons, List.flatten_nil, List.append_nil] at hsl ⊢
       have hC0 : C = [] := List.length_eq_zero_iff.1 (by omega)
       subst hC0
       exact ⟨by simpa using h1.2, by simp; omega⟩
      ·exfalso
       have h1 := (hBs X (by simp)).1
       have h2 := (hBs Y (by simp)).1
       simp only [List.flatten_cons, List.length_append] at hsl
       omega
     exact ⟨rfl, ⟨by omega, B2, Bs.flatten ++ C, by simp, hB2, hCs2.1, hCs2.2, hst⟩, by dsimp only; omega⟩
  ·simp only [decide_eq_true_eq] at hc2
   have hz : Srtd key (Bs.flatten ++ C) := by
    rcases tE Bs with rfl | ⟨X, rfl⟩ | ⟨X, Y, Bs', rfl⟩
    ·simpa using hCs
    ·have h1 := hBs X (by simp)
     simp only [List.flatten_cons, List.flatten_nil, List.append_nil] at hsl ⊢
     have hC0 : C = [] := List.length_eq_zero_iff.1 (by omega)
     subst hC0
     simpa using h1.2
    ·exfalso
     have h1 := (hBs X (by simp)).1
     have h2 := (hBs Y (by simp)).1
     simp only [List.flatten_cons, List.length_append] at hsl
     omega
   exact ⟨Bs.flatten ++ C, rfl, rfl, hz, hst⟩
theorem zn4 (hc : iK T key) (lo hi : Nat) (nl : Bool) (P S R : List Int) (hP : P.length = lo) (hS : hi = lo + S.length) (hr : R32 (P ++ (S ++ R))) (hlen : hi < 1000000000000) :
 ACall Tryz.prog 140 [.sub 0 lo hi, .fn 141 [.box 1 0]] (iM nl T (aA (P ++ (S ++ R)))) (iL key nl T P S R) := by
 refine zkf _ _ _ _ _ ?_
 unfold zct
 refine (zn3 hc lo hi nl P S R hP hS hr hlen).mono ?_
 rintro r h' ⟨S1, rfl, rfl, s1, k1⟩
 exact ⟨_, ⟨rfl, rfl⟩, ⟨trivial, ⟨rfl, rfl, by have := k1.len; simp; omega⟩, trivial⟩, S1, rfl, rfl, s1, k1⟩
end
end Go.Eng



namespace Go.Eng
open Go Go.Proofs Go.Eng.Rows Go.Eng.Srt
section
variable {Z : World -> (Nat -> Prop) -> (Nat -> Pl) -> Hp -> Prop} {key : Int -> Int} {nl : Bool} {T : PV} {l : Nat}
def YQ (key : Int -> Int) (L : List Int) (f i : Nat) (L' : List Int) : Prop := ∃ S', L' = L.take f ++ (S' ++ L.drop i) /\ Srtd key S' /\ Stab key ((L.take i).drop f) S'
def yI (Z : World -> (Nat -> Prop) -> (Nat -> Pl) -> Hp -> Prop) (key : Int -> Int) (nl : Bool) (T : PV) (l N0 : Nat) : Prop :=
 ∀ (w : World) (I : Nat -> Prop) (G : Nat -> Pl) (L : List Int) (f i : Nat), HRel w I G (aL nl T (aA L)) -> Z w I G (aL nl T (aA L)) -> f + 1 < i -> i <= L.length -> R32 L -> L.length < 1000000000000 -> L.length = N0 ->
  ∃ fn tmps assign body, (Instr.yield l #[.int .i64 f, .int .i64 i]).run Tryz.prog w = .ok (.round l fn tmps assign body) w /\ RoundIn Fence.wide 0 Tryz.prog l fn tmps assign body w fun e w' =>
   e = .returned (.bool true) /\ ∃ L' I' G', YQ key L f i L' /\ HRel w' I' G' (aL nl T (aA L')) /\ Keeps w I w' I' /\ Like G G' (aL nl T (aA L)) (aL nl T (aA L')) /\ Z w' I' G' (aL nl T (aA L'))
def o8 (ops : Array Oper) : Oper := ops.toList.getD 8 default
theorem e6a (y : Value) (es : List (List PV)) (i f : Int) (K : Env -> Hp -> Prop) : bR Tryz.prog (fun _ => none) 39 (bU (dB Tryz.f157)).toList ((bU (dB Tryz.f157)).toList.take 8) (eM y i f) (aL nl T es) K =
 K ((35, LV.spec 32 true (.pv (.int .i64 i))) :: (34, LV.spec 32 true (.pv (.int .i64 f))) :: (33, LV.spec 32 true (.pv (.raw y))) :: (32, .pv (.bool (decide (i64.wrap (i - f) > (1 : Int))))) :: (31, .pv (.bool (decide (i64.wrap (i - f) > (1 : Int))))) ::
  (30, .pv (.int .i64 (i64.wrap (i - f)))) :: (29, .pv (.int .i64 f)) :: (28, .pv (.int .i64 i)) :: eM y i f) (aL nl T es) := by kernel_rfl
theorem e6b (y : Value) (es : List (List PV)) (i f : Int) (K : Env -> Hp -> Prop) : bR Tryz.prog (fun _ => none) 39 (bU (dB Tryz.f157)).toList ((bU (dB Tryz.f157)).toList.drop 9) ((36, .pv (.bool true)) :: (32, .pv (.bool true)) :: eM y i f) (aL nl T es) K =
 K ((38, .pv (.bool false)) :: (37, .spec 32 true (.pv (.bool false))) :: (36, .pv (.bool true)) :: (32, .pv (.bool true)) :: eM y i f) (aL nl T es) := by kernel_rfl
theorem e6c (y : Value) (es : List (List PV)) (i f : Int) (K : Env -> Hp -> Prop) : bR Tryz.prog (fun _ => none) 39 (bU (dB Tryz.f157)).toList ((bU (dB Tryz.f157)).toList.drop 9) ((32, .pv (.bool false)) :: eM y i f) (aL nl T es) K =
 K ((38, .pv (.bool false)) :: (37, .pv .unit) :: (32, .pv (.bool false)) :: (32, .pv (.bool false)) :: eM y i f) (aL nl T es) := by kernel_rfl
theorem zn5 : dB Tryz.f157 = .region 6 (bU (dB Tryz.f157)) false := by kernel_rfl
theorem zn6 : (bU (dB Tryz.f157)).size = 11 /\ iI (bU (dB Tryz.f157)).toList = true /\ (bU (dB Tryz.f157)).toList.length = 11 /\ (bU (dB Tryz.f157))[8]? = some (o8 (bU (dB Tryz.f157))) /\
 (o8 (bU (dB Tryz.f157))).dst = some 36 /\ (o8 (bU (dB Tryz.f157))).guard = some (4, true) /\ (o8 (bU (dB Tryz.f157))).op = .call { callee := .value (.tmp 33), args := #[.tmp 34, .tmp 35], argTypes := #[3, 3] } /\
 ((bU (dB Tryz.f157))[4]?).bind (·.dst) = some 32 :=
 ⟨by kernel_rfl, by kernel_rfl, by kernel_rfl, by kernel_rfl, by kernel_rfl, by kernel_rfl, by kernel_rfl, by kernel_rfl⟩
theorem zn7 {F : Fence} {n : Nat} {P : Program} {ops : Array Oper} {Q : Exit -> Act -> World -> Prop} {i : Nat} {rest : List Nat} {a : Act} {w : World} {o : Oper} (ho : ops[i]? = some o)
 (h : if Region.wanted o (yielded ops a.tmps) then o.wpIn F n P a w (wpOpsIn F n P ops Q rest) Q else (∀ f, o.about P w a.eval = some f -> F.fn f) /\ wpOpsIn F n P ops Q rest (a.put o.dst undef) w) : wpOpsIn F n P ops Q (i :: rest) a w := by
 simp only [wpOpsIn, ho]; exact h
theorem zn8 {w : World} {I : Nat -> Prop} {G : Nat -> Pl} {h : Hp} {tm : Array Value} {s : Nat} {b : Bool} (hr : LRel w I G h (.pv (.bool b)) (tm.getD s undef)) : tm[s]? = some (.bool b) := by
 have := hr.bool_eq
 rw [Array.getD_eq_getD_getElem?] at this
 cases hx : tm[s]? with
 | none => rw [hx] at this; simp [undef] at this
 | some v => rw [hx] at this; simpa using this
theorem LRel.raw_eq {w : World} {I : Nat -> Prop} {G : Nat -> Pl} {h : Hp} {v cv : Value} (hr : LRel w I G h (.pv (.raw v)) cv) : cv = v := by cases hr with | pv _ _ h1 => cases h1; rfl
theorem zn9 {N0 : Nat} (hY : yI Z key nl T l N0) (hZ : ∀ w I G h w' I' G' h', Z w I G h -> HRel w I G h -> HRel w' I' G' h' -> TrN 5 w I G h w' I' G' h' -> Z w' I' G' h') (L : List Int) (f i : Nat) (hf : f <= i) (hi : i <= L.length) (hr : R32 L) (hL : L.length < 1000000000000) (hN : L.length = N0) :
 CodeZ Z Tryz.prog 39 (dB Tryz.f157) (eM (.func (.yield l) #[] #[]) i f) (aL nl T (aA L)) fun x e h => ∃ L', x = .normal /\ (if f + 1 < i then YQ key L f i L' else L' = L) /\ e = (38, .pv (.bool false)) :: eM (.func (.yield l) #[] #[]) i f /\ h = aL nl T (aA L') := by
 intro w I G a Qx hs hz hq
 obtain ⟨q1, q2, q3, q4, q5, q6, q7, q8⟩ := zn6
 rw [zn5]
 have ea := e6a (nl := nl) (T := T) (.func (.yield l) #[] #[]) (aA L) i f
 have eb := fun es => e6b (nl := nl) (T := T) (.func (.yield l) #[] #[]) es i f
 have ec := e6c (nl := nl) (T := T) (.func (.yield l) #[] #[]) (aA L) i f
 generalize bU (dB Tryz.f157) = O at *
 generalize o8 O = o at *
 have ww : i64.wrap ((i : Int) - f) = (i : Int) - f := aD (by omega) (by omega)
 rw [ww] at ea
 refine wp_mono (Q := fun x a' w' => x = .normal /\ ∃ L' I' G', (if f + 1 < i then YQ key L f i L' else L' = L) /\ SRel w' I' G' ((38, .pv (.bool false)) :: eM (.func (.yield l) #[] #[]) i f) (aL nl T (aA L')) 39 a' /\ a'.defers = a.defers /\ Z w' I' G' (aL nl T (aA L'))) ((wpIn_wide (n := 0)).1 (wpIn_region (F := wd none) ?_)) ?_
 rotate_left
 ·rintro x a' w' ⟨rfl, L', I', G', h1, h2, h3, h4⟩
  exact hq .normal _ _ w' I' G' a' ⟨L', rfl, h1, rfl, rfl⟩ h2 h3 h4
 rw [q1, show List.range 11 = List.range' 0 8 ++ (8 :: List.range' 9 2) from rfl]
 refine rZ ?_
 rw [show (8 : Nat) = (O.toList.take 8).length by simp [q3]]
 have hsuf : ∀ j, j < (O.toList.drop 9).length -> (O.toList.drop 9)[j]? = O[9 + j]? := fun j _ => by rw [List.getElem?_drop]; simp
 have hl2 : (O.toList.drop 9).length = 2 := by simp [q3]
 refine wC (ro := none) q2 (fun j hj => ?_) (by rw [ea]; exact ⟨rfl, rfl⟩ : bR Tryz.prog (fun _ => none) 39 O.toList (O.toList.take 8) _ _ (fun e' h' => e' = _ /\ h' = aL nl T (aA L))) hs (fun a w h => nomatch h.1) ?_
 ·rw [List.getElem?_take, if_pos (by simp only [List.length_take] at hj; omega)]; simp
 rintro _ _ w1 I1 G1 a1 ⟨rfl, rfl⟩ hs1 hd1 ht1
 rw [show (O.toList.take 8).length = 8 by simp [q3]]
 have hz1 := hZ _ _ _ _ _ _ _ _ hz hs.hh hs1.hh ht1.toN
 have h32 := zn8 (hs1.he 32 _ rfl)
 have hyl : yielded O a1.tmps 4 = some (decide ((i : Int) - f > 1)) := by
  unfold yielded
  rw [q8]; simp [h32]
 have hwd : Region.wanted o (yielded O a1.tmps) = decide ((i : Int) - f > 1) := by unfold Region.wanted; rw [q6]; simp [hyl]
 show wpOpsIn (wd none) 0 Tryz.prog O _ (8 :: List.range' 9 2) a1 w1
 refine zn7 q4 ?_
 rw [hwd]
 have hdst : gP 39 o = true := by unfold gP; rw [q5]; rfl
 by_cases hc : f + 1 < i
 ·have hd' : decide ((i : Int) - f > 1) = true := by simp; omega
  rw [hd'] at hs1 h32 ⊢
  rw [if_pos rfl]
  refine ⟨fun _ _ => trivial, ?_⟩
  have h32' : a1.tmps.getD 32 undef = .bool true := (hs1.he 32 _ rfl).bool_eq
  have v33 := ((hs1.he 33 _ rfl).1 h32').raw_eq
  have v34 := ((hs1.he 34 _ rfl).1 h32').int_eq
  have v35 := ((hs1.he 35 _ rfl).1 h32').int_eq
  obtain ⟨fn, tmps, assign, body, hy, hR⟩ := hY w1 I1 G1 L f i hs1.hh hz1 hc hi hr hL hN
  have hrun : (o.semAt none a1.eval).run Tryz.prog w1 = .ok (.round l fn tmps assign body) w1 := by
   rw [Oper.semAt_none]
   unfold execOp
   rw [q7]
   have e33 : a1.eval (.tmp 33) = .func (.yield l) #[] #[] := v33
   have e34 : a1.eval (.tmp 34) = .int .i64 f := v34
   have e35 : a1.eval (.tmp 35) = .int .i64 i := v35
   have hres : resolve a1.eval { callee := .value (.tmp 33), args := #[.tmp 34, .tmp 35], argTypes := #[3, 3] } o.type = pure { target := .fn (.yield l) #[], args := #[.int .i64 f, .int .i64 i] } := by
    simp [resolve, e33, e34, e35, Deferred.ofValue]
   simp only [hres, pure_bind]
   exact hy
  rw [hrun]
  refine ⟨(fun x => by cases x), hR.mono ?_⟩
  rintro e w2 ⟨rfl, L', I2, G2, y1, y2, y3, y4, y5⟩
  have hs2 : SRel w2 I2 G2 ((36, .pv (.bool true)) :: (32, .pv (.bool true)) :: eM (.func (.yield l) #[] #[]) i f) (aL nl T (aA L')) 39 (a1.put o.dst (.bool true)) := by
   have s1 : SRel w1 I1 G1 ((32, .pv (.bool true)) :: eM (.func (.yield l) #[] #[]) i f) (aL nl T (aA L)) 39 a1 := hs1.le (LeE.le ⟨rfl, rfl, rfl, rfl, rfl, rfl, trivial⟩)
   obtain ⟨p1, p2⟩ := jW (v := .pv (.bool true)) hdst s1.hn y2 (s1.he.mono y3 y4) (.pv _ _ (.bool true))
   have : put o (.pv (.bool true)) ((32, .pv (.bool true)) :: eM (.func (.yield l) #[] #[]) i f) = (36, .pv (.bool true)) :: (32, .pv (.bool true)) :: eM (.func (.yield l) #[] #[]) i f := by unfold put; rw [q5]; rfl
   rwa [this] at p1
  have := wC (ro := none) (n := 0) (k := 9) q2 hsuf (by rw [eb]; exact ⟨rfl, rfl⟩ : bR Tryz.prog (fun _ => none) 39 O.toList (O.toList.drop 9) _ _ (fun e' h' => e' = _ /\ h' = aL nl T (aA L'))) hs2 (Q := fun x a' w' => x = .normal /\ ∃ L' I' G', (if f + 1 < i then YQ key L f i L' else L' = L) /\ SRel w' I' G' ((38, .pv (.bool false)) :: eM (.func (.yield l) #[] #[]) i f) (aL nl T (aA L')) 39 a' /\ a'.defers = a.defers /\ Z w' I' G' (aL nl T (aA L'))) (fun a w h => nomatch h.1) (by
   rintro _ _ w3 I3 G3 a3 ⟨rfl, rfl⟩ hs3 hd3 ht3
   refine ⟨rfl, L', I3, G3, by rw [if_pos hc]; exact y1, hs3.le (LeE.le ⟨rfl, rfl, rfl, rfl, rfl, rfl, trivial⟩), hd3.trans ((by unfold Act.put; cases o.dst <;> rfl : (a1.put o.dst (.bool true)).defers = a1.defers).trans hd1), hZ _ _ _ _ _ _ _ _ y5 hs2.hh hs3.hh ht3.toN⟩)
  rw [hl2] at this
  exact this
 ·have hd' : decide ((i : Int) - f > 1) = false := by simp; omega
  rw [hd'] at hs1 h32 ⊢
  rw [if_neg (by simp)]
  refine ⟨fun _ _ => trivial, ?_⟩
  have hlt : 36 < a1.tmps.size := by rw [hs1.hn]; omega
  have hs2 : SRel w1 I1 G1 ((32, .pv (.bool false)) :: eM (.func (.yield l) #[] #[]) i f) (aL nl T (aA L)) 39 (a1.put o.dst undef) := by
   have s1 : SRel w1 I1 G1 ((32, .pv (.bool false)) :: eM (.func (.yield l) #[] #[]) i f) (aL nl T (aA L)) 39 a1 := hs1.le (LeE.le ⟨rfl, rfl, rfl, rfl, rfl, rfl, trivial⟩)
   obtain ⟨p1, p2⟩ := jW (v := .bot) (cv := undef) hdst s1.hn s1.hh s1.he (.bot _)
   have : put o .bot ((32, .pv (.bool false)) :: eM (.func (.yield l) #[] #[]) i f) = (36, .bot) :: (32, .pv (.bool false)) :: eM (.func (.yield l) #[] #[]) i f := by unfold put; rw [q5]; rfl
   rw [this] at p1
   exact p1.le (LeE.le ⟨rfl, rfl, rfl, rfl, rfl, rfl, trivial⟩)
  have := wC (ro := none) (n := 0) (k := 9) q2 hsuf (by rw [ec]; exact ⟨rfl, rfl⟩ : bR Tryz.prog (fun _ => none) 39 O.toList (O.toList.drop 9) _ _ (fun e' h' => e' = _ /\ h' = aL nl T (aA L))) hs2 (Q := fun x a' w' => x = .normal /\ ∃ L' I' G', (if f + 1 < i then YQ key L f i L' else L' = L) /\ SRel w' I' G' ((38, .pv (.bool false)) :: eM (.func (.yield l) #[] #[]) i f) (aL nl T (aA L')) 39 a' /\ a'.defers = a.defers /\ Z w' I' G' (aL nl T (aA L'))) (fun a w h => nomatch h.1) (by
   rintro _ _ w3 I3 G3 a3 ⟨rfl, rfl⟩ hs3 hd3 ht3
   exact ⟨rfl, L, I3, G3, by rw [if_neg hc], hs3.le (LeE.le ⟨rfl, rfl, rfl, rfl, rfl, rfl, trivial⟩), hd3.trans ((by unfold Act.put; cases o.dst <;> rfl : (a1.put o.dst undef).defers = a1.defers).trans hd1), hZ _ _ _ _ _ _ _ _ hz1 hs2.hh hs3.hh ht3.toN⟩)
  rw [hl2] at this
  exact this
end
end Go.Eng



namespace Go.Eng.Srt
open Go Go.Eng
section
variable (key : Int -> Int)
def eP (x y : Int) : Bool := decide (key x ≠ 0) && decide (key x < key y)
def pR (x : Int) : List Int -> List Int
 | [] => [x]
 | y :: r => if eP key x y = true then y :: pR x r else x :: y :: r
def ins (l : List Int) (x : Int) : List Int := (pR key x l.reverse).reverse
def c4 (l : List Int) : List Int := l.foldl (ins key) []
inductive Eqv : List Int -> List Int -> Prop
 | refl (a : List Int) : Eqv a a
 | swap (u v w : List Int) (x y : Int) (hx : key x ≠ 0) (hy : key y ≠ 0) (hxy : key x ≠ key y) (h : Eqv (u ++ y :: x :: v) w) : Eqv (u ++ x :: y :: v) w
def bZ : List Int -> Prop
 | x :: y :: r => (key y ≠ 0 -> key x <= key y) /\ bZ (y :: r)
 | _ => True
end
variable {key : Int -> Int}
theorem pS {x y : Int} : eP key x y = true ↔ key x ≠ 0 /\ key x < key y := by simp [eP]
theorem zfq {x y : Int} : eP key x y = false ↔ key x = 0 ∨ key y <= key x := by
 simp only [eP, Bool.and_eq_false_imp, decide_eq_true_eq, decide_eq_false_iff_not]
 constructor
 ·intro h; by_cases h0 : key x = 0
  ·exact .inl h0
  ·exact .inr (by have := h h0; omega)
 ·rintro (h | h) h0
  ·exact absurd h h0
  ·omega
theorem zfr {x : Int} : ∀ {B A : List Int}, (∀ y ∈ B, eP key x y = true) -> (A = [] ∨ ∃ z A', A = z :: A' /\ eP key x z = false) -> pR key x (B ++ A) = B ++ x :: A
 | [], A, _, h => by
   rcases h with rfl | ⟨z, A', rfl, h⟩
   ·rfl
   ·simp [pR, h]
 | y :: B, A, hB, h => by
   rw [List.cons_append, pR, if_pos (hB y List.mem_cons_self), zfr (fun z hz => hB z (List.mem_cons_of_mem _ hz)) h]; rfl
theorem m8 {x : Int} {A B : List Int} (h1 : ∀ y ∈ B, eP key x y = true) (h2 : A = [] ∨ ∃ A' z, A = A' ++ [z] /\ eP key x z = false) : ins key (A ++ B) x = A ++ x :: B := by
 unfold ins
 rw [List.reverse_append, zfr (fun y hy => h1 y (List.mem_reverse.1 hy)) (h2.elim (fun e => .inl (by rw [e]; rfl)) fun ⟨A', z, e, h⟩ => .inr ⟨z, A'.reverse, by rw [e]; simp, h⟩)]
 simp
theorem yJ (l : List Int) (x : Int) : ∃ A B, l = A ++ B /\ (∀ y ∈ B, eP key x y = true) /\ (A = [] ∨ ∃ A' z, A = A' ++ [z] /\ eP key x z = false) := by
 have : ∀ r : List Int, ∃ B A, r = B ++ A /\ (∀ y ∈ B, eP key x y = true) /\ (A = [] ∨ ∃ z A', A = z :: A' /\ eP key x z = false) := by
  intro r
  induction r with
  | nil => exact ⟨[], [], rfl, (fun y hy => by cases hy), .inl rfl⟩
  | cons y r ih =>
    cases hp : eP key x y with
    | true =>
      obtain ⟨B, A, e, h1, h2⟩ := ih
      exact ⟨y :: B, A, by rw [e]; rfl, fun z hz => by rcases List.mem_cons.1 hz with rfl | hz; exact hp; exact h1 z hz, h2⟩
    | false => exact ⟨[], y :: r, rfl, (fun y hy => by cases hy), .inr ⟨y, r, rfl, hp⟩⟩
 obtain ⟨B, A, e, h1, h2⟩ := this l.reverse
 refine ⟨A.reverse, B.reverse, by rw [<- List.reverse_append, <- e]; simp, fun y hy => h1 y (List.mem_reverse.1 hy), h2.elim (fun e => .inl (by rw [e]; rfl)) fun ⟨z, A', e, h⟩ => .inr ⟨A'.reverse, z, by rw [e]; simp, h⟩⟩
theorem zfs {l : List Int} {x y : Int} (hx : key x ≠ 0) (hxy : key x < key y) : ins key (ins key l y) x = ins key (ins key l x) y := by
 obtain ⟨B1, B2, rfl, b1, b2⟩ := yJ (key := key) l y
 obtain ⟨C1, C2, rfl, c1, c2⟩ := yJ (key := key) B1 x
 have px : ∀ z ∈ B2, eP key x z = true := fun z hz => pS.2 ⟨hx, by have := (pS.1 (b1 z hz)).2; omega⟩
 rw [m8 b1 b2]
 have e1 : C1 ++ C2 ++ y :: B2 = C1 ++ (C2 ++ y :: B2) := by simp
 have e2 : C1 ++ C2 ++ B2 = C1 ++ (C2 ++ B2) := by simp
 rw [e1, m8 (B := C2 ++ y :: B2) (fun z hz => ?_) c2, e2, m8 (B := C2 ++ B2) (fun z hz => ?_) c2]
 ·have e3 : C1 ++ x :: (C2 ++ B2) = (C1 ++ x :: C2) ++ B2 := by simp
  rw [e3, m8 b1 (.inr ?_)]
  ·simp
  ·rcases C2.eq_nil_or_concat with rfl | ⟨D, z, rfl⟩
   ·exact ⟨C1, x, rfl, zfq.2 (.inr (by omega))⟩
   ·refine ⟨C1 ++ x :: D, z, by simp, ?_⟩
    rcases b2 with e | ⟨A', z', e, h⟩
    ·simp at e
    ·have : z = z' := by
      have := congrArg List.getLast? e
      simp at this; exact this
     rw [this]; exact h
 ·rcases List.mem_append.1 hz with hz | hz
  ·exact c1 z hz
  ·exact px z hz
 ·rcases List.mem_append.1 hz with hz | hz
  ·exact c1 z hz
  ·rcases List.mem_cons.1 hz with rfl | hz
   ·exact pS.2 ⟨hx, hxy⟩
   ·exact px z hz
theorem zoa {l : List Int} {x y : Int} (hx : key x ≠ 0) (hy : key y ≠ 0) (hxy : key x ≠ key y) : ins key (ins key l x) y = ins key (ins key l y) x := by
 rcases Int.lt_or_gt_of_ne hxy with h | h
 ·exact (zfs hx h).symm
 ·exact zfs hy h
theorem zft (l : List Int) (x : Int) : c4 key (l ++ [x]) = ins key (c4 key l) x := by simp [c4]
theorem Eqv.trans {a b c : List Int} (h : Eqv key a b) (k : Eqv key b c) : Eqv key a c := by
 induction h with
 | refl a => exact k
 | swap u v w x y hx hy hxy h ih => exact .swap u v c x y hx hy hxy (ih k)
theorem Eqv.app {a b : List Int} (h : Eqv key a b) (p q : List Int) : Eqv key (p ++ (a ++ q)) (p ++ (b ++ q)) := by
 induction h with
 | refl a => exact .refl _
 | swap u v w x y hx hy hxy h ih =>
   have := Eqv.swap (p ++ u) (v ++ q) _ x y hx hy hxy (by simpa using ih)
   simpa using this
theorem Eqv.symm {a b : List Int} (h : Eqv key a b) : Eqv key b a := by
 induction h with
 | refl a => exact .refl _
 | swap u v w x y hx hy hxy h ih => exact ih.trans (.swap u v _ y x hy hx (Ne.symm hxy) (.refl _))
theorem zob {a b : List Int} (h : Eqv key a b) : c4 key a = c4 key b := by
 induction h with
 | refl a => rfl
 | swap u v w x y hx hy hxy h ih =>
   rw [<- ih]
   simp only [c4, List.foldl_append, List.foldl_cons]
   rw [zoa hx hy hxy]
theorem Eqv.len {a b : List Int} (h : Eqv key a b) : a.length = b.length := by
 induction h with
 | refl a => rfl
 | swap u v w x y hx hy hxy h ih => rw [<- ih]; simp
theorem Eqv.mem {a b : List Int} (h : Eqv key a b) {z : Int} : z ∈ a ↔ z ∈ b := by
 induction h with
 | refl a => exact Iff.rfl
 | swap u v w x y hx hy hxy h ih => rw [<- ih]; simp only [List.mem_append, List.mem_cons]; exact or_congr_right ⟨fun h => h.elim (fun e => .inr (.inl e)) (fun h => h.elim .inl fun h => .inr (.inr h)), fun h => h.elim (fun e => .inr (.inl e)) (fun h => h.elim .inl fun h => .inr (.inr h))⟩
theorem Eqv.ahead {x : Int} (hx : key x ≠ 0) : ∀ {B : List Int} (q : List Int), (∀ y ∈ B, key y ≠ 0 /\ key y ≠ key x) -> Eqv key (B ++ x :: q) (x :: (B ++ q))
 | [], q, _ => .refl _
 | y :: B, q, h => by
   have h1 := Eqv.ahead hx (B := B) q fun z hz => h z (List.mem_cons_of_mem _ hz)
   have h2 := h1.app [y] []
   simp only [List.append_nil, List.cons_append, List.nil_append] at h2
   obtain ⟨hy, hyx⟩ := h y List.mem_cons_self
   exact h2.trans (.swap [] (B ++ q) _ y x hy hx hyx (.refl _))
theorem zoc (hk : ∀ x, 0 <= key x) (l : List Int) (x : Int) : Eqv key (l ++ [x]) (ins key l x) := by
 obtain ⟨A, B, rfl, h1, h2⟩ := yJ (key := key) l x
 rw [m8 h1 h2]
 by_cases hB : B = []
 ·subst hB; simp; exact .refl _
 ·obtain ⟨y, hy⟩ := List.exists_mem_of_ne_nil B hB
  have hx := (pS.1 (h1 y hy)).1
  have := (Eqv.ahead hx (B := B) [] fun z hz => by have := (pS.1 (h1 z hz)).2; have := hk x; omega).app A []
  simpa using this
theorem gY {p : List Int -> Prop} (h0 : p []) (h1 : ∀ l x, p l -> p (l ++ [x])) (l : List Int) : p l := by
 have : ∀ r : List Int, p r.reverse := by
  intro r
  induction r with
  | nil => exact h0
  | cons x r ih => rw [List.reverse_cons]; exact h1 _ _ ih
 have := this l.reverse
 rwa [List.reverse_reverse] at this
theorem yK (hk : ∀ x, 0 <= key x) (l : List Int) : Eqv key l (c4 key l) := by
 induction l using gY with
 | h0 => exact .refl _
 | h1 l x ih =>
   rw [zft]
   have := ih.app [] [x]
   exact Eqv.trans (by simpa using this) (zoc hk _ x)
theorem lX : ∀ {A B : List Int}, bZ key (A ++ B) ↔ bZ key A /\ bZ key B /\ (∀ z x, A.getLast? = some z -> B.head? = some x -> key x ≠ 0 -> key z <= key x)
 | [], B => by simp [bZ]
 | [a], [] => by simp [bZ]
 | [a], b :: B => by simp [bZ, and_comm]
 | a :: c :: A, B => by
   have := lX (A := c :: A) (B := B)
   simp only [List.cons_append, bZ] at this ⊢
   rw [this, List.getLast?_cons_cons, and_assoc]
theorem zod {l : List Int} (h : bZ key l) : c4 key l = l := by
 revert h
 induction l using gY with
 | h0 => exact fun _ => rfl
 | h1 l x ih =>
   intro h
   obtain ⟨q1, q2, q3⟩ := lX.1 h
   rw [zft, ih q1]
   have := m8 (key := key) (x := x) (A := l) (B := []) (fun y hy => by cases hy) (by
    rcases l.eq_nil_or_concat with rfl | ⟨D, z, rfl⟩
    ·exact .inl rfl
    ·refine .inr ⟨D, z, by simp, zfq.2 ?_⟩
     by_cases hx : key x = 0
     ·exact .inl hx
     ·exact .inr (q3 z x (by simp) rfl hx))
   simpa using this
theorem zfu : ∀ {S' S : List Int}, Stab key S S' -> (∀ x ∈ S, key x ≠ 0) -> Eqv key S S'
 | [], S, h, _ => by have := h.len; cases S with | nil => exact .refl _ | cons => simp at this
 | y :: r, S, h, h0 => by
   have hf := h.2 (key y)
   rw [List.filter_cons, if_pos (by simp)] at hf
   obtain ⟨A, B, rfl, hA, hB⟩ := List.filter_eq_cons_iff.1 hf
   have hy : key y ≠ 0 := h0 y (by simp)
   have hA' : ∀ z ∈ A, key z ≠ key y := fun z hz => by have := hA z hz; simpa using this
   have e1 := Eqv.ahead hy (B := A) B fun z hz => ⟨h0 z (by simp [hz]), hA' z hz⟩
   have hs : Stab key (A ++ B) r := by
    refine ⟨(List.perm_cons y).1 ((List.perm_middle.symm).trans h.1), fun c => ?_⟩
    have := h.2 c
    rw [List.filter_append, List.filter_cons, List.filter_cons] at this
    rw [List.filter_append]
    by_cases hc : key y = c
    ·have hn : A.filter (fun x => decide (key x = c)) = [] := List.filter_eq_nil_iff.2 fun z hz => by simp only [decide_eq_true_eq]; intro e; exact hA' z hz (e.trans hc.symm)
     rw [hn] at this ⊢
     simp only [hc, decide_true, if_true, List.nil_append, List.cons.injEq, true_and] at this
     exact this
    ·simp only [hc, decide_false, Bool.false_eq_true, if_false] at this
     exact this
   have e2 := (zfu hs fun z hz => h0 z (by rcases List.mem_append.1 hz with hz | hz <;> simp [hz])).app [y] []
   simp only [List.append_nil, List.cons_append, List.nil_append] at e2
   exact e1.trans e2
theorem zfv : ∀ {S : List Int}, Srtd key S -> bZ key S
 | [], _ => trivial
 | [a], _ => trivial
 | a :: b :: S, h => ⟨fun _ => (List.pairwise_cons.1 h).1 b List.mem_cons_self, zfv (List.pairwise_cons.1 h).2⟩
theorem tF (L : List Int) {i j : Nat} (hij : i <= j) (hj : j <= L.length) : L = L.take i ++ ((L.take j).drop i ++ L.drop j) /\ (L.take i).length = i /\ ((L.take j).drop i).length = j - i := by
 refine ⟨?_, by rw [List.length_take]; omega, by rw [List.length_drop, List.length_take]; omega⟩
 have h1 : L = L.take j ++ L.drop j := (List.take_append_drop j L).symm
 have h2 : L.take j = (L.take j).take i ++ (L.take j).drop i := (List.take_append_drop i _).symm
 rw [List.take_take, Nat.min_eq_left hij] at h2
 rw [<- List.append_assoc, <- h2]; exact h1
theorem zoe (hk : ∀ x, 0 <= key x) {L : List Int} {i j : Nat} (hij : i <= j) (hj : j <= L.length) (hb : i = 0 ∨ key (L.getD (i - 1) 0) = 0) (hnz : ∀ k, i <= k -> k < j -> key (L.getD k 0) ≠ 0) (hend : j = L.length ∨ key (L.getD j 0) = 0)
 (hc : bZ key (L.take i)) {S' : List Int} (hs : Srtd key S') (hst : Stab key ((L.take j).drop i) S') :
 Eqv key L (L.take i ++ (S' ++ L.drop j)) /\ bZ key ((L.take i ++ (S' ++ L.drop j)).take (j + 1)) /\ (j < L.length -> key ((L.take i ++ (S' ++ L.drop j)).getD j 0) = 0) := by
 obtain ⟨c1, c2, c3⟩ := tF L hij hj
 have hl : S'.length = j - i := by rw [<- hst.len]; exact c3
 refine ⟨?_, ?_, fun hlt => ?_⟩
 ·have hm : ∀ x ∈ (L.take j).drop i, key x ≠ 0 := fun x hx => by
   obtain ⟨k, hk1, hk2⟩ := List.getElem_of_mem hx
   have := hnz (i + k) (by omega) (by omega)
   rw [List.getElem_drop, List.getElem_take] at hk2
   have hl2 : i + k < L.length := by omega
   simp only [List.getD, List.getElem?_eq_getElem hl2, Option.getD_some, hk2] at this
   exact this
  have := (zfu hst hm).app (L.take i) (L.drop j)
  rwa [<- c1] at this
 ·rw [List.take_append, c2, List.take_of_length_le (by omega), List.take_append, hl, List.take_of_length_le (by omega : S'.length <= j + 1 - i), show j + 1 - i - (j - i) = 1 by omega]
  have hR : ∀ x, ((L.drop j).take 1).head? = some x -> key x = 0 := fun x hx => by
   rcases hend with e | e
   ·rw [List.drop_eq_nil_of_le (by omega)] at hx; cases hx
   ·rcases Nat.lt_or_ge j L.length with h' | h'
    ·rw [List.drop_eq_getElem_cons h'] at hx
     simp only [List.take_succ_cons, List.head?_cons, Option.some.injEq] at hx
     rw [<- hx]
     simpa [List.getD, List.getElem?_eq_getElem h'] using e
    ·rw [List.drop_eq_nil_of_le h'] at hx; cases hx
  refine lX.2 ⟨hc, lX.2 ⟨zfv hs, ?_, fun z x _ hx h0 => absurd (hR x hx) h0⟩, fun z x hz hx h0 => ?_⟩
  ·cases L.drop j with
   | nil => trivial
   | cons a r => trivial
  ·have : key z = 0 := by
    rcases hb with rfl | hb
    ·simp at hz
    ·rw [List.getLast?_eq_getElem?, c2] at hz
     by_cases h0 : i = 0
     ·subst h0; simp at hz
     ·rw [List.getElem?_take, if_pos (by omega)] at hz
      simpa [List.getD, hz] using hb
   rw [this]; exact hk x
 ·rcases hend with e | e
  ·omega
  ·rw [<- List.append_assoc]
   simp only [List.getD] at e ⊢
   rw [List.getElem?_append_right (by simp only [List.length_append]; omega), List.length_append, c2, hl, List.getElem?_drop, show j + (j - (i + (j - i))) = j by omega]
   exact e
theorem zof {S : List Int} (h : S.length <= 1) : Srtd key S := by
 match S, h with
 | [], _ => exact List.Pairwise.nil
 | [a], _ => exact List.pairwise_singleton _ _
end Go.Eng.Srt



namespace Go.Eng
open Go Go.Proofs Go.Eng.Rows Go.Eng.Srt
section
variable {Z : World -> (Nat -> Prop) -> (Nat -> Pl) -> Hp -> Prop} {key : Int -> Int} {nl : Bool} {T : PV} {l : Nat} {y : Value} {es : List (List PV)}
theorem eI0 (Q : Qt) : dA Tryz.prog (fun _ => none) 5 39 lM (fun _ => none) (dD (cM Tryz.f157)) (eU [.pv (.raw y), .box 4 0, .box 3 0] 0) (aL nl T es) Q = Q .normal (eN y 0) (aL nl T es) := by kernel_rfl
theorem eI1 (i : Int) (Q : Qt) : dA Tryz.prog (fun _ => none) 5 39 lM (fun _ => none) (dD (cL Tryz.f157)) (eN y i) (aL nl T es) Q =
 if decide (i < (es.length : Int)) = true then Q .normal [(0, .pv (.raw y)), (1, .box 4 0), (2, .box 3 0), (4, .pv (.int .i64 i)), (9, .pv (.bool (decide (i < (es.length : Int)))))] (aL nl T es)
 else Q (.exit 0) [(0, .pv (.raw y)), (1, .box 4 0), (2, .box 3 0), (4, .pv (.int .i64 i)), (9, .pv (.bool (decide (i < (es.length : Int)))))] (aL nl T es) := by kernel_rfl
theorem eI3 (i : Int) (Q : Qt) : dA Tryz.prog (fun _ => none) 5 39 lM (fun _ => none) (dD (cB Tryz.f157)) (eN y i) (aL nl T es) Q = Q .normal (eM y i i) (aL nl T es) := by kernel_rfl
theorem eI2 (i : Int) (Q : Qt) : dA Tryz.prog (fun _ => none) 5 39 lM (fun _ => none) (cD (cD (cL Tryz.f157))) (eN y i) (aL nl T es) Q = Q .normal (eN y (i64.wrap (i + 1))) (aL nl T es) := by kernel_rfl
def yL (y : Value) (i f : Int) (b : Bool) : Env := [(0, .pv (.raw y)), (1, .box 4 0), (2, .box 3 0), (4, .pv (.int .i64 i)), (5, .pv (.int .i64 f)), (25, .pv (.bool b))]
theorem eI4 (i f : Int) (J : Int -> Prop) (μ : Int -> Nat) (Q : Qt) : dA Tryz.prog (fun _ => none) 5 39 lM (fun zz_ => match zz_ with | 4 => some ⟨Int × Unit, fun s => (eM y s.1 f, aL nl T es), fun _ s => J s.1, fun s => μ s.1, fun e h => (gI e 4, ()), [], [0, 1, 2, 4, 5], [], fun p => ∀ (x4 : Int), p (x4, ()), fun p h s => h s.1⟩ | _ => none) (dD (cD (cB Tryz.f157))) (eM y i f) (aL nl T es) Q =
 ((SameSt (eM y i f, aL nl T es) (eM y i f, aL nl T es) /\ J i) /\ ∀ (x4 : Int), J x4 -> if decide (x4 < (es.length : Int)) = true then aU es x4 1 /\ ∃ (n : Int), (List.drop 0 (es.getD x4.toNat [])).head? = some (.int .i32 n) /\ PCall Tryz.prog 90 [T, .int .i32 n] fun (v : PV) => ∃ (n1 : Int), v = .int .i64 n1 /\
  if (n1 != (0 : Int)) = true then SameSt (eM y (i64.wrap (x4 + 1)) f, aL nl T es) (eM y (i64.wrap (x4 + 1)) f, aL nl T es) /\ J (i64.wrap (x4 + 1)) /\ μ (i64.wrap (x4 + 1)) < μ x4
  else Q .normal (yL y x4 f (n1 != (0 : Int))) (aL nl T es)
   else Q .normal (yL y x4 f false) (aL nl T es)) := by kernel_rfl
theorem yM : cM Tryz.f157 = .seq (dD (cM Tryz.f157)) (.block 0 (.loop (cL Tryz.f157))) /\
 cL Tryz.f157 = .seq (dD (cL Tryz.f157)) (.seq (.block 1 (cB Tryz.f157)) (cD (cD (cL Tryz.f157)))) /\
 cB Tryz.f157 = .seq (dD (cB Tryz.f157)) (.seq (dD (cD (cB Tryz.f157))) (.seq (dB Tryz.f157) (.cond (.tmp 38) .ret .skip))) := ⟨by kernel_rfl, by kernel_rfl, by kernel_rfl⟩
theorem CodeZ.le {P : Program} {N : Nat} {c : Code} {e e' : Env} {h : Hp} {Q : Qt} (hl : LeE e' e) (hK : CodeZ Z P N c e' h Q) : CodeZ Z P N c e h Q :=
 fun w I G a Qx hs hz hq => hK w I G a Qx (hs.le hl.le) hz hq
theorem zog (hk : ∀ x, 0 <= key x) (hT : ∀ r : Int, (-2147483648 <= r /\ r <= 2147483647) -> PCall Tryz.prog 90 [T, .int .i32 r] fun v => v = .int .i64 (key r)) 
 (hZ : ∀ w I G h w' I' G' h', Z w I G h -> HRel w I G h -> HRel w' I' G' h' -> TrN 5 w I G h w' I' G' h' -> Z w' I' G' h') (L0 : List Int) (hY : yI Z key nl T l L0.length) (hr : R32 L0) (hL : L0.length < 1000000000000) :
 CodeZ Z Tryz.prog 39 (cM Tryz.f157) (eU [.pv (.raw (.func (.yield l) #[] #[])), .box 4 0, .box 3 0] 0) (aL nl T (aA L0)) fun x e h => x = .normal /\ h = aL nl T (aA (c4 key L0)) := by
 obtain ⟨y, hy⟩ : ∃ y : Value, y = .func (.yield l) #[] #[] := ⟨_, rfl⟩
 rw [yM.1, <- hy]
 refine CodeZ.seq (CodeZ.of (n0 := 5) hZ (fV (Eq.mpr (eI0 _) ?_)))
 show CodeZ Z Tryz.prog 39 (.block 0 (.loop (cL Tryz.f157))) (eN y 0) (aL nl T (aA L0)) _
 refine CodeZ.block (CodeZ.loop (σ := Nat × List Int) (fun s => (eN y s.1, aL nl T (aA s.2))) (fun s => s.1 <= L0.length + 1 /\ Eqv key L0 s.2 /\ bZ key (s.2.take s.1) /\ (s.1 = 0 ∨ L0.length < s.1 ∨ key (s.2.getD (s.1 - 1) 0) = 0)) (fun s => L0.length + 1 - s.1) (0, L0) (LeE.le ⟨rfl, rfl, rfl, rfl, trivial⟩) rfl ⟨by omega, .refl _, by simp [bZ], .inl rfl⟩ ?_)
 rintro ⟨i, L⟩ ⟨hi, hq, hc, hb⟩
 have hlen := hq.len
 have hr' : R32 L := fun x hx => hr x (hq.mem.2 hx)
 dsimp only at hi hq hc hb hlen ⊢
 rw [yM.2.1]
 refine CodeZ.seq (CodeZ.of (n0 := 5) hZ (fV (Eq.mpr (eI1 _ _) ?_)))
 by_cases hlt : i < L.length
 ·rw [if_pos (by simpa using hlt)]
  show CodeZ Z Tryz.prog 39 (.seq (.block 1 (cB Tryz.f157)) (cD (cD (cL Tryz.f157)))) _ _ _
  refine CodeZ.le (e' := eN y i) ⟨rfl, rfl, rfl, rfl, trivial⟩ (CodeZ.seq (CodeZ.block ?_))
  rw [yM.2.2]
  refine CodeZ.seq (CodeZ.of (n0 := 5) hZ (fV (Eq.mpr (eI3 _ _) ?_)))
  show CodeZ Z Tryz.prog 39 (.seq (dD (cD (cB Tryz.f157))) (.seq (dB Tryz.f157) (.cond (.tmp 38) .ret .skip))) (eM y i i) _ _
  refine CodeZ.seq (CodeZ.of (n0 := 5) hZ (fV (Eq.mpr (eI4 _ _ (fun x => ∃ j : Nat, x = j /\ i <= j /\ j <= L.length /\ ∀ k, i <= k -> k < j -> key (L.getD k 0) ≠ 0) (fun x => ((L.length : Int) - x).toNat) _) ?_)))
  refine ⟨⟨rfl, i, rfl, Nat.le_refl _, by omega, fun k h1 h2 => by omega⟩, ?_⟩
  rintro _ ⟨j, rfl, hij, hj, hnz⟩
  -- what follows the row of marks
  have rest : ∀ b, (j = L.length ∨ key (L.getD j 0) = 0) -> CodeZ Z Tryz.prog 39 (.seq (dB Tryz.f157) (.cond (.tmp 38) .ret .skip)) (yL y j i b) (aL nl T (aA L)) fun x e h => match x with
   | .normal => CodeZ Z Tryz.prog 39 (cD (cD (cL Tryz.f157))) e h fun x e h => match x with
     | .normal => ∃ s' : Nat × List Int, (∀ i v, get (eN y s'.1) i = some v -> get e i = some v) /\ h = aL nl T (aA s'.2) /\ (s'.1 <= L0.length + 1 /\ Eqv key L0 s'.2 /\ bZ key (s'.2.take s'.1) /\ (s'.1 = 0 ∨ L0.length < s'.1 ∨ key (s'.2.getD (s'.1 - 1) 0) = 0)) /\ L0.length + 1 - s'.1 < L0.length + 1 - i
     | _ => False
   | _ => False := fun b hend => by
   refine CodeZ.le (e' := eM y j i) ⟨rfl, rfl, rfl, rfl, rfl, trivial⟩ (CodeZ.seq ?_)
   rw [hy]
   refine (zn9 hY hZ L i j hij hj hr' (by omega) hlen.symm).mono ?_
   rintro _ _ _ ⟨L', rfl, hL', rfl, rfl⟩
   refine CodeZ.cond (t := false) rfl ?_
   simp only [Bool.false_eq_true, if_false]
   refine CodeZ.skip ?_
   rw [<- hy]
   refine CodeZ.le (e' := eN y j) ⟨rfl, rfl, rfl, rfl, trivial⟩ (CodeZ.of (n0 := 5) hZ (fV (Eq.mpr (eI2 _ _) ?_)))
   have wj : i64.wrap ((j : Int) + 1) = ((j + 1 : Nat) : Int) := by rw [aD (by omega) (by omega)]; omega
   rw [wj]
   have hb' : i = 0 ∨ key (L.getD (i - 1) 0) = 0 := by
    rcases hb with h | h | h
    ·exact .inl h
    ·omega
    ·exact .inr h
   obtain ⟨S', hs, hst, rfl⟩ : ∃ S', Srtd key S' /\ Stab key ((L.take j).drop i) S' /\ L' = L.take i ++ (S' ++ L.drop j) := by
    by_cases h1 : i + 1 < j
    ·rw [if_pos h1] at hL'
     obtain ⟨S', e, h2, h3⟩ := hL'
     exact ⟨S', h2, h3, e⟩
    ·rw [if_neg h1] at hL'
     obtain ⟨c1, c2, c3⟩ := tF L hij hj
     exact ⟨_, zof (by omega), Stab.refl _, hL'.trans c1⟩
   obtain ⟨g1, g2, g3⟩ := zoe hk hij hj hb' hnz hend hc hs hst
   refine ⟨(j + 1, _), LeE.le ⟨rfl, rfl, rfl, rfl, trivial⟩, rfl, ⟨by dsimp only; omega, hq.trans g1, g2, ?_⟩, by dsimp only; omega⟩
   rcases Nat.lt_or_ge j L.length with h | h
   ·exact .inr (.inr (g3 h))
   ·exact .inr (.inl (by dsimp only; omega))
  by_cases hjl : j < L.length
  ·rw [if_pos (by simpa using hjl)]
   refine ⟨cJ (enc := fun n => [PV.int .i32 n]) (l := L) (fun _ => rfl) (by omega) (by omega), L.getD j 0, by rw [Int.toNat_natCast, zjz hjl]; rfl, (hT _ (hr' _ (List.mem_of_getElem? (pP hjl)))).mono ?_⟩
   rintro _ rfl
   refine ⟨_, rfl, ?_⟩
   by_cases hz : key (L.getD j 0) = 0
   ·rw [if_neg (by simpa using hz)]
    exact (rest _ (.inr hz)).mono fun x e h hx => by cases x <;> first | exact hx.elim | exact CodeZ.mono hx fun x e h hx => (by cases x <;> first | exact hx | exact hx.elim)
   ·rw [if_pos (by simpa using hz)]
    have wj : i64.wrap ((j : Int) + 1) = ((j + 1 : Nat) : Int) := by rw [aD (by omega) (by omega)]; omega
    rw [wj]
    refine ⟨rfl, ⟨j + 1, rfl, by omega, hjl, fun k h1 h2 => ?_⟩, by omega⟩
    rcases Nat.lt_or_ge k j with h | h
    ·exact hnz k h1 h
    ·have : k = j := by omega
     subst this; exact hz
  ·rw [if_neg (by simpa using hjl)]
   exact (rest _ (.inl (by omega))).mono fun x e h hx => by cases x <;> first | exact hx.elim | exact CodeZ.mono hx fun x e h hx => (by cases x <;> first | exact hx | exact hx.elim)
 ·rw [if_neg (by simpa using hlt)]
  refine ⟨rfl, ?_⟩
  rw [List.take_of_length_le (by omega)] at hc
  rw [zob hq, zod hc]
end
end Go.Eng



namespace Go.Eng
open Go Go.Proofs Go.Eng.Rows Go.Eng.Srt
section
variable {w w' : World} {I I' : Nat -> Prop} {G G' : Nat -> Pl} {h h' : Hp}
theorem HRel.off (hh : HRel w I G h) {l : Nat} (o : Obj) (hI : ¬ I l) (ho : ¬ aV h G l) : HRel (w.putObj l o) I G h := by
 have hw : ∀ b, b ≠ l -> (w.putObj l o).heap[b]? = w.heap[b]? := fun b hb => World.putObj_heap_other hb
 have hk : Keeps w I (w.putObj l o) I := ⟨fun b hb _ => hw b fun e => hI (e ▸ hb), fun b hb _ => hb⟩
 have blk : ∀ (i : Nat) x, h[i]? = some x -> x.alive (G i) -> (G i).blk ≠ l := fun i x hx ha e => ho ⟨i, x, hx, ha, e⟩
 refine ⟨fun i x hx => ?_, hh.sep, hh.nI, fun b hb => by rw [World.putObj_size]; exact hh.cl b hb⟩
 have := hh.obs i x hx
 cases x with
 | dead => trivial
 | box cs => obtain ⟨vs, ty, e1, e2, e3⟩ := this; exact ⟨vs, ty, by rw [hw _ (blk i _ hx trivial)]; exact e1, e2, fun k v hv => ⟨(e3 k v hv).1.mono hk (.refl _ _), (e3 k v hv).2⟩⟩
 | arr cs => obtain ⟨vs, ty, e1, e2, e3⟩ := this; exact ⟨vs, ty, by rw [hw _ (blk i _ hx trivial)]; exact e1, e2, fun k v hv => ⟨(e3 k v hv).1.mono hk.1 hk.2, (e3 k v hv).2⟩⟩
 | sl ty m n es =>
   cases n with
   | true => exact this
   | false =>
     obtain ⟨e1, e2, e3, e3', e4, e5⟩ := this
     refine ⟨e1, e2, e3, e3', e4, fun hc => ?_⟩
     obtain ⟨vs, f1, f2, f3⟩ := e5 hc
     exact ⟨vs, by rw [hw _ (blk i _ hx ⟨rfl, hc⟩)]; exact f1, f2, fun i' e he k v hv => ⟨(f3 i' e he k v hv).1.mono hk.1 hk.2, (f3 i' e he k v hv).2⟩⟩
 | mp kvs => obtain ⟨es, ck, e1, e2, e3⟩ := this; exact ⟨es, ck, by rw [hw _ (blk i _ hx trivial)]; exact e1, e2, fun k kv hv => ⟨(e3 k kv hv).1.mono hk.1 hk.2, (e3 k kv hv).2.mono hk.1 hk.2⟩⟩
 | iter ty rem cur => exact IterRel.mono this (hw _ (blk i _ hx trivial)) hk
theorem jJ (hh : HRel w I G h) {b : Nat} {o : Obj} (ho : w.heap[b]? = some o) (hn : (match o with | .cells .. => true | .map .. => true | .mapIter .. => true | _ => false) = false) : ¬ aV h G b := by
 rintro ⟨i, ob, hi, ha, rfl⟩
 have := hh.obs i ob hi
 cases ob with
 | dead => exact ha
 | box cs => obtain ⟨vs, ty, e1, _⟩ := this; rw [ho] at e1; cases e1; cases hn
 | arr cs => obtain ⟨vs, ty, e1, _⟩ := this; rw [ho] at e1; cases e1; cases hn
 | sl ty m n es =>
   cases n with
   | true => exact absurd ha.1 (by simp)
   | false => obtain ⟨vs, e1, _⟩ := this.2.2.2.2.2 ha.2; rw [ho] at e1; cases e1; cases hn
 | mp kvs => obtain ⟨es, ck, e1, _⟩ := this; rw [ho] at e1; cases e1; cases hn
 | iter ty rem cur => obtain ⟨_, _, _, _, _, _, e1, _⟩ := this; rw [ho] at e1; cases e1; cases hn
theorem Tr.off {own own' : Nat -> Prop} (t : Tr w I own w' I' own') {l : Nat} (hl : w.heap.size <= l) (o : Obj) : Tr w I own (w'.putObj l o) I' own' :=
 ⟨t.os, t.tape, t.output, by rw [World.putObj_size]; exact t.size, fun b hb hn => (World.putObj_heap_other (by omega)).trans (t.keep b hb hn), t.i1, t.i2, t.own2,
  fun a ha => (World.frozen?_of_block (World.putObj_heap_other (by omega))).trans (t.frz a ha), t.drawn⟩
theorem TrN.off {n0 : Nat} (t : TrN n0 w I G h w' I' G' h') {l : Nat} (hl : w.heap.size <= l) (o : Obj) : TrN n0 w I G h (w'.putObj l o) I' G' h' := ⟨t.t.off hl o, t.len, t.stay⟩
theorem pT (hh : HRel w I G h) (t : Tr w I (aV h G) w' I' (aV h' G')) : Keeps w I w' I' :=
 ⟨fun b hb hlt => t.keep b hlt fun ⟨o, ob, h1, h2, e⟩ => hh.nI o ob h1 h2 (e ▸ hb), fun b hb _ => t.i1 b hb⟩
theorem Keeps.trans {w1 w2 : World} {I1 I2 : Nat -> Prop} (h : Keeps w I w1 I1) (hs : w.heap.size <= w1.heap.size) (k : Keeps w1 I1 w2 I2) : Keeps w I w2 I2 :=
 ⟨fun b hb hlt => (k.1 b (h.2 b hb hlt) (Nat.lt_of_lt_of_le hlt hs)).trans (h.1 b hb hlt), fun b hb hlt => k.2 b (h.2 b hb hlt) (Nat.lt_of_lt_of_le hlt hs)⟩
theorem Keeps.off {l : Nat} (hI : ¬ I l) (o : Obj) : Keeps w I (w.putObj l o) I := ⟨fun b hb _ => World.putObj_heap_other fun e => hI (e ▸ hb), fun b hb _ => hb⟩
structure ZR (W0 : World) (I0 : Nat -> Prop) (G0 : Nat -> Pl) (h0 : Hp) (l D : Nat) (rec : Loop) (W : World) (I : Nat -> Prop) (G : Nat -> Pl) (h : Hp) : Prop where
 t : TrN 5 W0 I0 G0 h0 W I G h
 hl : W.heap[l]? = some (.loop rec)
 hD : W.heap[D]? = some (.deferred (some []))
 nl : ¬ I l
 nD : ¬ I D
theorem ZR.step {W0 : World} {I0 : Nat -> Prop} {G0 : Nat -> Pl} {h0 : Hp} {l D : Nat} {rec : Loop} (z : ZR W0 I0 G0 h0 l D rec w I G h) (hh : HRel w I G h) (t : TrN 5 w I G h w' I' G' h') : ZR W0 I0 G0 h0 l D rec w' I' G' h' := by
 have l1 := (Array.getElem?_eq_some_iff.1 z.hl).1
 have l2 := (Array.getElem?_eq_some_iff.1 z.hD).1
 have n1 := jJ hh z.hl rfl
 have n2 := jJ hh z.hD rfl
 exact ⟨z.t.trans t, (t.t.keep l l1 n1).trans z.hl, (t.t.keep D l2 n2).trans z.hD, fun x => (t.t.i2 l x).elim z.nl (fun x => x.elim n1 fun x => by omega), fun x => (t.t.i2 D x).elim z.nD (fun x => x.elim n2 fun x => by omega)⟩
end
section
variable {key : Int -> Int} {nl : Bool} {T : PV}
theorem yN {G G' : Nat -> Pl} {es es' : List (List PV)} (hl : es.length = es'.length) (hG : ∀ o, o < 5 -> G' o = G o) : Like G G' (aL nl T es) (aL nl T es') := by
 intro o ob ho
 have hlt : o < 5 := (List.getElem?_eq_some_iff.1 ho).1
 refine ⟨?_, fun _ => hG o hlt⟩
 match o, ho with
 | 0, ho => cases ho; exact ⟨_, rfl, trivial⟩
 | 1, ho => cases ho; exact ⟨_, rfl, rfl, rfl, hl⟩
 | 2, ho => cases ho; exact ⟨_, rfl, trivial⟩
 | 3, ho => cases ho; exact ⟨_, rfl, trivial⟩
 | 4, ho => cases ho; exact ⟨_, rfl, trivial⟩
theorem tG {w w' : World} {I I' : Nat -> Prop} {G G' : Nat -> Pl} {es es' : List (List PV)} (t : TrN 5 w I G (aL nl T es) w' I' G' (aL nl T es')) : ∀ o, o < 5 -> G' o = G o := by
 intro o ho
 have hs := t.stay (Nat.le_refl _)
 match o, ho with
 | 0, _ => exact (hs 0 _ (by omega) rfl rfl).1
 | 1, _ => exact (hs 1 _ (by omega) rfl rfl).1
 | 2, _ => exact (hs 2 _ (by omega) rfl rfl).1
 | 3, _ => exact (hs 3 _ (by omega) rfl rfl).1
 | 4, _ => exact (hs 4 _ (by omega) rfl rfl).1
theorem eA3 (es : List (List PV)) (i f : Int) (K : Env -> Hp -> Prop) : bR Tryz.prog (fun _ => none) 22 (bU (dD (fC (cE Tryz.f118)))).toList (bU (dD (fC (cE Tryz.f118)))).toList (eO f i) (aL nl T es) K = K ((6, .pv (.int .i64 f)) :: eO f i) (aL nl T es) := by kernel_rfl
theorem eA4 (es : List (List PV)) (i f : Int) (K : Env -> Hp -> Prop) : bR Tryz.prog (fun _ => none) 22 (bU (cD (fC (cE Tryz.f118)))).toList (bU (cD (fC (cE Tryz.f118)))).toList ((6, .pv (.int .i64 f)) :: eO f i) (aL nl T es) K = K ((7, .pv (.int .i64 i)) :: (6, .pv (.int .i64 f)) :: eO f i) (aL nl T es) := by kernel_rfl
theorem eA5 (es : List (List PV)) (i f : Int) (K : Env -> Hp -> Prop) : bR Tryz.prog wA 22 (bU (gU (fD (cE Tryz.f118)))).toList (bU (gU (fD (cE Tryz.f118)))).toList ((7, .pv (.int .i64 i)) :: (6, .pv (.int .i64 f)) :: eO f i) (aL nl T es) K =
 (bC es.length (some f) (some i) none /\ ACall Tryz.prog 140 [.sub 0 f.toNat i.toNat, .fn 141 [.box 1 0]] [.sl (21, 1) false nl es, .box [.pv T]] fun (r : LV) (h' : Hp) => ∃ (t : List (List PV)), (r = .tup [] /\ h' = [.sl (21, 1) false nl t, .box [.pv T]]) /\
  (True /\ (((21, 1) : Nat × Nat) = (21, 1) /\ nl = nl /\ es.length = t.length) /\ True) /\ K ((20, .tup []) :: (19, .fn 141 [.box 0 0]) :: (18, .sub 1 f.toNat i.toNat) :: (17, .pv (.int .i64 i)) :: (16, .pv (.int .i64 f)) :: (15, .own 1) :: (7, .pv (.int .i64 i)) :: (6, .pv (.int .i64 f)) :: eO f i) (aL nl T t)) := by kernel_rfl
theorem zfw : fC (cE Tryz.f118) = .seq (.region 3 (bU (dD (fC (cE Tryz.f118)))) false) (.region 4 (bU (cD (fC (cE Tryz.f118)))) false) /\ fD (cE Tryz.f118) = .block 1 (.region 5 (bU (gU (fD (cE Tryz.f118)))) false) /\
 cE Tryz.f118 = .rangeFunc (.tmp 12) #[13, 14] (fC (cE Tryz.f118)) (fD (cE Tryz.f118)) /\ iI (bU (dD (fC (cE Tryz.f118)))).toList = true /\ iI (bU (cD (fC (cE Tryz.f118)))).toList = true /\ iI (bU (gU (fD (cE Tryz.f118)))).toList = true :=
 ⟨by kernel_rfl, by kernel_rfl, by kernel_rfl, by kernel_rfl, by kernel_rfl, by kernel_rfl⟩
theorem zoh (hc : iK T key) {W0 : World} {I0 : Nat -> Prop} {G0 : Nat -> Pl} {L0 : List Int} {a : Act} {v12 : LV} (hs0 : SRel W0 I0 G0 [(2, .box 0 0), (5, .box 2 0), (12, v12)] (aL nl T (aA L0)) 22 a) (rec : Loop)
 (r1 : rec.state = .ready) (r2 : rec.pending = none) (r3 : rec.tmps = a.tmps) (r4 : rec.params = #[13, 14]) (r5 : rec.assign = fC (cE Tryz.f118)) (r6 : rec.body = fD (cE Tryz.f118)) :
 yI (ZR W0 I0 G0 (aL nl T (aA L0)) (W0.heap.size + 1) W0.heap.size rec) key nl T (W0.heap.size + 1) L0.length := by
 intro w I G L f i hh hz hfi hil hr hLn hN
 obtain ⟨l, hl⟩ : ∃ l, l = W0.heap.size + 1 := ⟨_, rfl⟩
 have hWl : W0.heap.size <= l := by omega
 rw [<- hl] at hz ⊢
 refine ⟨_, _, _, _, run_yield (P := Tryz.prog) hz.hl (by rw [r4]; rfl), roundIn_of_wpIn trivial ?_⟩
 have hlt := (Array.getElem?_eq_some_iff.1 hz.hl).1
 have hel : ∀ L' : List Int, L'.length = L.length -> (aA L0).length = (aA L').length := fun L' h => by simp [hN, h]
 have hs : SRel w I G (eO f i) (aL nl T (aA L)) 22 { tmps := (a.tmps.setIfInBounds 13 (.int .i64 f)).setIfInBounds 14 (.int .i64 i), defers := [] } := by
  have h1 := hs0.he.mono (pT hs0.hh hz.t.t) (yN (hel L rfl) (tG hz.t))
  have h2 := h1.set (d := 13) (v := .pv (.int .i64 f)) (by rw [hs0.hn]; omega) (.pv _ _ (.int .i64 f)) (fun _ _ _ e => by cases e)
  have h3 := h2.set (d := 14) (v := .pv (.int .i64 i)) (by simp [hs0.hn]) (.pv _ _ (.int .i64 i)) (fun _ _ _ e => by cases e)
  exact ⟨hh, fun k v hk => h3 k v ((LeE.le (e' := eO f i) ⟨rfl, rfl, rfl, rfl, trivial⟩) k v hk), by simp [hs0.hn]⟩
 obtain ⟨q1, q2, q3, q4, q5, q6⟩ := zfw
 rw [r5, q1, r4, r3]
 have hfold : ∀ x y : Value, (((#[13, 14] : Array Tmp).zip #[x, y]).foldl (fun tmps (t, a) => tmps.setIfInBounds t a) a.tmps) = (a.tmps.setIfInBounds 13 x).setIfInBounds 14 y := fun x y => by simp
 rw [hfold]
 refine wpIn_seq ?_
 show Code.wpIn (wd (some l)) 0 Tryz.prog _ (Exit.then (Code.wpIn (wd (some l)) 0 Tryz.prog _ _) _) { tmps := (a.tmps.setIfInBounds 13 (.int .i64 f)).setIfInBounds 14 (.int .i64 i), defers := [] } w
 refine wB q4 (by rw [eA3]; exact ⟨rfl, rfl⟩ : bR Tryz.prog (fun _ => none) 22 _ _ _ _ (fun e' h' => e' = _ /\ h' = _)) hs ?_ ?_
 ·exact fun a w h => h
 rintro _ _ w1 I1 G1 a1 ⟨rfl, rfl⟩ hs1 hd1 ht1
 refine wB q5 (by rw [eA4]; exact ⟨rfl, rfl⟩ : bR Tryz.prog (fun _ => none) 22 _ _ _ _ (fun e' h' => e' = _ /\ h' = _)) hs1 ?_ ?_
 ·exact fun a w h => h
 rintro _ _ w2 I2 G2 a2 ⟨rfl, rfl⟩ hs2 hd2 ht2
 have z1 := hz.step hh ht1.toN
 have z2 := z1.step hs1.hh ht2.toN
 refine ⟨_, run_beginRound z2.hl r1, ?_⟩
 have n2 := jJ hs2.hh z2.hl rfl
 have l2 := (Array.getElem?_eq_some_iff.1 z2.hl).1
 have hs3 : SRel (w2.putObj l (.loop { rec with state := .busy })) I2 G2 _ _ 22 a2 := ⟨hs2.hh.off _ z2.nl n2, hs2.he.mono (Keeps.off z2.nl _) (.refl _ _), hs2.hn⟩
 have hp3 : (w2.putObj l (.loop { rec with state := .busy })).heap[l]? = some (.loop { rec with state := .busy }) := World.putObj_heap_same l2
 have hb : ∀ {c : Code} {Q a w}, c = fD (cE Tryz.f118) -> Code.wpIn (wd (some l)) 0 Tryz.prog (.block 1 (.region 5 (bU (gU (fD (cE Tryz.f118)))) false)) Q a w -> Code.wpIn (wd (some l)) 0 Tryz.prog c Q a w := fun e h => by rw [e, q2]; exact h
 refine hb r6 ?_
 have h5 : bR Tryz.prog wA 22 (bU (gU (fD (cE Tryz.f118)))).toList (bU (gU (fD (cE Tryz.f118)))).toList ((7, .pv (.int .i64 i)) :: (6, .pv (.int .i64 f)) :: eO f i) (aL nl T (aA L)) (fun _ h' => ∃ L', YQ key L f i L' /\ h' = aL nl T (aA L')) := by
  rw [eA5, Int.toNat_natCast, Int.toNat_natCast]
  obtain ⟨c1, c2, c3⟩ := tF L (show f <= i by omega) hil
  have e : aA L = aA (L.take f ++ ((L.take i).drop f ++ L.drop i)) := congrArg aA c1
  refine ⟨⟨by simp, by simp; omega, by simp; omega, trivial⟩, ?_⟩
  rw [e]
  refine (zn4 hc f i nl (L.take f) ((L.take i).drop f) (L.drop i) c2 (by omega) (by rw [<- c1]; exact hr) (by omega)).mono ?_
  rintro r h' ⟨S', rfl, rfl, s1, k1⟩
  refine ⟨_, ⟨rfl, rfl⟩, ⟨trivial, ⟨rfl, rfl, ?_⟩, trivial⟩, _, ⟨S', rfl, s1, k1⟩, rfl⟩
  have := k1.len
  simp only [aX, List.length_append]; omega
 refine wpIn_block ?_
 show Code.wpIn (wd (some l)) 0 Tryz.prog _ _ _ _
 refine wB (H := wA) (ro := some l) (n := 0) (id := 5) q6 h5 hs3 ?_ ?_
 ·exact fun a w h => h
 rintro e4 _ w4 I4 G4 a4 ⟨L', hYQ, rfl⟩ hs4 hd4 ht4
 have n3 := jJ hs3.hh hp3 rfl
 have hl4 : w4.heap[l]? = some (.loop { rec with state := .busy }) := (ht4.t.keep l (by rw [World.putObj_size]; exact l2) n3).trans hp3
 have l4 := (Array.getElem?_eq_some_iff.1 hl4).1
 have nI4 : ∀ b, ¬ I2 b -> ¬ aV (aL nl T (aA L)) G2 b -> b < w2.heap.size -> ¬ I4 b := fun b x y z h => (ht4.t.i2 b h).elim x fun h => h.elim y fun h => by rw [World.putObj_size] at h; omega
 have nl4 := nI4 l z2.nl n2 l2
 have hDne : W0.heap.size ≠ l := by omega
 have nD2 := jJ hs2.hh z2.hD rfl
 have lD := (Array.getElem?_eq_some_iff.1 z2.hD).1
 have hrec : ({ { rec with state := .busy } with state := if (none : Option Code).isNone then .ready else .done, pending := none } : Loop) = rec := by
  cases rec; simp only at r1 r2; subst r1; subst r2; rfl
 have hrun := run_endRound (P := Tryz.prog) none hl4
 rw [hrec] at hrun
 have hLL : L'.length = L.length := by
  obtain ⟨S', rfl, s1, k1⟩ := hYQ
  obtain ⟨c1, c2, c3⟩ := tF L (show f <= i by omega) hil
  have := k1.len
  rw [List.length_append, List.length_append, c2, <- this, c3, List.length_drop]; omega
 have tB : TrN 5 W0 I0 G0 (aL nl T (aA L0)) (w4.putObj l (.loop rec)) I4 G4 (aL nl T (aA L')) := ((z2.t.off hWl _).trans ht4.toN).off hWl _
 refine ⟨_, _, hrun, rfl, L', I4, G4, hYQ, hs4.hh.off _ nl4 (jJ hs4.hh hl4 rfl), ?_, yN (by simp [hLL]) (fun o ho => (tG tB o ho).trans (tG hz.t o ho).symm), ⟨tB, World.putObj_heap_same l4, ?_, nl4, nI4 _ z2.nD nD2 lD⟩⟩
 ·have k1 := (pT hh ht1.t).trans ht1.t.size (pT hs1.hh ht2.t)
  have s2 := Nat.le_trans ht1.t.size ht2.t.size
  have k2 := (k1.trans s2 (Keeps.off z2.nl (.loop { rec with state := .busy }))).trans (by rw [World.putObj_size]; exact s2) (pT hs3.hh ht4.t)
  exact k2.trans (by have := ht4.t.size; rw [World.putObj_size] at this; omega) (Keeps.off nl4 _)
 ·rw [World.putObj_heap_other hDne]
  exact (ht4.t.keep _ (by rw [World.putObj_size]; exact lD) (jJ hs3.hh ((World.putObj_heap_other hDne).trans z2.hD) rfl)).trans ((World.putObj_heap_other hDne).trans z2.hD)
end
end Go.Eng



namespace Go.Eng
open Go Go.Proofs
def zfx (nl fl : Bool) (es : LL) (R : LV -> Hp -> Prop) : Prop :=
 if (bif true then nl else !nl) = true then R (LV.pv (PV.sl true true [])) [] else bK true [] es 1 4 /\ R (LV.own 0) [Ob.sl (21, 1) false false ([] ++ es)]
theorem zoi (nl fl : Bool) (es : LL) {R : LV -> Hp -> Prop} (h : zfx nl fl es R) : ACall Tryz.prog 58 [.pv (.sl nl fl es)] [] R :=
 ACall.ofA Tryz.func58 (by kernel_rfl) (by kernel_rfl) (zl (by kernel_rfl)) (Eq.mpr (by kernel_rfl : vV Tryz.prog (fun _ => none) Tryz.f58 [0, 2, 4] (fun _ => none) (Tryz.f58.body.getD .skip) [.pv (.sl nl fl es)] [] R = _) h)

def zoj (nl : Bool) (ts : List PV) (es : LL) (R : LV -> Hp -> Prop) : Prop :=
 R (LV.fn 157 [LV.box 2 0, LV.box 1 0]) [Ob.sl (21, 1) false nl es, Ob.box [LV.pv (PV.ptr ts)], Ob.box [LV.own 0]]
theorem zok (nl : Bool) (ts : List PV) (es : LL) {R : LV -> Hp -> Prop} (h : zoj nl ts es R) : ACall Tryz.prog 139 [.pv (.ptr ts), .own 0] [.sl (21, 1) false nl es] R :=
 ACall.of Tryz.func139 (by kernel_rfl) (by kernel_rfl) (zl (by kernel_rfl)) (Eq.mpr (by kernel_rfl : dP Tryz.prog (fun _ => none) Tryz.f139 [0, 1, 2, 3, 4] (fun _ => none) [0, 1, 2] (Tryz.f139.body.getD .skip) [.pv (.ptr ts), .own 0] [.sl (21, 1) false nl es] R = _) h)

end Go.Eng



namespace Go.Eng
open Go Go.Proofs Go.Eng.Rows Go.Eng.Srt
theorem ACall.nilOwn {P : Program} {f : Nat} {args : List LV} {Q Q' : LV -> Hp -> Prop} {ty : Nat × Nat} (hc : ACall P f args [] Q) (hq : ∀ r h', Q r h' -> Q' r h' ∨ ∃ fl, r = .pv (.sl true fl []) /\ h' = [] /\ Q' (.own 0) [.sl ty false true []]) : ACall P f args [] Q' :=
 ⟨hc.1, fun w I G cargs h1 h2 h3 => (hc.2 w I G cargs h1 h2 h3).mono fun e w' ⟨cv, r, h', I', G', e1, e2, e3, e4, e5⟩ => (hq r h' e2).elim (fun q => ⟨cv, r, h', I', G', e1, q, e3, e4, e5⟩) fun ⟨fl, hr, hh, q⟩ => by
  subst hr; subst hh
  have hcv : cv = .slice none 0 0 := by cases e4 with | pv _ _ h => cases h; rfl
  subst hcv
  have one : ∀ {o : Nat} {ob : Ob}, [Ob.sl ty false true []][o]? = some ob -> ob = .sl ty false true [] := fun {o ob} h => by
   cases o with
   | zero => cases h; rfl
   | succ o => simp at h
  have dead : ∀ {p : Pl}, ¬ (Ob.sl ty false true []).alive p := fun h => by cases h.1
  have noB : ∀ b, ¬ aV [Ob.sl ty false true []] G' b := fun b ⟨o, ob, ho, ha, _⟩ => by rw [one ho] at ha; exact dead ha
  refine ⟨_, .own 0, [.sl ty false true []], I', G', e1, q, ⟨fun o ob ho => by rw [one ho]; rfl, fun o o' ob ob' ho ha => by rw [one ho] at ha; exact (dead ha).elim, fun o ob ho ha => by rw [one ho] at ha; exact (dead ha).elim, e3.cl⟩, .ownNil 0 ty false [] rfl, ?_, by simp, fun o ob' ho => by simp at ho⟩
  have t := e5.t
  exact ⟨t.os, t.tape, t.output, t.size, t.keep, t.i1, t.i2, fun b hb => (noB b hb).elim, t.frz, t.drawn⟩⟩
theorem zol (nl fl : Bool) (es : List (List PV)) (hn : nl = true -> es = []) (ha : bK true [] es 1 4) : ACall Tryz.prog 58 [.pv (.sl nl fl es)] [] fun r h' => r = .own 0 /\ h' = [.sl (21, 1) false nl es] := by
 refine ACall.nilOwn (ty := (21, 1)) (Q := fun r h' => (nl = true /\ r = .pv (.sl true true []) /\ h' = []) ∨ (nl = false /\ r = .own 0 /\ h' = [.sl (21, 1) false nl es])) (zoi nl fl es ?_) ?_
 ·unfold zfx
  cases nl with
  | true => exact .inl ⟨rfl, rfl, rfl⟩
  | false => exact ⟨ha, .inr ⟨rfl, rfl, by simp⟩⟩
 ·rintro r h' (⟨rfl, rfl, rfl⟩ | ⟨rfl, rfl, rfl⟩)
  ·rw [hn rfl]; exact .inr ⟨true, rfl, rfl, rfl, rfl⟩
  ·exact .inl ⟨rfl, rfl⟩
theorem tH {P : Program} {n0 N : Nat} {c : Code} {e E : Env} {h Hh : Hp} (hS : CodeS P n0 N c e h fun x e' h' => x = .normal /\ e' = E /\ h' = Hh) {w : World} {I : Nat -> Prop} {G : Nat -> Pl} {a : Act} (hs : SRel w I G e h N a) {Q : Exit -> Act -> World -> Prop}
 (hq : ∀ w' I' G' a', SRel w' I' G' E Hh N a' -> a'.defers = a.defers -> TrN n0 w I G h w' I' G' Hh -> Q .normal a' w') : c.wp P Q a w :=
 hS w I G a Q hs fun x e' h' w' I' G' a' hk hs' hd ht => by obtain ⟨rfl, rfl, rfl⟩ := hk; exact hq w' I' G' a' hs' hd ht
section
variable {nl fl : Bool} {ts : List PV} {es : List (List PV)}
theorem eB0 (Q : Qt) : dA Tryz.prog (fun _ => none) 0 22 [1, 2, 4] (fun _ => none) (cO0 Tryz.f118) (eU [.pv (.ptr ts), .pv (.sl nl fl es)] 0) [] Q = Q .normal [(1, .pv (.sl nl fl es)), (2, .box 0 0), (4, .pv (.sl true true []))] [.box [.pv (.ptr ts)]] := by kernel_rfl
theorem eB1 (Q : Qt) : dA Tryz.prog zcm 0 22 [2, 5] (fun _ => none) (cO1 Tryz.f118) [(1, .pv (.sl nl fl es)), (2, .box 0 0)] [.box [.pv (.ptr ts)]] Q =
 ACall Tryz.prog 58 [.pv (.sl nl fl es)] [] fun (r : LV) (h' : Hp) => ∃ (_ : Unit), (r = .own 0 /\ h' = [.sl (21, 1) false nl es]) /\ True /\ Q .normal [(2, .box 0 0), (5, .box 2 0)] [.box [.pv (.ptr ts)], .sl (21, 1) false nl es, .box [.own 1]] := by kernel_rfl
theorem eB2 (Q : Qt) : dA Tryz.prog zcm 0 22 [2, 5, 12] (fun _ => none) (cO2 Tryz.f118) [(2, .box 0 0), (5, .box 2 0)] [.box [.pv (.ptr ts)], .sl (21, 1) false nl es, .box [.own 1]] Q =
 ACall Tryz.prog 139 [.pv (.ptr ts), .own 0] [.sl (21, 1) false nl es] fun (r : LV) (h' : Hp) => ∃ (_ : Unit), (r = .fn 157 [.box 2 0, .box 1 0] /\ h' = [.sl (21, 1) false nl es, .box [.pv (.ptr ts)], .box [.own 0]]) /\
  ((((21, 1) : Nat × Nat) = (21, 1) /\ nl = nl /\ es.length = es.length) /\ True) /\ Q .normal [(2, .box 0 0), (5, .box 2 0), (12, .fn 157 [.box 4 0, .box 3 0])] (aL nl (.ptr ts) es) := by kernel_rfl
theorem eB6 (Q : Qt) : dA Tryz.prog (fun _ => none) 5 22 [4] (fun _ => none) (cO6 Tryz.f118) [(2, .box 0 0), (5, .box 2 0)] (aL nl (.ptr ts) es) Q = Q .normal [(4, .own 1)] (aL nl (.ptr ts) es) := by kernel_rfl
theorem yO : cM Tryz.f118 = .seq (cO0 Tryz.f118) (.seq (cO1 Tryz.f118) (.seq (.seq (cO2 Tryz.f118) (.block 0 (cE Tryz.f118))) (.seq (cO6 Tryz.f118) .ret))) /\ Tryz.f118.body = some (cM Tryz.f118) /\ Tryz.f118.ntmps = 22 /\
 Tryz.f157.body = some (cM Tryz.f157) /\ Tryz.f157.ntmps = 39 /\ Tryz.f118.results = #[.tmp 4] /\ Tryz.f157.results = #[] /\ Tryz.f118.body.isNone = false /\ (Tryz.f118.name == "runtime.NumGoroutine") = false /\ Tryz.f157.body.isNone = false /\ (Tryz.f157.name == "runtime.NumGoroutine") = false :=
 ⟨by kernel_rfl, by kernel_rfl, by kernel_rfl, by kernel_rfl, by kernel_rfl, by kernel_rfl, by kernel_rfl, by kernel_rfl, by kernel_rfl, by kernel_rfl, by kernel_rfl⟩
variable {key : Int -> Int}
theorem Tr.alloc0 {w : World} {I own : Nat -> Prop} (o : Obj) : Tr w I own (w.alloc o) I own :=
 ⟨rfl, rfl, rfl, by simp, fun b hb _ => cO w o hb, fun _ h => h, fun _ h => .inl h, fun _ h => .inl h, fun a ha => World.frozen?_of_block (cO w o ha), Nat.le_refl _⟩
theorem KA.alloc0 (w : World) (o : Obj) : KA w (w.alloc o) := ⟨by simp, fun b hb => cO w o hb⟩
theorem zom (hk : ∀ x, 0 <= key x) (hT : ∀ r : Int, (-2147483648 <= r /\ r <= 2147483647) -> PCall Tryz.prog 90 [.ptr ts, .int .i32 r] fun v => v = .int .i64 (key r)) (hc : iK (.ptr ts) key) (L : List Int) (hr : R32 L) (hL : L.length < 1000000000000)
 {w3 : World} {I3 : Nat -> Prop} {G3 : Nat -> Pl} {a3 : Act} {v12 : LV} (hs3 : SRel w3 I3 G3 [(2, .box 0 0), (5, .box 2 0), (12, v12)] (aL nl (.ptr ts) (aA L)) 22 a3) (rec : Loop) (r1 : rec.state = .ready) (r2 : rec.pending = none) (r3 : rec.tmps = a3.tmps) (r4 : rec.params = #[13, 14])
 (r5 : rec.assign = fC (cE Tryz.f118)) (r6 : rec.body = fD (cE Tryz.f118)) (vs : Array Value) (hvsz : vs.size = 2) (hvs : ∀ (k : Nat) v, [LV.box 4 0, LV.box 3 0][k]? = some v -> LRel w3 I3 G3 (aL nl (.ptr ts) (aA L)) v (vs.getD k undef)) :
 Calls Tryz.prog 157 (#[Value.func (.yield (w3.heap.size + 1)) #[] #[]] ++ vs) ((w3.alloc (.deferred (some []))).alloc (.loop rec)) fun e w4 => (∃ v, e = .returned v) /\ ∃ I4 G4, HRel w4 I4 G4 (aL nl (.ptr ts) (aA (c4 key L))) /\
  ZR w3 I3 G3 (aL nl (.ptr ts) (aA L)) (w3.heap.size + 1) w3.heap.size rec w4 I4 G4 (aL nl (.ptr ts) (aA (c4 key L))) := by
 obtain ⟨k1, k2, k3, k4, k5, k6, k7, k8, k9, k10, k11⟩ := yO
 obtain ⟨W1, hW1⟩ : ∃ W1, W1 = (w3.alloc (.deferred (some []))).alloc (.loop rec) := ⟨_, rfl⟩
 rw [<- hW1]
 have tA : Tr w3 I3 (aV (aL nl (.ptr ts) (aA L)) G3) W1 I3 (aV (aL nl (.ptr ts) (aA L)) G3) := by rw [hW1]; exact (Tr.alloc0 _).trans (Tr.alloc0 _)
 have ka : KA w3 W1 := by rw [hW1]; exact (KA.alloc0 _ _).trans (KA.alloc0 _ _)
 have hl1 : W1.heap[w3.heap.size + 1]? = some (.loop rec) := by rw [hW1]; have := World.alloc_heap_new (w3.alloc (.deferred (some []))) (.loop rec); rwa [World.size_alloc] at this
 have hD1 : W1.heap[w3.heap.size]? = some (.deferred (some [])) := by rw [hW1]; exact (cO _ _ (by simp)).trans (World.alloc_heap_new w3 _)
 have z1 : ZR w3 I3 G3 (aL nl (.ptr ts) (aA L)) (w3.heap.size + 1) w3.heap.size rec W1 I3 G3 (aL nl (.ptr ts) (aA L)) := ⟨(TrH.same tA).toN, hl1, hD1, fun h => by have := hs3.hh.cl _ h; omega, fun h => by have := hs3.hh.cl _ h; omega⟩
 have hRd := zoh hc hs3 rec r1 r2 r3 r4 r5 r6
 have hwalk := zog hk hT (fun w I G h w' I' G' h' z hh _ t => z.step hh t) L hRd hr hL
 have hsW : SRel W1 I3 G3 (eU [.pv (.raw (Value.func (.yield (w3.heap.size + 1)) #[] #[])), .box 4 0, .box 3 0] 0) (aL nl (.ptr ts) (aA L)) 39 { tmps := (#[Value.func (.yield (w3.heap.size + 1)) #[] #[]] ++ vs) ++ Array.replicate (39 - (#[Value.func (.yield (w3.heap.size + 1)) #[] #[]] ++ vs).size) undef, defers := [] } := by
  obtain ⟨y, hy⟩ : ∃ y, y = Value.func (.yield (w3.heap.size + 1)) #[] #[] := ⟨_, rfl⟩
  rw [<- hy]
  obtain ⟨x0, x1, rfl⟩ : ∃ x0 x1, vs = #[x0, x1] := by
   obtain ⟨l⟩ := vs
   match l, hvsz with
   | [a, b], _ => exact ⟨a, b, rfl⟩
  have hk : Keeps w3 I3 W1 I3 := ⟨fun b _ hb => ka.2 b hb, fun b hb _ => hb⟩
  have h1 := (hvs 0 _ rfl).mono hk (.refl _ _)
  have h2 := (hvs 1 _ rfl).mono hk (.refl _ _)
  have e0 : ∀ r : Array Value, (#[y] ++ #[x0, x1] ++ r).getD 0 undef = y := fun r => by rw [Array.getD_eq_getD_getElem?, Array.getElem?_append_left (by simp)]; rfl
  have e1 : ∀ r : Array Value, (#[y] ++ #[x0, x1] ++ r).getD 1 undef = x0 := fun r => by rw [Array.getD_eq_getD_getElem?, Array.getElem?_append_left (by simp)]; rfl
  have e2 : ∀ r : Array Value, (#[y] ++ #[x0, x1] ++ r).getD 2 undef = x1 := fun r => by rw [Array.getD_eq_getD_getElem?, Array.getElem?_append_left (by simp)]; rfl
  refine ⟨hs3.hh.ka ka, ?_, by simp⟩
  have he : ERel W1 I3 G3 (aL nl (.ptr ts) (aA L)) [(0, .pv (.raw y)), (1, .box 4 0), (2, .box 3 0)] (#[y] ++ #[x0, x1] ++ Array.replicate (39 - (#[y] ++ #[x0, x1]).size) undef) :=
   ((ERel.nil _ _ _ _ _).cons (s := 2) (v := .box 3 0) (by rw [e2]; exact h2)).cons (s := 1) (v := .box 4 0) (by rw [e1]; exact h1) |>.cons (s := 0) (v := .pv (.raw y)) (by rw [e0]; exact .pv _ _ (.raw _))
  exact he
 refine calls_of_wp Tryz.func157 k4 ?_
 rw [k5]
 refine hwalk W1 I3 G3 _ _ hsW z1 ?_
 rintro x e' _ w4 I4 G4 a4 ⟨rfl, rfl⟩ hs4 hd4 z4
 exact ⟨hd4, _, results_none k7 _ _ _, ⟨_, rfl⟩, I4, G4, hs4.hh, z4⟩
theorem zon (hk : ∀ x, 0 <= key x) (L : List Int) {w w3 w4 : World} {I I3 I4 : Nat -> Prop} {G G3 G4 : Nat -> Pl} {a3 : Act} {v12 : LV} (hs3 : SRel w3 I3 G3 [(2, .box 0 0), (5, .box 2 0), (12, v12)] (aL nl (.ptr ts) (aA L)) 22 a3) (hd30 : a3.defers = []) {rec : Loop}
 (ht3 : Tr w I (aV [] G) w3 I3 (aV (aL nl (.ptr ts) (aA L)) G3)) (hh4 : HRel w4 I4 G4 (aL nl (.ptr ts) (aA (c4 key L)))) (z4 : ZR w3 I3 G3 (aL nl (.ptr ts) (aA L)) (w3.heap.size + 1) w3.heap.size rec w4 I4 G4 (aL nl (.ptr ts) (aA (c4 key L)))) :
 (Code.seq (cO6 Tryz.f118) .ret).wp Tryz.prog (bodyPostM Fence.wide 0 Tryz.prog Tryz.f118 fun e w' => ∃ cv r h' I' G', e = .returned cv /\ (∃ v, r = .pv v /\ v = .sl nl false (aA (c4 key L))) /\ HRel w' I' G' h' /\ LRel w' I' G' h' r cv /\ TrH w I G [] w' I' G' h')
  { tmps := a3.tmps, defers := [{ target := .collected w3.heap.size, args := #[] }] ++ a3.defers } (w4.putObj (w3.heap.size + 1) (.loop { rec with state := .exhausted })) := by
 obtain ⟨k1, k2, k3, k4, k5, k6, k7, k8, k9, k10, k11⟩ := yO
 have hll := (yK (key := key) hk L).len
 have n4 := jJ hh4 z4.hl rfl
 have l4 := (Array.getElem?_eq_some_iff.1 z4.hl).1
 have z5 : ZR w3 I3 G3 (aL nl (.ptr ts) (aA L)) (w3.heap.size + 1) w3.heap.size { rec with state := .exhausted } (w4.putObj (w3.heap.size + 1) (.loop { rec with state := .exhausted })) I4 G4 (aL nl (.ptr ts) (aA (c4 key L))) :=
  ⟨z4.t.off (by omega) _, World.putObj_heap_same l4, (World.putObj_heap_other (by omega)).trans z4.hD, z4.nl, z4.nD⟩
 have hs5 : SRel (w4.putObj (w3.heap.size + 1) (.loop { rec with state := .exhausted })) I4 G4 [(2, .box 0 0), (5, .box 2 0)] (aL nl (.ptr ts) (aA (c4 key L))) 22 { tmps := a3.tmps, defers := [{ target := .collected w3.heap.size, args := #[] }] ++ a3.defers } :=
  ⟨hh4.off _ z4.nl n4, fun i v hi => ((hs3.he.mono (pT hs3.hh z4.t.t) (yN (by simp [hll]) (tG z4.t))).mono (Keeps.off z4.nl _) (.refl _ _)) i v ((LeE.le (e' := [(2, .box 0 0), (5, .box 2 0)]) ⟨rfl, rfl, trivial⟩) i v hi), hs3.hn⟩
 refine wp_seq (tH (E := [(4, .own 1)]) (Hh := aL nl (.ptr ts) (aA (c4 key L))) (fV (Eq.mpr (eB6 _) ⟨rfl, rfl, rfl⟩)) hs5 fun w6 I6 G6 a6 hs6 hd6 ht6 => ?_)
 have z6 := z5.step hs5.hh ht6
 refine wp_ret ?_
 show LeavesInM Fence.wide 0 Tryz.prog _ a6.tmps _ a6.defers .returning w6
 rw [hd6, hd30]
 refine ⟨by simp, .inl ⟨_, _, rfl, run_takeDeferred z6.hD, ?_⟩⟩
 refine ⟨_, results_tmp k6 _ _ _, ?_⟩
 have hh7 := hs6.hh.off (.deferred none) z6.nD (jJ hs6.hh z6.hD rfl)
 have hv7 : LRel (w6.putObj w3.heap.size (.deferred none)) I6 G6 (aL nl (.ptr ts) (aA (c4 key L))) (.own 1) (a6.tmps.getD 4 undef) := LRel.mono (hs6.he 4 _ rfl) (Keeps.off z6.nD (.deferred none)) (.refl _ _)
 have hrep := oF hh7 hv7 (rfl : iA (aL nl (.ptr ts) (aA (c4 key L))) (.own 1) = some (.sl nl false (aA (c4 key L))))
 have ht := (ht3.trans z6.t.t).off (l := w3.heap.size) ht3.size (.deferred none)
 have hno : ∀ b, ¬ aV [] G b := fun b ⟨o, ob, ho, _⟩ => by simp at ho
 exact ⟨_, _, [], AllB I6 (aL nl (.ptr ts) (aA (c4 key L))) G6, G6, rfl, ⟨_, rfl, rfl⟩, HRel.nil G6 (fun b hb => hb.elim (hh7.cl b) hh7.blk_lt), .pv _ _ hrep,
  ⟨⟨ht.os, ht.tape, ht.output, ht.size, ht.keep, fun b hb => .inl (ht.i1 b hb), fun b hb => hb.elim (ht.i2 b) (fun ho => (ht.own2 b ho).elim (fun x => absurd x (hno b)) (fun x => .inr (.inr x))), fun b hb => absurd hb (fun ⟨o, ob, ho, _⟩ => by simp at ho), ht.frz, ht.drawn⟩, Nat.le_refl _, fun o ob ho => by simp at ho⟩⟩
theorem zoo (hk : ∀ x, 0 <= key x) (hT : ∀ r : Int, (-2147483648 <= r /\ r <= 2147483647) -> PCall Tryz.prog 90 [.ptr ts, .int .i32 r] fun v => v = .int .i64 (key r)) (hc : iK (.ptr ts) key) (L : List Int) (hr : R32 L) (hL : L.length < 1000000000000) :
 PCall Tryz.prog 118 [.ptr ts, .sl nl fl (aA L)] fun v => v = .sl nl false (aA (c4 key L)) := by
 obtain ⟨k1, k2, k3, k4, k5, k6, k7, k8, k9, k10, k11⟩ := yO
 refine ⟨⟨_, Tryz.func118, k8, k9⟩, fun w I G cargs hh hsz hrel => ?_⟩
 simp only [List.length_map, List.length_cons, List.length_nil] at hsz
 have hn : nl = true -> L = [] := fun hn => by
  subst hn
  have h1 := hrel 1 _ rfl
  generalize cargs.getD 1 undef = c1 at h1
  cases h1 with
  | pv _ _ h1 =>
    generalize hes : aA L = es at h1
    cases h1 with
    | slnil => exact List.map_eq_nil_iff.1 hes
 refine (callsIn_wide (n := 0)).1 (callsIn_of_wp_marks Tryz.func118 k2 trivial (wpIn_wide.2 ?_))
 rw [k3]
 have hs : SRel w I G (eU [.pv (.ptr ts), .pv (.sl nl fl (aA L))] 0) [] 22 { tmps := cargs ++ Array.replicate (22 - cargs.size) undef, defers := [] } := by
  refine ⟨hh, fun i v hi => ?_, by simp; omega⟩
  obtain ⟨_, h2⟩ := pB hi
  rw [Nat.sub_zero] at h2
  have hlt : i < cargs.size := by have := (List.getElem?_eq_some_iff.1 h2).1; simp at this; omega
  have := hrel i v h2
  have e1 : (cargs ++ Array.replicate (22 - cargs.size) undef).getD i undef = cargs.getD i undef := by
   rw [Array.getD_eq_getD_getElem?, Array.getD_eq_getD_getElem?, Array.getElem?_append_left hlt]
  simp only [e1]
  exact VRel.of_plain this
 rw [k1]
 -- what begins it
 refine wp_seq (tH (E := [(1, .pv (.sl nl fl (aA L))), (2, .box 0 0), (4, .pv (.sl true true []))]) (Hh := [.box [.pv (.ptr ts)]]) (fV (Eq.mpr (eB0 _) ⟨rfl, rfl, rfl⟩)) hs fun w1 I1 G1 a1 hs1 hd1 ht1 => ?_)
 have hs1' := hs1.le (LeE.le (e' := [(1, .pv (.sl nl fl (aA L))), (2, .box 0 0)]) ⟨rfl, rfl, trivial⟩)
 refine wp_seq (tH (E := [(2, .box 0 0), (5, .box 2 0)]) (Hh := [.box [.pv (.ptr ts)], .sl (21, 1) false nl (aA L), .box [.own 1]]) (fV (Eq.mpr (eB1 _) ((zol nl fl (aA L) (fun h => by rw [hn h]; rfl) ?_).mono fun r h' hq => ⟨(), hq, trivial, rfl, rfl, rfl⟩))) hs1' fun w2 I2 G2 a2 hs2 hd2 ht2 => ?_)
 ·exact ⟨rfl, .inl rfl, fun e he => (by cases he), fun e he => by obtain ⟨x, _, rfl⟩ := List.mem_map.1 (List.mem_of_mem_head? he); rfl, by simp; omega⟩
 refine wp_seq (wp_seq (tH (E := [(2, .box 0 0), (5, .box 2 0), (12, .fn 157 [.box 4 0, .box 3 0])]) (Hh := aL nl (.ptr ts) (aA L)) (fV (Eq.mpr (eB2 _) (zok nl ts (aA L) ?_))) hs2 fun w3 I3 G3 a3 hs3 hd3 ht3 => ?_))
 ·exact ⟨(), ⟨rfl, rfl⟩, ⟨⟨rfl, rfl, rfl⟩, trivial⟩, rfl, rfl, rfl⟩
 -- the loop
 have hd30 : a3.defers = [] := hd3.trans (hd2.trans hd1)
 obtain ⟨q1, q2, q3, _, _, _⟩ := zfw
 refine wp_block ?_
 rw [q3]
 obtain ⟨vs, hv12, hvsz, hvs⟩ : ∃ vs : Array Value, a3.tmps.getD 12 undef = .func (.func 157) #[] vs /\ vs.size = 2 /\ ∀ (k : Nat) v, [LV.box 4 0, LV.box 3 0][k]? = some v -> LRel w3 I3 G3 (aL nl (.ptr ts) (aA L)) v (vs.getD k undef) := by
  have := hs3.he 12 _ rfl
  generalize a3.tmps.getD 12 undef = cv at this
  cases this with
  | fn f cs vs h1 h6 => exact ⟨vs, rfl, h1, h6⟩
 refine (wpIn_wide (n := 0)).1 (wpIn_rangeFunc (F := Fence.wide) fun fn _ => ?_)
 obtain ⟨rec, hrec⟩ : ∃ rec : Loop, rec = { state := .ready, pending := none, fn := fn, tmps := a3.tmps, params := #[13, 14], assign := fC (cE Tryz.f118), body := fD (cE Tryz.f118), defers := w3.heap.size } := ⟨_, rfl⟩
 refine ⟨w3.heap.size + 1, [{ target := .collected w3.heap.size, args := #[] }], (w3.alloc (.deferred (some []))).alloc (.loop rec), { target := .fn (.func 157) vs, args := #[.func (.yield (w3.heap.size + 1)) #[] #[]] }, (w3.alloc (.deferred (some []))).alloc (.loop rec), 157,
  #[.func (.yield (w3.heap.size + 1)) #[] #[]] ++ vs, (w3.alloc (.deferred (some []))).alloc (.loop rec), ?_, ?_, fun _ _ => trivial, ?_, fun x => (by cases x), ?_⟩
 ·rw [hrec]; exact run_enterLoop_outer _ _ _ _ _
 ·have he : a3.eval (.tmp 12) = .func (.func 157) #[] vs := hv12
  simp only [resolve, he]
  simp [go_sem]
 ·simp only [invoke]
  exact uH ⟨_, Tryz.func157, k10, k11⟩
 refine (callsIn_wide).2 (Calls.mono (zom hk hT hc L hr hL hs3 rec (by rw [hrec]) (by rw [hrec]) (by rw [hrec]) (by rw [hrec]) (by rw [hrec]) (by rw [hrec]) vs hvsz hvs) ?_)
 rintro e w4 ⟨⟨v, rfl⟩, I4, G4, hh4, z4⟩
 have hp : rec.pending = none := by rw [hrec]
 refine ⟨none, _, (run_endLoop z4.hl (by rw [hrec]; simp)).trans (congrArg (fun j => Result.ok j _) hp), ?_⟩
 exact zon hk L hs3 hd30 ((ht1.t.trans ht2.t).trans ht3.t) hh4 z4
end
end Go.Eng



namespace Go.Eng
open Go Go.Proofs
def zfy (n f : Bool) (es : LL) (k : Int) (R : PV -> Prop) : Prop :=
 if decide ((↑es.length : Int) > k) = true then (bC es.length none (some k) none /\ aK es 1) /\ R (PV.sl n (f && decide (k = (↑es.length : Int))) (List.drop 0 (List.take k.toNat es))) else R (PV.sl n f es)
theorem zop (n f : Bool) (es : LL) (k : Int) {R : PV -> Prop} (h : zfy n f es k R) : PCall Tryz.prog 13 [.sl n f es, .int .i64 k] R :=
 PCall.of Tryz.func13 (by kernel_rfl) (by kernel_rfl) (zl (by kernel_rfl)) (Eq.mpr (by kernel_rfl : aR Tryz.prog (fun _ => none) Tryz.f13 [0, 1, 4, 8] (fun _ => none) (Tryz.f13.body.getD .skip) [.sl n f es, .int .i64 k] R = _) h)

def yP (n f : Bool) (es : LL) (n2 f2 : Bool) (es2 : LL) (x5 : Int) : Env × Hp := ([(0, LV.pv (PV.sl n f es)), (1, LV.pv (PV.sl n2 f2 es2)), (5, Y6 x5)], [])
def yQ (n f : Bool) (es : LL) (n2 f2 : Bool) (es2 : LL) (J : Int -> Prop) (μ : Int -> Nat) (R : PV -> Prop) : Prop :=
 if ((↑es.length : Int) != (↑es2.length : Int)) = true then R (Zb false) else (aB (yP n f es n2 f2 es2 (0 : Int)) /\ J (0 : Int)) /\ ∀ (x5 : Int), J x5 -> if decide (x5 < (↑es.length : Int)) = true then aU es x5 1 /\ ∃ (n1 : Int),
 (es.getD x5.toNat []).head? = some (Z3 n1) /\ aU es2 x5 1 /\ ∃ n3, (es2.getD x5.toNat []).head? = some (Z3 n3) /\ if (n1 != n3) = true then R (Zb false) else aB (yP n f es n2 f2 es2 (i64.wrap (x5 + 1))) /\ J
 (i64.wrap (x5 + 1)) /\ μ (i64.wrap (x5 + 1)) < μ x5 else R (Zb true)
theorem zoq (n f : Bool) (es : LL) (n2 f2 : Bool) (es2 : LL) (J : Int -> Prop) (μ : Int -> Nat) {R : PV -> Prop} (h : yQ n f es n2 f2 es2 J μ R) : PCall Tryz.prog 25 [.sl n f es, .sl n2 f2 es2] R :=
 PCall.of Tryz.func25 (by kernel_rfl) (by kernel_rfl) (zl (by kernel_rfl)) (Eq.mpr (by kernel_rfl : aR Tryz.prog (fun _ => none) Tryz.f25 [0, 1, 4, 5, 10, 14, 25] (fun zz_ => match zz_ with | 4 => some ⟨Int × Unit, fun s => yP n f es n2 f2 es2 s.1, fun _ s => J s.1, fun s => μ s.1, fun e h => (((gI e 5), ())), [], [0, 1, 5], [], fun p => ∀ (x5 : Int), p (x5, ()), fun p h s => h s.1⟩ | _ => none) (Tryz.f25.body.getD .skip) [.sl n f es, .sl n2 f2 es2] R = _) h)

def yR (tc tg tj tf tp : PV) (M S : List (PV × PV)) (n f : Bool) (es : LL) (x12 : Int) (h0_0 : PV) (n_1 : Bool) (s_1 : LL) : Env × Hp := ([(0, LV.pv (PV.ptr [tc, tg, tj, tf, tp, PV.mp M, PV.mp S])), (5, LV.box 0 0), (10, LV.pv (PV.sl n f es)), (11, Y6 ↑es.length), (12, Y6 x12)], [.box [.pv h0_0, LV.own 1], .sl (21, 1) true n_1 s_1])
def zfz (tc tg tj tf tp : PV) (M S : List (PV × PV)) (n f : Bool) (es : LL) (J : Int -> PV -> Bool -> LL -> Prop) (μ : Int -> PV -> Bool -> LL -> Nat) (R : PV -> Prop) : Prop :=
 dY (PV.ptr [tc, tg, tj, tf, tp, PV.mp M, PV.mp S]) = true /\ (aB (yR tc tg tj tf tp M S n f es (0 : Int) (PV.ptr [tc, tg, tj, tf, tp, PV.mp M, PV.mp S]) true []) /\ J (0 : Int) (PV.ptr [tc, tg, tj, tf, tp, PV.mp M, PV.mp S]) true [])
 /\ ∀ (x12 : Int) (h0_0 : PV) (n_1 : Bool) (s_1 : LL), J x12 h0_0 n_1 s_1 -> if decide (x12 < (↑es.length : Int)) = true then aU es x12 1 /\ ∃ n1, (es.getD x12.toNat []).head? = some (Z3 n1) /\ ACall Tryz.prog 117 [LV.box 0 0, LV.pv
 (Z3 n1), Y6 8] [Ob.box [LV.pv h0_0, LV.own 1], Ob.sl (21, 1) false n_1 s_1] fun (r : LV) (h' : Hp) => ∃ (t : Bool × LL), (r = LV.tup [] /\ h' = [Ob.box [LV.pv h0_0, LV.own 1], Ob.sl (21, 1) true t.fst t.snd]) /\ (True /\ True /\ True) /\ aB
 (yR tc tg tj tf tp M S n f es (i64.wrap (x12 + 1)) h0_0 t.fst t.snd) /\ J (i64.wrap (x12 + 1)) h0_0 t.fst t.snd /\ μ (i64.wrap (x12 + 1)) h0_0 t.fst t.snd < μ x12 h0_0 n_1 s_1 else PCall Tryz.prog 118 [PV.ptr [tc,
 tg, tj, tf, tp, PV.mp M, PV.mp S], PV.sl n_1 false s_1] fun v => ∃ n1 f1 es1, v = PV.sl n1 f1 es1 /\ R (PV.sl n1 f1 es1)
theorem zor (tc tg tj tf tp : PV) (M S : List (PV × PV)) (n f : Bool) (es : LL) (J : Int -> PV -> Bool -> LL -> Prop) (μ : Int -> PV -> Bool -> LL -> Nat) {R : PV -> Prop} (h : zfz tc tg tj tf tp M S n f es J μ R) : PCall Tryz.prog 93 [.ptr [tc, tg, tj, tf, tp, .mp M, .mp S], .sl n f es] R :=
 PCall.of Tryz.func93 (by kernel_rfl) (by kernel_rfl) (zl (by kernel_rfl)) (Eq.mpr (by kernel_rfl : aR Tryz.prog (fun zz_ => match zz_ with | 117 => some ⟨Bool × LL, fun _ hs t => (.tup [], match hs with | [.box (x :: _), .sl ty _ _ _] => [.box [x, .own 1], .sl ty true t.1 t.2] | [.box (x :: _)] => [.box [x, .own 1], .sl (21, 1) true t.1 t.2] | h => h), none⟩ | _ => none) Tryz.f93 [0, 1, 4, 5, 7, 10, 11, 12, 13] (fun zz_ => match zz_ with | 3 => some ⟨Int × PV × Bool × LL, fun s => yR tc tg tj tf tp M S n f es s.1 s.2.1 s.2.2.1 s.2.2.2, fun _ s => J s.1 s.2.1 s.2.2.1 s.2.2.2, fun s => μ s.1 s.2.1 s.2.2.1 s.2.2.2, fun e h => (gI e 12, hP h 0 0, oN h 1, oS h 1), [(1000001, 21, 1)], [0, 5, 10, 11, 12], [], fun p => ∀ (x12 : Int) (h0_0 : PV) (n_1 : Bool) (s_1 : LL), p (x12, h0_0, n_1, s_1), fun p h s => h s.1 s.2.1 s.2.2.1 s.2.2.2⟩ | _ => none) (Tryz.f93.body.getD .skip) [.ptr [tc, tg, tj, tf, tp, .mp M, .mp S], .sl n f es] R = _) h)

end Go.Eng



namespace Go.Eng.Rows
open Go Go.Eng Go.Eng.Trie
def pU (rows : List Row) : Bool -> Int -> List Int -> Int
 | m, _, [] => if m then 2 else 0
 | m, last, r :: l => if (decide (dE rows r = 1) || (!decide (aG rows 1 r = 0) && decide (aG rows 1 r < last))) then 1 else pU rows (m || decide (dE rows r = 2)) (aG rows 1 r) l
def zos (rows : List Row) : Bool := rows.all fun x => !decide (x.kind = 2) || ((decide (1 <= x.a) && decide (x.a <= 1114111)) && (decide (0 <= x.b) && decide (x.b <= 1114111)))
theorem zot {rows : List Row} (h : zos rows = true) : cR rows := fun x hx hk => by
 have := List.all_eq_true.1 h x hx
 simpa [hk] using this
def zou (rows : List Row) : Bool := rows.all fun x => !decide (x.kind = 2) || (decide (x.fr = x.to) && ((decide (0 <= x.fr) && decide (x.fr <= 1114111)) && decide (first rows 2 x.fr = some (x.a, x.b))))
theorem zov {rows : List Row} (h : zou rows = true) : dM rows := fun x hx hk => by
 have := List.all_eq_true.1 h x hx
 simpa [hk] using this
def zow (rows : List Row) : Bool := rows.all fun x => !decide (x.kind = 1) || decide (0 <= x.a)
def gZ (rows : List Row) : Prop := ∀ r, 0 <= aG rows 1 r
theorem zox {rows : List Row} (h : zow rows = true) : gZ rows := fun r => by
 unfold aG
 cases hf : bY rows 1 r with
 | none => exact Int.le_refl _
 | some p =>
   obtain ⟨x, hx, hk, ha, _⟩ := lT hf
   have := List.all_eq_true.1 h x hx
   simp only [hk, decide_true, Bool.not_true, Bool.false_or, decide_eq_true_eq] at this
   simp only; omega
end Go.Eng.Rows



namespace Go.Eng
open Go Go.Proofs Go.Eng.Rows Go.Eng.Trie
theorem tI : cR tab := zot (by kernel_rfl)
theorem yS : dM tab := zov (by kernel_rfl)
theorem m9 : gZ tab := zox (by kernel_rfl)
theorem q1 : pU tab false 0 [101, 769] = 2 := by kernel_rfl
theorem q2 : pU tab false 0 [233] = 0 := by kernel_rfl
theorem q3 : pU tab false 0 [769, 807] = 1 := by kernel_rfl
theorem q4 : pU tab false 0 [8491] = 1 := by kernel_rfl
theorem q5 : dK tab 101 = true := by kernel_rfl
theorem q6 : dK tab 769 = false := by kernel_rfl
theorem q7 : dK tab 4449 = false := by kernel_rfl
end Go.Eng



namespace Go.Eng.Rows
open Go Go.Eng Go.Eng.Trie Go.Eng.Srt
def jK (rows : List Row) (l : List Int) : List Int := c4 (aG rows 1) (l.flatMap (aS rows 8))
def dC (rows : List Row) (x : Int) : Bool := !bW x && decide (aJ rows x = (0, 0))
def zoy (rows : List Row) : Prop := ∀ r, ∀ x ∈ aS rows 8 r, dC rows x = true
theorem zoz {rows : List Row} {r : Int} {p : Int × Int} (h : bY rows 2 r = some p) : ∃ x ∈ rows, x.kind = 2 /\ x.fr <= r /\ r <= x.to := by
 obtain ⟨x, h1, h2, _, _, h3, h4, _⟩ := lT h
 exact ⟨x, h1, h2, h3, h4⟩
theorem tJ {rows : List Row} {x : Int} (h : dC rows x = true) (d : Nat) : aS rows d x = [x] := by
 simp only [dC, Bool.and_eq_true, Bool.not_eq_true', decide_eq_true_eq] at h
 exact pN h.1 h.2
theorem zf0 {rows : List Row} : ∀ {l : List Int}, (∀ x ∈ l, dC rows x = true) -> l.flatMap (aS rows 8) = l
 | [], _ => rfl
 | x :: l, h => by
   rw [List.flatMap_cons, tJ (h x List.mem_cons_self), zf0 fun y hy => h y (List.mem_cons_of_mem _ hy)]; rfl
section
variable {rows : List Row} (hk : gZ rows)
include hk
theorem zo0 {l : List Int} {x : Int} : x ∈ jK rows l ↔ ∃ r ∈ l, x ∈ aS rows 8 r := by
 unfold jK
 rw [<- (yK hk _).mem, List.mem_flatMap]
theorem zo1 (hp : cR rows) {l : List Int} (h : ∀ x ∈ l, -2147483648 <= x /\ x <= 2147483647) : ∀ x ∈ jK rows l, -2147483648 <= x /\ x <= 2147483647 := fun x hx => by
 obtain ⟨r, hr, h2⟩ := (zo0 hk).1 hx
 rcases pO hp 8 r x h2 with rfl | h3
 ·exact h x hr
 ·omega
theorem zf1 (l : List Int) : (jK rows l).length <= 768 * l.length := by
 unfold jK
 rw [<- (yK hk _).len]
 induction l with
 | nil => simp
 | cons x l ih =>
   have := mZ rows 8 x
   rw [List.flatMap_cons, List.length_append, List.length_cons]; omega
end
end Go.Eng.Rows



namespace Go.Eng
open Go Go.Proofs Go.Eng.Rows Go.Eng.Trie
end Go.Eng



namespace Go.Eng
open Go Go.Proofs Go.Eng.Rows Go.Eng.Trie
end Go.Eng



namespace Go.Eng
open Go Go.Proofs Go.Eng.Rows Go.Eng.Trie Go.Eng.Srt
theorem PCall.ofA {P : Program} {f : Nat} {args : List PV} {Q : LV -> Hp -> Prop} {R : PV -> Prop} (hc : ACall P f (args.map .pv) [] Q) (hq : ∀ r h', Q r h' -> ∃ p, iA h' r = some p /\ R p) : PCall P f args R :=
 ⟨hc.1, fun w I G cargs h1 h2 h3 => (hc.2 w I G cargs h1 h2 h3).mono fun e w' ⟨cv, r, h', I', G', e1, e2, e3, e4, e5⟩ => by
  obtain ⟨p, hp, hR⟩ := hq r h' e2
  have ht := e5.t
  have hno : ∀ b, ¬ aV [] G b := fun b ⟨o, ob, ho, _⟩ => by simp at ho
  exact ⟨cv, .pv p, [], AllB I' h' G', G', e1, ⟨p, rfl, hR⟩, HRel.nil G' (fun b hb => hb.elim (e3.cl b) e3.blk_lt), .pv _ _ (oF e3 e4 hp),
   ⟨⟨ht.os, ht.tape, ht.output, ht.size, ht.keep, fun b hb => .inl (ht.i1 b hb), fun b hb => hb.elim (ht.i2 b) (fun ho => (ht.own2 b ho).elim (fun x => absurd x (hno b)) (fun x => .inr (.inr x))), fun b hb => absurd hb (fun ⟨o, ob, ho, _⟩ => by simp at ho), ht.frz, ht.drawn⟩, Nat.le_refl _, fun o ob ho => by simp at ho⟩⟩⟩
theorem nA (n f : Bool) (l : List Int) (k : Nat) (hk : k < 1000) : PCall Tryz.prog 13 [.sl n f (aA l), .int .i64 k] fun v => ∃ n f, v = .sl n f (aA (l.take k)) := by
 refine zop _ _ _ _ ?_; unfold zfy
 refine aF (fun hc => ?_) (fun hc => ?_)
 ·simp only [decide_eq_true_eq, aX] at hc
  refine ⟨⟨by unfold bC; simp; omega, cU _⟩, n, _, by rw [show ((k : Int)).toNat = k by omega]; simp only [aA, List.map_take, List.drop_zero]; rfl⟩
 ·simp only [decide_eq_true_eq, aX] at hc
  rw [List.take_of_length_le (by omega)]
  exact ⟨_, _, rfl⟩
theorem zo2 (n f n2 f2 : Bool) (l m : List Int) (hl : l.length < 1000000000000) : yQ n f (aA l) n2 f2 (aA m) (fun i => 0 <= i /\ i <= l.length /\ l.take i.toNat = m.take i.toNat) (fun i => l.length - i.toNat) fun v => v = .bool (decide (l = m)) := by
 unfold yQ
 refine aF (fun hc => ?_) (fun hc => ?_)
 ·simp only [aX, bne_iff_ne, ne_eq] at hc
  have : l ≠ m := fun e => hc (by rw [e])
  simp [this]
 ·simp only [aX, bne_iff_ne, ne_eq, Decidable.not_not] at hc
  have hlm : l.length = m.length := by omega
  refine ⟨⟨rfl, Int.le_refl _, by omega, rfl⟩, ?_⟩
  rintro i ⟨i0, i1, he⟩
  refine aF (fun h => ?_) (fun h => ?_)
  ·simp only [decide_eq_true_eq, aX] at h
   have hi : i.toNat < l.length := by omega
   have hj : i.toNat < m.length := by omega
   obtain ⟨g1, g2⟩ := gB i0 hi
   obtain ⟨k1, k2⟩ := gB i0 hj
   have hw : i64.wrap (i + 1) = i + 1 := aD (by omega) (by omega)
   refine ⟨g1, l[i.toNat], by rw [g2]; rfl, k1, m[i.toNat], by rw [k2]; rfl, aF (fun hc2 => ?_) (fun hc2 => ?_)⟩
   ·simp only [bne_iff_ne, ne_eq] at hc2
    have : l ≠ m := fun e => hc2 (by subst e; rfl)
    simp [this]
   ·simp only [bne_iff_ne, ne_eq, Decidable.not_not] at hc2
    rw [hw]
    exact ⟨rfl, ⟨by omega, by omega, by rw [show (i + 1).toNat = i.toNat + 1 by omega, dI hi, dI hj, he, hc2]⟩, by dsimp only; omega⟩
  ·simp only [decide_eq_true_eq, aX] at h
   rw [List.take_of_length_le (by omega), List.take_of_length_le (by omega)] at he
   simp [he]
theorem zo3 (n f n2 f2 : Bool) (l m : List Int) (hl : l.length < 1000000000000) : PCall Tryz.prog 25 [.sl n f (aA l), .sl n2 f2 (aA m)] fun v => v = .bool (decide (l = m)) :=
 zoq _ _ _ _ _ _ _ _ (zo2 n f n2 f2 l m hl)
section
variable {rows : List Row}
end
end Go.Eng



namespace Go.Eng
open Go Go.Proofs Go.Eng.Rows Go.Eng.Trie Go.Eng.Srt
section
variable {rows : List Row}
theorem set1 {es : List (List PV)} {k : Nat} {v x : PV} (h : es.getD k [] = [x]) : es.set k (v :: zq (List.drop 1 (es.getD k []))) = es.set k [v] := by rw [h]; rfl
end
end Go.Eng



namespace Go.Eng
open Go Go.Proofs Go.Eng.Rows Go.Eng.Trie Go.Eng.Srt
theorem zo4 : tab.length < 1000000 := by have := zlu; omega
theorem yT (n f : Bool) : PCall Tryz.prog 16 [.sl n f (cY tab)] (gA tab) := znn n f tab zo4 tI
theorem R32.take {l : List Int} (h : R32 l) (k : Nat) : R32 (l.take k) := fun x hx => h x (List.mem_of_mem_take hx)
section
variable {rows : List Row} {v : PV}
theorem zo5 {ts : List PV} {key : Int -> Int} (hT : ∀ r : Int, (-2147483648 <= r /\ r <= 2147483647) -> PCall Tryz.prog 90 [.ptr ts, .int .i32 r] fun v => v = .int .i64 (key r)) : iK (.ptr ts) key := by
 intro a b ha hb
 refine zka _ _ _ ?_; unfold zco
 refine .inl ⟨ts, rfl, .inl ⟨ts, rfl, ?_⟩⟩
 refine (hT a ha).mono ?_
 rintro _ rfl
 refine ⟨_, rfl, ?_⟩
 refine (hT b hb).mono ?_
 rintro _ rfl
 refine ⟨_, rfl, ?_⟩
 refine (p61 _ _).mono ?_
 rintro _ rfl
 refine ⟨_, rfl, _, rfl, ?_⟩
 unfold cmpS; split <;> (try split) <;> omega
theorem zo6 (hk : gZ rows) (hv : gA rows v) (n f : Bool) (L : List Int) (hr : R32 L) (hL : L.length < 1000000000000) : PCall Tryz.prog 118 [v, .sl n f (aA L)] fun x => ∃ n f, x = .sl n f (aA (c4 (aG rows 1) L)) := by
 obtain ⟨tc, tg, tj, tf, tp, made, sec, rfl, ht, hm⟩ := hv
 have hT : ∀ r : Int, (-2147483648 <= r /\ r <= 2147483647) -> PCall Tryz.prog 90 [.ptr [tc, tg, tj, tf, tp, .mp (c9 made), .mp (d9 sec)], .int .i32 r] fun v => v = .int .i64 (aG rows 1 r) := fun r hr => pK _ _ ht hr
 exact (zoo hk hT (zo5 hT) L hr hL).mono fun x hx => ⟨_, _, hx⟩
theorem zo7 (hp : cR rows) {l : List Int} (h : R32 l) : R32 (l.flatMap (aS rows 8)) := fun x hx => by
 obtain ⟨r, hr, h2⟩ := List.mem_flatMap.1 hx
 rcases pO hp 8 r x h2 with rfl | h3
 ·exact h x hr
 ·omega
theorem zf2 (rows : List Row) (l : List Int) : (l.flatMap (aS rows 8)).length <= 768 * l.length := by
 induction l with
 | nil => simp
 | cons x l ih =>
   have := mZ rows 8 x
   rw [List.flatMap_cons, List.length_append, List.length_cons]; omega
theorem zo8 (rows : List Row) {l : List Int} {i : Nat} (hi : i < l.length) : (l.take (i + 1)).flatMap (aS rows 8) = (l.take i).flatMap (aS rows 8) ++ aS rows 8 l[i] := by
 rw [dI hi, List.flatMap_append]; simp
theorem zo9 (hp : cR rows) (hk : gZ rows) (hv : gA rows v) (n f : Bool) (L : List Int) (hr : R32 L) (hL : L.length < 1000000) : PCall Tryz.prog 93 [v, .sl n f (aA L)] fun x => ∃ n f, x = .sl n f (aA (jK rows L)) := by
 have hv' := hv
 obtain ⟨tc, tg, tj, tf, tp, made, sec, rfl, ht, hm⟩ := hv
 refine zor _ _ _ _ _ _ _ _ _ _ (fun i h0 _ s => h0 = .ptr [tc, tg, tj, tf, tp, .mp (c9 made), .mp (d9 sec)] /\ 0 <= i /\ i <= L.length /\ s = aA ((L.take i.toNat).flatMap (aS rows 8))) (fun i _ _ _ => L.length - i.toNat) ?_
 unfold zfz
 refine ⟨rfl, ⟨rfl, rfl, Int.le_refl _, by omega, rfl⟩, ?_⟩
 rintro i h0 n1 _ ⟨rfl, i0, i1, rfl⟩
 refine aF (fun hc => ?_) (fun hc => ?_)
 ·simp only [decide_eq_true_eq, aX] at hc
  have hi : i.toNat < L.length := by omega
  obtain ⟨g1, g2⟩ := gB i0 hi
  have hx := hr _ (List.getElem_mem hi)
  have hw : i64.wrap (i + 1) = i + 1 := aD (by omega) (by omega)
  have hfl := zf2 rows (L.take i.toNat)
  rw [List.length_take] at hfl
  refine ⟨g1, L[i.toNat], by rw [g2]; rfl, ?_⟩
  refine (zfi _ _ hp ht 8 _ n1 _ (by omega) hx (by omega)).mono ?_
  rintro r h' ⟨nl, rfl, rfl⟩
  rw [hw]
  exact ⟨(nl, _), ⟨rfl, rfl⟩, ⟨trivial, trivial, trivial⟩, rfl, ⟨rfl, by omega, by omega, by rw [show (i + 1).toNat = i.toNat + 1 by omega, zo8 rows hi]; rfl⟩, by dsimp only; omega⟩
 ·simp only [decide_eq_true_eq, aX] at hc
  rw [List.take_of_length_le (by omega)]
  have hfl := zf2 rows L
  refine (zo6 hk hv' n1 false _ (zo7 hp hr) (by omega)).mono ?_
  rintro _ ⟨n2, f2, rfl⟩
  exact ⟨_, _, _, rfl, _, _, rfl⟩
theorem zpa (hk : gZ rows) {l : List Int} (h : l.length < 1000000) : (jK rows l).length < 1000000000000 := by
 have := zf1 hk l; omega
end
end Go.Eng



namespace Go.Eng.Rows
open Go Go.Eng Go.Eng.Trie Go.Eng.Srt
def gD (a b : Int) : Option Int :=
 if (4352 <= a /\ a < 4371) /\ 4449 <= b /\ b < 4470 then some (44032 + ((a - 4352) * 21 + (b - 4449)) * 28)
 else if (bW a = true /\ (a - 44032) % 28 = 0) /\ 4519 < b /\ b < 4547 then some (a + (b - 4519)) else none
def fJ (rows : List Row) (a b : Int) (x : Row) : Bool := decide (x.kind = 2) && (decide (x.a = a) && (decide (x.b = b) && (!decide (b = 0) && !fG rows x.fr)))
def cmpS (rows : List Row) (a b : Int) (o : Option Int) (x : Row) : Option Int :=
 if fJ rows a b x then (match o with | none => some x.fr | some r => if x.fr < r then some x.fr else some r) else o
def pV (rows : List Row) (a b : Int) : Option Int := rows.foldl (cmpS rows a b) none
def gE (rows : List Row) (a b : Int) : Option Int := match gD a b with | some r => some r | none => pV rows a b
theorem zf3 (rows : List Row) (a b : Int) (l : List Row) : match l.foldl (cmpS rows a b) none with
 | none => ∀ x ∈ l, fJ rows a b x = false
 | some r => (∃ x ∈ l, fJ rows a b x = true /\ x.fr = r) /\ ∀ x ∈ l, fJ rows a b x = true -> r <= x.fr := by
 have : ∀ (m : List Row), match m.reverse.foldl (cmpS rows a b) none with
  | none => ∀ x ∈ m, fJ rows a b x = false
  | some r => (∃ x ∈ m, fJ rows a b x = true /\ x.fr = r) /\ ∀ x ∈ m, fJ rows a b x = true -> r <= x.fr := by
  intro m
  induction m with
  | nil => intro x hx; cases hx
  | cons y m ih =>
    rw [List.reverse_cons, List.foldl_append, List.foldl_cons, List.foldl_nil]
    generalize m.reverse.foldl (cmpS rows a b) none = o at ih
    unfold cmpS
    cases hc : fJ rows a b y with
    | false =>
      simp only [Bool.false_eq_true, if_false]
      cases o with
      | none => intro x hx; rcases List.mem_cons.1 hx with rfl | hx; exact hc; exact ih x hx
      | some r =>
        obtain ⟨⟨x, h1, h2⟩, h3⟩ := ih
        exact ⟨⟨x, List.mem_cons_of_mem _ h1, h2⟩, fun z hz hz2 => by rcases List.mem_cons.1 hz with rfl | hz; rw [hc] at hz2; cases hz2; exact h3 z hz hz2⟩
    | true =>
      simp only [if_true]
      cases o with
      | none =>
        refine ⟨⟨y, List.mem_cons_self, hc, rfl⟩, fun z hz hz2 => ?_⟩
        rcases List.mem_cons.1 hz with rfl | hz
        ·exact Int.le_refl _
        ·have := ih z hz; rw [this] at hz2; cases hz2
      | some r =>
        obtain ⟨⟨x, h1, h2, h4⟩, h3⟩ := ih
        by_cases hlt : y.fr < r
        ·simp only [hlt, if_true]
         refine ⟨⟨y, List.mem_cons_self, hc, rfl⟩, fun z hz hz2 => ?_⟩
         rcases List.mem_cons.1 hz with rfl | hz
         ·exact Int.le_refl _
         ·have := h3 z hz hz2; omega
        ·simp only [hlt, if_false]
         refine ⟨⟨x, List.mem_cons_of_mem _ h1, h2, h4⟩, fun z hz hz2 => ?_⟩
         rcases List.mem_cons.1 hz with rfl | hz
         ·omega
         ·exact h3 z hz hz2
 have h := this l.reverse
 rw [List.reverse_reverse] at h
 generalize l.foldl (cmpS rows a b) none = o at h ⊢
 cases o with
 | none => intro x hx; exact h x (List.mem_reverse.2 hx)
 | some r => exact ⟨by obtain ⟨⟨x, h1, h2⟩, _⟩ := h; exact ⟨x, List.mem_reverse.1 h1, h2⟩, fun x hx => h.2 x (List.mem_reverse.2 hx)⟩
theorem yU {rows : List Row} (h1 : dM rows) {x : Row} (hx : x ∈ rows) (hk : x.kind = 2) : aJ rows x.fr = (x.a, x.b) /\ 0 <= x.fr /\ x.fr <= 1114111 := by
 obtain ⟨e1, e2, e3⟩ := h1 x hx hk
 have hf : bY rows 2 x.fr = some (x.a, x.b) := by unfold bY; rw [if_pos e2]; exact e3
 exact ⟨by unfold aJ; rw [hf], e2⟩
theorem zf4 {rows : List Row} (h1 : dM rows) {r : Int} (h : aJ rows r ≠ (0, 0)) : ∃ x ∈ rows, x.kind = 2 /\ x.fr = r /\ aJ rows r = (x.a, x.b) := by
 cases hf : bY rows 2 r with
 | none => exact absurd (by unfold aJ; rw [hf]) h
 | some p =>
   obtain ⟨y, hy, hk, f1, f2⟩ := zoz hf
   obtain ⟨e1, _⟩ := h1 y hy hk
   have hr : y.fr = r := by omega
   have := (yU h1 hy hk).1
   rw [hr] at this
   exact ⟨y, hy, hk, hr, this⟩
theorem zf5 {rows : List Row} (h1 : dM rows) {a b r : Int} (h : pV rows a b = some r) : aJ rows r = (a, b) /\ b ≠ 0 /\ fG rows r = false /\ (0 <= r /\ r <= 1114111) /\ ∃ x ∈ rows, x.kind = 2 /\ x.fr = r := by
 have := zf3 rows a b rows
 unfold pV at h
 rw [h] at this
 obtain ⟨⟨x, hx, hc, rfl⟩, _⟩ := this
 simp only [fJ, Bool.and_eq_true, decide_eq_true_eq, Bool.not_eq_true', decide_eq_false_iff_not] at hc
 obtain ⟨hk, ha, hb, h0, ho⟩ := hc
 obtain ⟨hp, hr⟩ := yU h1 hx hk
 exact ⟨by rw [hp, ha, hb], h0, ho, hr, x, hx, hk, rfl⟩
theorem zpb {rows : List Row} (hp : cR rows) (h1 : dM rows) {made : List ((Int × Int) × Int)} {sec : List (Int × Bool)} (hm : MadeOK rows (fun r => 0 <= r /\ r <= 1114111) made sec) (a b : Int) :
 (if b = 0 then none else bD (a, b) made) = pV rows a b := by
 have hc := zf3 rows a b rows
 have good : ∀ x ∈ rows, fJ rows a b x = true -> b ≠ 0 /\ (0 <= x.fr /\ x.fr <= 1114111) /\ gV rows x.fr /\ aJ rows x.fr = (a, b) := fun x hx hc => by
  simp only [fJ, Bool.and_eq_true, decide_eq_true_eq, Bool.not_eq_true', decide_eq_false_iff_not] at hc
  obtain ⟨hk, ha, hb, h0, ho⟩ := hc
  obtain ⟨e, hr⟩ := yU h1 hx hk
  refine ⟨h0, hr, ⟨?_, ho⟩, by rw [e, ha, hb]⟩
  rw [e]; intro q; exact h0 (hb.symm.trans (Prod.mk.inj q).2)
 have back : ∀ r, b ≠ 0 -> gV rows r -> aJ rows r = (a, b) -> ∃ x ∈ rows, fJ rows a b x = true /\ x.fr = r := fun r h0 hg hpr => by
  obtain ⟨x, hx, hk, hfr, hq⟩ := zf4 h1 hg.1
  have ho := hg.2
  rw [hq] at hpr
  cases hpr
  refine ⟨x, hx, ?_, hfr⟩
  simp only [fJ, Bool.and_eq_true, decide_eq_true_eq, Bool.not_eq_true', decide_eq_false_iff_not]
  exact ⟨hk, trivial, trivial, h0, by rw [hfr]; exact ho⟩
 unfold pV
 generalize rows.foldl (cmpS rows a b) none = o at hc ⊢
 split
 ·rename_i h0
  cases o with
  | none => rfl
  | some r => obtain ⟨⟨x, hx, hb, _⟩, _⟩ := hc; exact absurd h0 (good x hx hb).1
 ·rename_i h0
  cases hg : bD (a, b) made with
  | none =>
    cases o with
    | none => rfl
    | some r =>
      obtain ⟨⟨x, hx, hb, _⟩, _⟩ := hc
      obtain ⟨_, g1, g2, g3⟩ := good x hx hb
      exact absurd g3 (hm.m2 _ hg _ g1 g2)
  | some r =>
    obtain ⟨d1, d2, d3, d4⟩ := hm.m1 _ _ hg
    obtain ⟨x, hx, hb, hfr⟩ := back r h0 d2 d3
    cases o with
    | none => have := hc x hx; rw [this] at hb; cases hb
    | some s =>
      obtain ⟨⟨y, hy, hyb, rfl⟩, hl⟩ := hc
      obtain ⟨_, g1, g2, g3⟩ := good y hy hyb
      have k1 := hl x hx hb
      have k2 := d4 _ g1 g2 g3
      rw [hfr] at k1
      exact congrArg some (Int.le_antisymm k2 k1)
theorem zf6 {a b r : Int} (h : gD a b = some r) : bW r = true := by
 unfold gD at h
 split at h
 ·rename_i hc; cases h; simp only [bW, Bool.and_eq_true, decide_eq_true_eq]; omega
 ·split at h
  ·rename_i hc; cases h; simp only [bW, Bool.and_eq_true, decide_eq_true_eq] at hc ⊢; omega
  ·cases h
theorem zpc {rows : List Row} (h1 : dM rows) {a b r : Int} (h : gE rows a b = some r) : 0 <= r /\ r <= 1114111 := by
 unfold gE at h
 split at h
 ·rename_i s hj; cases h; have := zf6 hj; simp only [bW, Bool.and_eq_true, decide_eq_true_eq] at this; omega
 ·exact (zf5 h1 h).2.2.2.1
structure CSt where
 P : List Int
 s : Option Int
 M : List Int
def dR (key : Int -> Int) (M : List Int) : Int := match M.getLast? with | some m => key m | none => 0
def CSt.out (st : CSt) : List Int := st.P ++ (st.s.toList ++ st.M)
def cC (key : Int -> Int) (st : CSt) (r : Int) : CSt := if key r = 0 then ⟨st.out, some r, []⟩ else ⟨st.P, st.s, st.M ++ [r]⟩
def cN (rows : List Row) (st : CSt) (r : Int) : CSt := match st.s with
 | none => cC (aG rows 1) st r
 | some a => if st.M = [] ∨ dR (aG rows 1) st.M < aG rows 1 r then (match gE rows a r with
   | some c => ⟨st.P, some c, st.M⟩
   | none => cC (aG rows 1) st r) else cC (aG rows 1) st r
def bN (rows : List Row) (l : List Int) : CSt := l.foldl (cN rows) ⟨[], none, []⟩
def gG (rows : List Row) (l : List Int) : List Int := (bN rows l).out
theorem gH (rows : List Row) (l : List Int) (r : Int) : bN rows (l ++ [r]) = cN rows (bN rows l) r := by simp [bN]
theorem lY (key : Int -> Int) (st : CSt) (r : Int) : (cC key st r).out = st.out ++ [r] := by
 unfold cC; split <;> simp [CSt.out]
theorem pW (rows : List Row) (st : CSt) (r : Int) : cN rows st r = cC (aG rows 1) st r ∨ ∃ a c, st.s = some a /\ gE rows a r = some c /\ (st.M = [] ∨ dR (aG rows 1) st.M < aG rows 1 r) /\ cN rows st r = ⟨st.P, some c, st.M⟩ := by
 unfold cN
 split
 ·exact .inl rfl
 ·rename_i a ha
  split
  ·rename_i hf
   cases hc : gE rows a r with
   | none => exact .inl rfl
   | some c => exact .inr ⟨a, c, ha, hc, hf, rfl⟩
  ·exact .inl rfl
theorem zf7 (rows : List Row) (l : List Int) : (gG rows l).length <= l.length := by
 unfold gG
 induction l using gY with
 | h0 => simp [bN, CSt.out]
 | h1 l r ih =>
   rw [gH, List.length_append, List.length_singleton]
   rcases pW rows (bN rows l) r with e | ⟨a, c, hs, _, _, e⟩
   ·rw [e, lY, List.length_append, List.length_singleton]; omega
   ·rw [e]; simp only [CSt.out, hs, Option.toList, List.length_append, List.length_cons] at ih ⊢; omega
theorem zpd {rows : List Row} (h1 : dM rows) (l : List Int) : ∀ x ∈ gG rows l, x ∈ l ∨ (0 <= x /\ x <= 1114111) := by
 unfold gG
 induction l using gY with
 | h0 => intro x hx; simp [bN, CSt.out] at hx
 | h1 l r ih =>
   rw [gH]
   rcases pW rows (bN rows l) r with e | ⟨a, c, hs, hc, _, e⟩
   ·rw [e, lY]
    intro x hx
    rcases List.mem_append.1 hx with hx | hx
    ·exact (ih x hx).imp (fun h => List.mem_append.2 (.inl h)) id
    ·exact .inl (List.mem_append.2 (.inr hx))
   ·rw [e]
    intro x hx
    simp only [CSt.out, Option.toList, List.mem_append, List.mem_cons, List.not_mem_nil, or_false] at hx ih
    rcases hx with hx | rfl | hx
    ·exact (ih x (.inl hx)).imp (fun h => List.mem_append.2 (.inl h)) id
    ·exact .inr (zpc h1 hc)
    ·exact (ih x (.inr (.inr hx))).imp (fun h => List.mem_append.2 (.inl h)) id
structure TabC (rows : List Row) : Prop where
 one : dM rows
 closed : zoy rows
 cls : gZ rows
 syl : ∀ x ∈ rows, x.kind = 2 -> bW x.fr = false
 deep : ∀ x ∈ rows, x.kind = 2 -> aS rows 7 x.fr = aS rows 8 x.fr
theorem TabC.full7 {rows : List Row} (h : TabC rows) (r : Int) : aS rows 7 r = aS rows 8 r := by
 by_cases hs : bW r = true
 ·rw [jI hs, jI hs]
 ·simp only [Bool.not_eq_true] at hs
  by_cases h0 : aJ rows r = (0, 0)
  ·rw [pN hs h0, pN hs h0]
  ·obtain ⟨x, hx, hk, rfl, _⟩ := zf4 h.one h0
   exact h.deep x hx hk
theorem TabC.join {rows : List Row} (h : TabC rows) {a b c : Int} (ha : dC rows a = true ∨ bW a = true) (hj : gD a b = some c) : aS rows 8 c = aS rows 8 a ++ [b] := by
 rw [jI (zf6 hj)]
 unfold gD at hj
 split at hj
 ·rename_i hc
  cases hj
  have hr : dC rows a = true := by
   rcases ha with ha | ha
   ·exact ha
   ·simp only [bW, Bool.and_eq_true, decide_eq_true_eq] at ha; omega
  rw [tJ hr]
  unfold eL
  rw [if_pos (by omega)]
  simp only [List.cons_append, List.nil_append, List.cons.injEq, and_true]
  omega
 ·split at hj
  ·rename_i hc
   cases hj
   obtain ⟨⟨hs, h0⟩, h1, h2⟩ := hc
   rw [jI hs]
   simp only [bW, Bool.and_eq_true, decide_eq_true_eq] at hs
   unfold eL
   rw [if_neg (by omega), if_pos h0]
   simp only [List.cons_append, List.nil_append, List.cons.injEq, and_true]
   omega
  ·cases hj
theorem TabC.lead {rows : List Row} (h : TabC rows) {a : Int} (ha : 4352 <= a /\ a < 4371) : dC rows a = true := by
 have hx := h.closed (44032 + (a - 4352) * 588) a
 refine hx ?_
 have hs : bW (44032 + (a - 4352) * 588) = true := by simp only [bW, Bool.and_eq_true, decide_eq_true_eq]; omega
 rw [jI hs]
 unfold eL
 rw [if_pos (by omega), show 4352 + (44032 + (a - 4352) * 588 - 44032) / 588 = a by omega]
 exact List.mem_cons_self
theorem TabC.pair {rows : List Row} (h : TabC rows) {a b c : Int} (hb : dC rows b = true) (hc : gE rows a b = some c) : aS rows 8 c = aS rows 8 a ++ [b] := by
 unfold gE at hc
 split at hc
 ·rename_i s hj
  cases hc
  refine h.join ?_ hj
  unfold gD at hj
  split at hj
  ·rename_i hq; exact .inl (h.lead hq.1)
  ·split at hj
   ·rename_i hq; exact .inr hq.1.1
   ·cases hj
 ·obtain ⟨hp, h0, _, _, x, hx, hk, rfl⟩ := zf5 h.one hc
  have hs := h.syl x hx hk
  have hn : aJ rows x.fr ≠ (0, 0) := by rw [hp]; intro e; cases e; exact h0 rfl
  rw [show (8 : Nat) = 7 + 1 from rfl]
  rw [aS, if_neg (by rw [hs]; simp), if_neg hn, hp]
  simp only
  rw [if_neg h0, h.full7, tJ hb]
theorem yV (key : Int -> Int) (M : List Int) (r : Int) : dR key (M ++ [r]) = key r := by simp [dR]
structure InvC (rows : List Row) (st : CSt) (p : List Int) : Prop where
 e : Eqv (aG rows 1) (st.out.flatMap (aS rows 8)) p
 m : ∀ m ∈ st.M, aG rows 1 m ≠ 0 /\ dC rows m = true /\ aG rows 1 m <= dR (aG rows 1) st.M
 q : st.M ≠ [] -> ∃ p' q, p = p' ++ [q] /\ dR (aG rows 1) st.M <= aG rows 1 q
theorem InvC.app {rows : List Row} {st : CSt} {p : List Int} (h : InvC rows st p) {r : Int} (hr : dC rows r = true) (hc : bZ (aG rows 1) (p ++ [r])) : InvC rows (cC (aG rows 1) st r) (p ++ [r]) := by
 have he : Eqv (aG rows 1) ((cC (aG rows 1) st r).out.flatMap (aS rows 8)) (p ++ [r]) := by
  rw [lY, List.flatMap_append, List.flatMap_singleton, tJ hr]
  simpa using h.e.app [] [r]
 refine ⟨he, ?_, ?_⟩
 ·unfold cC
  split
  ·intro m hm; cases hm
  ·rename_i h0
   intro m hm
   simp only at hm ⊢
   rw [yV]
   rcases List.mem_append.1 hm with hm | hm
   ·obtain ⟨k1, k2, k3⟩ := h.m m hm
    refine ⟨k1, k2, ?_⟩
    obtain ⟨p', q, rfl, hq⟩ := h.q (List.ne_nil_of_mem hm)
    have := (lX.1 hc).2.2 q r (by simp) rfl h0
    omega
   ·rw [List.mem_singleton] at hm; subst hm; exact ⟨h0, hr, Int.le_refl _⟩
 ·unfold cC
  split
  ·intro hn; exact absurd rfl hn
  ·intro _; exact ⟨p, r, rfl, by simp only; rw [yV]; exact Int.le_refl _⟩
theorem InvC.step {rows : List Row} (ht : TabC rows) {st : CSt} {p : List Int} (h : InvC rows st p) {r : Int} (hr : dC rows r = true) (hc : bZ (aG rows 1) (p ++ [r])) : InvC rows (cN rows st r) (p ++ [r]) := by
 rcases pW rows st r with e | ⟨a, c, hs, hpc, hf, e⟩
 ·rw [e]; exact h.app hr hc
 ·rw [e]
  have hM : st.M.flatMap (aS rows 8) = st.M := zf0 fun m hm => (h.m m hm).2.1
  have he := h.e
  simp only [CSt.out, hs, Option.toList, List.flatMap_append, List.flatMap_singleton, hM] at he
  have hlt : st.M ≠ [] -> dR (aG rows 1) st.M < aG rows 1 r := fun hn => hf.elim (fun e => absurd e hn) id
  refine ⟨?_, h.m, fun hn => ⟨p, r, rfl, Int.le_of_lt (hlt hn)⟩⟩
  simp only [CSt.out, Option.toList, List.flatMap_append, List.flatMap_singleton, hM, ht.pair hr hpc]
  refine Eqv.trans ?_ (by simpa using he.app [] [r])
  by_cases hn : st.M = []
  ·rw [hn]; simp; exact .refl _
  ·have h3 : dR (aG rows 1) st.M < aG rows 1 r := hlt hn
   have hr0 : aG rows 1 r ≠ 0 := by
    intro e0
    obtain ⟨m, hm⟩ := List.exists_mem_of_ne_nil _ hn
    obtain ⟨k1, _, k3⟩ := h.m m hm
    have := ht.cls m; omega
   have := (Eqv.ahead (key := aG rows 1) hr0 (B := st.M) [] fun m hm => ⟨(h.m m hm).1, by have := (h.m m hm).2.2; omega⟩).symm.app (st.P.flatMap (aS rows 8) ++ aS rows 8 a) []
   simpa using this
theorem zpe {rows : List Row} (ht : TabC rows) {l : List Int} (hr : ∀ x ∈ l, dC rows x = true) (hc : bZ (aG rows 1) l) : InvC rows (bN rows l) l := by
 revert hr hc
 induction l using gY with
 | h0 => intro _ _; exact ⟨.refl _, (fun m hm => by cases hm), fun hn => absurd rfl hn⟩
 | h1 l r ih =>
   intro hr hc
   rw [gH]
   exact (ih (fun x hx => hr x (by simp [hx])) (lX.1 hc).1).step ht (hr r (by simp)) hc
def gJ (rows : List Row) (l : List Int) : List Int := gG rows (jK rows l)
end Go.Eng.Rows



namespace Go.Eng
open Go Go.Proofs Go.Eng.Rows Go.Eng.Trie
end Go.Eng



namespace Go.Eng.Rows
open Go Go.Eng Go.Eng.Trie Go.Eng.Srt
def Comp (rows : List Row) (s : List Int) : Prop := ∃ d, (∀ x ∈ d, dC rows x = true) /\ bZ (aG rows 1) d /\ gG rows d = s
section
variable {rows : List Row}
def iN (rows : List Row) (s : Option Int) (M : List Int) (r : Int) : Option Int := match s with
 | none => none
 | some a => if M = [] ∨ dR (aG rows 1) M < aG rows 1 r then gE rows a r else none
theorem jL (st : CSt) (r : Int) : cN rows st r = match iN rows st.s st.M r with | some c => ⟨st.P, some c, st.M⟩ | none => cC (aG rows 1) st r := by
 unfold cN iN
 cases st.s with
 | none => rfl
 | some a =>
   simp only
   split
   ·rfl
   ·rfl
theorem yW {s : Option Int} {M : List Int} {r c : Int} (h : iN rows s M r = some c) : ∃ a, s = some a /\ gE rows a r = some c /\ (M = [] ∨ dR (aG rows 1) M < aG rows 1 r) := by
 unfold iN at h
 cases s with
 | none => cases h
 | some a =>
   simp only at h
   split at h
   ·rename_i hf; exact ⟨a, rfl, h, hf⟩
   ·cases h
theorem jM {d : List Int} {x : Int} : bZ (aG rows 1) (d ++ [x]) ↔ bZ (aG rows 1) d /\ (∀ z, d.getLast? = some z -> aG rows 1 x ≠ 0 -> aG rows 1 z <= aG rows 1 x) := by
 rw [lX]
 constructor
 ·rintro ⟨h1, _, h3⟩; exact ⟨h1, fun z hz hx => h3 z x hz rfl hx⟩
 ·rintro ⟨h1, h3⟩; exact ⟨h1, trivial, fun z x' hz hx' h0 => by simp at hx'; subst hx'; exact h3 z hz h0⟩
theorem yX {d : List Int} {r x : Int} (h : bZ (aG rows 1) (d ++ [r] ++ [x])) (hx : aG rows 1 x ≠ 0) : aG rows 1 r <= aG rows 1 x := (jM.1 h).2 r (by simp) hx
def Wit (rows : List Row) (d : List Int) (st : CSt) : Prop := ∃ e, (∀ x ∈ e, dC rows x = true) /\ bN rows e = st /\ (st.out = [] -> e = []) /\ bZ (aG rows 1) e /\ ∀ x, bZ (aG rows 1) (d ++ [x]) -> bZ (aG rows 1) (e ++ [x])
theorem Wit.snoc {d : List Int} {st : CSt} (h : Wit rows d st) {r : Int} (hr : dC rows r = true) (hc : bZ (aG rows 1) (d ++ [r])) (hn : (cN rows st r).out ≠ []) : Wit rows (d ++ [r]) (cN rows st r) := by
 obtain ⟨e, h1, h2, h3, h4, h5⟩ := h
 refine ⟨e ++ [r], fun x hx => ?_, by rw [gH, h2], fun hq => absurd hq hn, h5 r hc, fun x hx => ?_⟩
 ·rcases List.mem_append.1 hx with hx | hx
  ·exact h1 x hx
  ·rw [List.mem_singleton] at hx; subst hx; exact hr
 ·exact jM.2 ⟨h5 r hc, fun z hz h0 => by simp at hz; subst hz; exact yX hx h0⟩
theorem yY {key : Int -> Int} {M : List Int} (h : M ≠ []) : ∃ m ∈ M, dR key M = key m := by
 rcases M.eq_nil_or_concat with rfl | ⟨D, z, rfl⟩
 ·exact absurd rfl h
 ·exact ⟨z, by simp, by simp [dR]⟩
theorem zf8 {d : List Int} (h : (bN rows d).out = []) : d = [] := by
 revert h
 induction d using gY with
 | h0 => exact fun _ => rfl
 | h1 d r ih =>
   rw [gH, jL]
   intro h
   split at h
   ·simp [CSt.out] at h
   ·rw [lY] at h; simp at h
theorem tK {d : List Int} (h : (bN rows d).s = none) : (bN rows d).P = [] := by
 revert h
 induction d using gY with
 | h0 => exact fun _ => rfl
 | h1 d r ih =>
   rw [gH, jL]
   split
   ·intro h; cases h
   ·unfold cC
    split
    ·intro h; cases h
    ·exact ih
theorem zpf (ht : TabC rows) {d : List Int} (hr : ∀ x ∈ d, dC rows x = true) (hc : bZ (aG rows 1) d) (hn : (bN rows d).M ≠ []) :
 Wit rows d ⟨(bN rows d).P, (bN rows d).s, (bN rows d).M.dropLast⟩ := by
 revert hr hc hn
 induction d using gY with
 | h0 => intro _ _ hn; exact absurd rfl hn
 | h1 d r ih =>
   intro hr hc
   have hr1 : ∀ x ∈ d, dC rows x = true := fun x hx => hr x (by simp [hx])
   have hc1 := (jM.1 hc).1
   have hinv := zpe ht hr1 hc1
   have hrr := hr r (by simp)
   rw [gH]
   have ih := ih hr1 hc1
   have hon := zf8 (rows := rows) (d := d)
   generalize hsd : bN rows d = st at *
   rw [jL]
   cases hd : iN rows st.s st.M r with
   | none =>
     simp only
     unfold cC
     split
     ·intro hn; exact absurd rfl hn
     ·rename_i h0
      intro _
      simp only [List.dropLast_concat]
      refine ⟨d, hr1, hsd, fun h => hon h, hc1, fun x hx => jM.2 ⟨hc1, fun z hz hx0 => ?_⟩⟩
      have := (jM.1 hc).2 z hz h0
      have := yX hx hx0
      omega
   | some c =>
     simp only
     intro hn
     obtain ⟨a, hs, hp, hf⟩ := yW hd
     have hlt := hf.elim (fun e => absurd e hn) id
     have hw := (ih hn).snoc hrr hc
     have he : cN rows ⟨st.P, st.s, st.M.dropLast⟩ r = ⟨st.P, some c, st.M.dropLast⟩ := by
      rw [jL]
      have : iN rows st.s st.M.dropLast r = some c := by
       unfold iN
       rw [hs]
       simp only
       rw [if_pos, hp]
       by_cases hdl : st.M.dropLast = []
       ·exact .inl hdl
       ·obtain ⟨m, hm, e⟩ := yY (key := aG rows 1) hdl
        have := (hinv.m m (List.dropLast_subset _ hm)).2.2
        exact .inr (by omega)
      simp only [this]
     rw [he] at hw
     exact hw (by simp [CSt.out])
def eA (st : CSt) : CSt := match st.s, st.P with
 | none, P => ⟨P, none, st.M.tail⟩
 | some _, [] => ⟨[], none, st.M⟩
 | some c, _ :: P => ⟨P, some c, st.M⟩
theorem zpg {st : CSt} (h : st.s = none -> st.P = []) : (eA st).out = st.out.tail := by
 obtain ⟨P, s, M⟩ := st
 cases s with
 | none =>
   have hp : P = [] := h rfl
   subst hp
   simp [eA, CSt.out]
 | some c => cases P <;> simp [eA, CSt.out]
theorem zph (hk : gZ rows) (M : List Int) : 0 <= dR (aG rows 1) M := by
 by_cases h : M = []
 ·subst h; exact Int.le_refl _
 ·obtain ⟨m, _, e⟩ := yY (key := aG rows 1) h
  rw [e]; exact hk m
theorem zpi (ht : TabC rows) {d : List Int} (hr : ∀ x ∈ d, dC rows x = true) (hc : bZ (aG rows 1) d) (hn : d ≠ []) : Wit rows d (eA (bN rows d)) := by
 revert hr hc hn
 induction d using gY with
 | h0 => intro _ _ hn; exact absurd rfl hn
 | h1 d r ih =>
   intro hr hc _
   have hr1 : ∀ x ∈ d, dC rows x = true := fun x hx => hr x (by simp [hx])
   have hc1 := (jM.1 hc).1
   have hrr := hr r (by simp)
   by_cases hd0 : d = []
   ·subst hd0
    refine ⟨[], fun x hx => (by cases hx), ?_, fun _ => rfl, trivial, fun x _ => trivial⟩
    rw [gH]
    show _ = eA (cC (aG rows 1) ⟨[], none, []⟩ r)
    unfold cC
    split <;> rfl
   ·have ih := ih hr1 hc1 hd0
    have hP := tK (rows := rows) (d := d)
    have hon : (bN rows d).out ≠ [] := fun h => hd0 (zf8 h)
    rw [gH]
    generalize bN rows d = st at *
    have key : (eA (cN rows st r) = cN rows (eA st) r /\ (cN rows (eA st) r).out ≠ []) -> Wit rows (d ++ [r]) (eA (cN rows st r)) := fun ⟨h1, h2⟩ => by
     rw [h1]; exact ih.snoc hrr hc h2
    obtain ⟨P, s, M⟩ := st
    cases s with
    | none =>
      obtain rfl : P = [] := hP rfl
      cases M with
      | nil => exact absurd rfl hon
      | cons m M =>
        refine key ?_
        have e1 : cN rows ⟨[], none, m :: M⟩ r = cC (aG rows 1) ⟨[], none, m :: M⟩ r := rfl
        have e2 : cN rows (eA ⟨[], none, m :: M⟩) r = cC (aG rows 1) ⟨[], none, M⟩ r := rfl
        rw [e1, e2, lY]
        refine ⟨?_, by simp⟩
        unfold cC
        split <;> simp [eA, CSt.out]
    | some c =>
      cases P with
      | cons p P =>
        refine key ?_
        have e2 : eA ⟨p :: P, some c, M⟩ = ⟨P, some c, M⟩ := rfl
        rw [e2, jL, jL]
        simp only
        cases iN rows (some c) M r with
        | none => simp only; rw [lY]; refine ⟨?_, by simp⟩; unfold cC; split <;> simp [eA, CSt.out]
        | some c' => exact ⟨rfl, by simp [CSt.out]⟩
      | nil =>
        have e2 : eA ⟨[], some c, M⟩ = ⟨[], none, M⟩ := rfl
        have e3 : cN rows ⟨[], none, M⟩ r = cC (aG rows 1) ⟨[], none, M⟩ r := rfl
        cases hdec : iN rows (some c) M r with
        | none =>
          refine key ?_
          rw [e2, e3, jL]
          simp only [hdec]
          rw [lY]
          refine ⟨?_, by simp⟩
          unfold cC
          split <;> simp [eA, CSt.out]
        | some c' =>
          obtain ⟨a, _, hp, hf⟩ := yW hdec
          have e4 : eA (cN rows ⟨[], some c, M⟩ r) = ⟨[], none, M⟩ := by
           rw [jL]; simp only [hdec]; rfl
          rw [e4]
          rw [e2] at ih
          obtain ⟨e, h1, h2, h3, h4, h5⟩ := ih
          refine ⟨e, h1, h2, h3, h4, fun x hx => jM.2 ⟨h4, fun z hz hx0 => ?_⟩⟩
          by_cases h0 : aG rows 1 r = 0
          ·have hl := zph ht.cls M
           have hM : M = [] := hf.elim id fun h => by omega
           subst hM
           have := h3 rfl
           subst this
           simp at hz
          ·have k1 := (jM.1 (h5 r hc)).2 z hz h0
           have k2 := yX hx hx0
           omega
theorem zpj {d : List Int} (hr : ∀ x ∈ d, dC rows x = true) (hc : bZ (aG rows 1) d) (hn : (bN rows d).s ≠ none) : ∃ e, (∀ x ∈ e, dC rows x = true) /\ bZ (aG rows 1) e /\ (bN rows e).out = (bN rows d).P := by
 revert hr hc hn
 induction d using gY with
 | h0 => intro _ _ hn; exact absurd rfl hn
 | h1 d r ih =>
   intro hr hc
   have hr1 : ∀ x ∈ d, dC rows x = true := fun x hx => hr x (by simp [hx])
   have hc1 := (jM.1 hc).1
   have ih := ih hr1 hc1
   rw [gH, jL]
   cases hd : iN rows (bN rows d).s (bN rows d).M r with
   | none =>
     simp only
     unfold cC
     split
     ·intro _; exact ⟨d, hr1, hc1, rfl⟩
     ·exact ih
   | some c =>
     obtain ⟨a, hs, _⟩ := yW hd
     intro _
     exact ih (by rw [hs]; simp)
theorem Comp.nil : Comp rows [] := ⟨[], fun x hx => (by cases hx), trivial, rfl⟩
theorem Comp.tail (ht : TabC rows) {s : List Int} (h : Comp rows s) : Comp rows s.tail := by
 obtain ⟨d, h1, h2, rfl⟩ := h
 by_cases hd : d = []
 ·subst hd; exact .nil
 ·obtain ⟨e, k1, k2, _, k4, _⟩ := zpi ht h1 h2 hd
  exact ⟨e, k1, k4, by unfold gG; rw [k2, zpg tK]⟩
theorem Comp.dropLast (ht : TabC rows) {s : List Int} (h : Comp rows s) : Comp rows s.dropLast := by
 obtain ⟨d, h1, h2, rfl⟩ := h
 unfold gG
 by_cases hM : (bN rows d).M = []
 ·cases hs : (bN rows d).s with
  | none =>
    have : (bN rows d).out = [] := by simp [CSt.out, tK hs, hs, hM]
    rw [this]; exact .nil
  | some c =>
    obtain ⟨e, k1, k2, k3⟩ := zpj h1 h2 (by rw [hs]; simp)
    refine ⟨e, k1, k2, ?_⟩
    unfold gG
    rw [k3]
    simp [CSt.out, hs, hM]
 ·obtain ⟨e, k1, k2, _, k4, _⟩ := zpf ht h1 h2 hM
  refine ⟨e, k1, k4, ?_⟩
  unfold gG
  rw [k2]
  simp only [CSt.out]
  rw [List.dropLast_append_of_ne_nil (by simp [hM]), List.dropLast_append_of_ne_nil hM]
theorem Comp.drop (ht : TabC rows) {s : List Int} (h : Comp rows s) : ∀ k, Comp rows (s.drop k)
 | 0 => h
 | k + 1 => by
   have := (Comp.drop ht h k).tail ht
   rwa [List.tail_drop] at this
theorem Comp.take (ht : TabC rows) {s : List Int} (h : Comp rows s) (k : Nat) : Comp rows (s.take k) := by
 have : ∀ n, Comp rows (s.take (s.length - n)) := by
  intro n
  induction n with
  | zero => rw [Nat.sub_zero, List.take_length]; exact h
  | succ n ih =>
    have := ih.dropLast ht
    rw [List.dropLast_eq_take, List.take_take, List.length_take] at this
    rwa [show min (min (s.length - n) s.length - 1) (s.length - n) = s.length - (n + 1) by omega] at this
 by_cases hk : k <= s.length
 ·have := this (s.length - k)
  rwa [show s.length - (s.length - k) = k by omega] at this
 ·rw [List.take_of_length_le (by omega)]; exact h
end
end Go.Eng.Rows



namespace Go.Eng
open Go Go.Proofs
def zf9 (a b : Int) (R : PV -> Prop) : Prop :=
 if (decide (a >= 4352) && decide (a < 4371) && decide (b >= 4449) && decide (b < 4470)) = true then R (PV.tup [Z3 (i32.wrap ((44032 : Int) + i32.wrap (i32.wrap (i32.wrap (i32.wrap (i32.wrap (a -
 4352) * 21) + b) - 4449) * 28))), Zb true]) else PCall Tryz.prog 156 [Z3 a] fun v => ∃ b1, v = Zb b1 /\ if (b1 && (i32.wrap (a - 44032)).tmod (28 : Int) == 0 && decide (b > 4519) && decide (b < 4547)) = true then R
 (PV.tup [Z3 (i32.wrap (i32.wrap (a + b) - 4519)), Zb true]) else R (PV.tup [Z3 0, Zb false])
theorem zpk (a b : Int) {R : PV -> Prop} (h : zf9 a b R) : PCall Tryz.prog 142 [.int .i32 a, .int .i32 b] R :=
 PCall.of Tryz.func142 (by kernel_rfl) (by kernel_rfl) (zl (by kernel_rfl)) (Eq.mpr (by kernel_rfl : aR Tryz.prog (fun _ => none) Tryz.f142 [0, 1, 4, 5, 6, 29] (fun _ => none) (Tryz.f142.body.getD .skip) [.int .i32 a, .int .i32 b] R = _) h)

def zga (tc tg tj tf tp : PV) (M S : List (PV × PV)) (a b : Int) (R : PV -> Prop) : Prop :=
 PCall Tryz.prog 142 [Z3 a, Z3 b] fun v => ∃ vs, v = PV.tup vs /\ vs.length = 2 /\ ∃ x, vs.head? = some x /\ ∃ n, x = Z3 n /\ ∃ x1, vs.tail.head? = some x1 /\ ∃ b1, x1 = Zb b1 /\ if b1 = true then R
 (PV.tup [Z3 n, Zb true]) else PCall Tryz.prog 143 [PV.ptr [tc, tg, tj, tf, tp, PV.mp M, PV.mp S], Z3 a, Z3 b] fun v1 => ∃ vs1, v1 = PV.tup vs1 /\ vs1.length = 2 /\ ∃ x2, vs1.head? = some x2 /\ ∃ n1, x2 = Z3 n1
 /\ ∃ x3, vs1.tail.head? = some x3 /\ ∃ b2, x3 = Zb b2 /\ R (PV.tup [Z3 n1, Zb b2])
theorem zpl (tc tg tj tf tp : PV) (M S : List (PV × PV)) (a b : Int) {R : PV -> Prop} (h : zga tc tg tj tf tp M S a b R) : PCall Tryz.prog 119 [.ptr [tc, tg, tj, tf, tp, .mp M, .mp S], .int .i32 a, .int .i32 b] R :=
 PCall.of Tryz.func119 (by kernel_rfl) (by kernel_rfl) (zl (by kernel_rfl)) (Eq.mpr (by kernel_rfl : aR Tryz.prog (fun _ => none) Tryz.f119 [0, 1, 2, 6, 7, 8, 9, 16] (fun _ => none) (Tryz.f119.body.getD .skip) [.ptr [tc, tg, tj, tf, tp, .mp M, .mp S], .int .i32 a, .int .i32 b] R = _) h)

def lZ (tc tg tj tf tp : PV) (M S : List (PV × PV)) (n f : Bool) (es : LL) (x6 x7 x16 : Int) (n_0 : Bool) (s_0 : LL) : Env × Hp := ([(0, LV.pv (PV.ptr [tc, tg, tj, tf, tp, PV.mp M, PV.mp S])), (5, LV.own 0), (6, Y6 x6), (7, Y6 x7), (14, LV.pv (PV.sl n f es)), (15, Y6 ↑es.length), (16, Y6 x16)], [.sl (21, 1) true n_0 s_0])
def zgb (tc tg tj tf tp : PV) (M S : List (PV × PV)) (n f : Bool) (es : LL) (J : Int -> Int -> Int -> Bool -> LL -> Prop) (μ : Int -> Int -> Int -> Bool -> LL -> Nat) (R : PV -> Prop) : Prop :=
 (aB (lZ tc tg tj tf tp M S n f es (-1 : Int) (0 : Int) (0 : Int) true []) /\ J (-1 : Int) (0 : Int) (0 : Int) true []) /\ ∀ (x6 x7 x16 : Int) (n_0 : Bool) (s_0 : LL), J x6 x7 x16 n_0 s_0 -> if decide (x16 < (↑es.length : Int)) = true
 then aU es x16 1 /\ ∃ n1, (es.getD x16.toNat []).head? = some (Z3 n1) /\ PCall Tryz.prog 90 [PV.ptr [tc, tg, tj, tf, tp, PV.mp M, PV.mp S], Z3 n1] fun v => ∃ n2, v = Z6 n2 /\ if (decide (x6 >= 0) && (x6 ==
 i64.wrap ((↑s_0.length : Int) - 1) || x7 != 0 && decide (x7 < n2))) = true then aU s_0 x6 1 /\ ∃ n3, (List.drop 0 (s_0.getD x6.toNat [])).head? = some (Z3 n3) /\ PCall Tryz.prog 119 [PV.ptr [tc, tg, tj, tf, tp, PV.mp M,
 PV.mp S], Z3 n3, Z3 n1] fun v1 => ∃ vs, v1 = PV.tup vs /\ vs.length = 2 /\ ∃ x, vs.head? = some x /\ ∃ n4, x = Z3 n4 /\ ∃ x1, vs.tail.head? = some x1 /\ ∃ b, x1 = Zb b /\ if b = true then aU s_0
 x6 1 /\ (1 = 1 /\ 1 <= (s_0.getD x6.toNat []).length) /\ aB (lZ tc tg tj tf tp M S n f es x6 x7 (i64.wrap (x16 + 1)) n_0 (s_0.set x6.toNat (Z3 n4 :: zq (List.drop 1 (s_0.getD x6.toNat []))))) /\ J x6 x7
 (i64.wrap (x16 + 1)) n_0 (s_0.set x6.toNat (Z3 n4 :: zq (List.drop 1 (s_0.getD x6.toNat [])))) /\ μ x6 x7 (i64.wrap (x16 + 1)) n_0 (s_0.set x6.toNat (Z3 n4 :: zq (List.drop
 1 (s_0.getD x6.toNat [])))) < μ x6 x7 x16 n_0 s_0 else if (n2 == 0) = true then (aK [[Z3 n1]] 1 /\ (s_0.length + 1) * 4 <= 140737488355328) /\ aB (lZ tc tg tj tf tp M S n f es (↑s_0.length : Int) n2 (i64.wrap (x16 + 1)) (n_0 &&
 false) (s_0 ++ [[Z3 n1]])) /\ J (↑s_0.length : Int) n2 (i64.wrap (x16 + 1)) (n_0 && false) (s_0 ++ [[Z3 n1]]) /\ μ (↑s_0.length : Int) n2 (i64.wrap (x16 + 1)) (n_0 && false) (s_0 ++ [[Z3 n1]]) < μ x6 x7 x16 n_0 s_0 else (aK
 [[Z3 n1]] 1 /\ (s_0.length + 1) * 4 <= 140737488355328) /\ aB (lZ tc tg tj tf tp M S n f es x6 n2 (i64.wrap (x16 + 1)) (n_0 && false) (s_0 ++ [[Z3 n1]])) /\ J x6 n2 (i64.wrap (x16 + 1)) (n_0 && false) (s_0 ++ [[Z3 n1]]) /\
 μ x6 n2 (i64.wrap (x16 + 1)) (n_0 && false) (s_0 ++ [[Z3 n1]]) < μ x6 x7 x16 n_0 s_0 else if (n2 == 0) = true then (aK [[Z3 n1]] 1 /\ (s_0.length + 1) * 4 <= 140737488355328) /\ aB (lZ tc tg tj tf tp M S n f es (↑s_0.length :
 Int) n2 (i64.wrap (x16 + 1)) (n_0 && false) (s_0 ++ [[Z3 n1]])) /\ J (↑s_0.length : Int) n2 (i64.wrap (x16 + 1)) (n_0 && false) (s_0 ++ [[Z3 n1]]) /\ μ (↑s_0.length : Int) n2 (i64.wrap (x16 + 1)) (n_0 && false) (s_0 ++
 [[Z3 n1]]) < μ x6 x7 x16 n_0 s_0 else (aK [[Z3 n1]] 1 /\ (s_0.length + 1) * 4 <= 140737488355328) /\ aB (lZ tc tg tj tf tp M S n f es x6 n2 (i64.wrap (x16 + 1)) (n_0 && false) (s_0 ++ [[Z3 n1]])) /\ J x6 n2 (i64.wrap
 (x16 + 1)) (n_0 && false) (s_0 ++ [[Z3 n1]]) /\ μ x6 n2 (i64.wrap (x16 + 1)) (n_0 && false) (s_0 ++ [[Z3 n1]]) < μ x6 x7 x16 n_0 s_0 else R (PV.sl n_0 false s_0)
theorem zpm (tc tg tj tf tp : PV) (M S : List (PV × PV)) (n f : Bool) (es : LL) (J : Int -> Int -> Int -> Bool -> LL -> Prop) (μ : Int -> Int -> Int -> Bool -> LL -> Nat) {R : PV -> Prop} (h : zgb tc tg tj tf tp M S n f es J μ R) : PCall Tryz.prog 96 [.ptr [tc, tg, tj, tf, tp, .mp M, .mp S], .sl n f es] R :=
 PCall.of Tryz.func96 (by kernel_rfl) (by kernel_rfl) (zl (by kernel_rfl)) (Eq.mpr (by kernel_rfl : aR Tryz.prog (fun _ => none) Tryz.f96 [0, 1, 4, 5, 6, 7, 9, 10, 11, 12, 13, 14, 15, 16, 17, 41, 52, 58] (fun zz_ => match zz_ with | 5 => some ⟨Int × Int × Int × Bool × LL, fun s => lZ tc tg tj tf tp M S n f es s.1 s.2.1 s.2.2.1 s.2.2.2.1 s.2.2.2.2, fun _ s => J s.1 s.2.1 s.2.2.1 s.2.2.2.1 s.2.2.2.2, fun s => μ s.1 s.2.1 s.2.2.1 s.2.2.2.1 s.2.2.2.2, fun e h => (gI e 6, gI e 7, gI e 16, oN h 0, oS h 0), [(5, 21, 1)], [0, 5, 6, 7, 14, 15, 16], [], fun p => ∀ (x6 x7 x16 : Int) (n_0 : Bool) (s_0 : LL), p (x6, x7, x16, n_0, s_0), fun p h s => h s.1 s.2.1 s.2.2.1 s.2.2.2.1 s.2.2.2.2⟩ | _ => none) (Tryz.f96.body.getD .skip) [.ptr [tc, tg, tj, tf, tp, .mp M, .mp S], .sl n f es] R = _) h)

def zgc (tc tg tj tf tp : PV) (M S : List (PV × PV)) (n f : Bool) (es : LL) (R : PV -> Prop) : Prop :=
 PCall Tryz.prog 93 [PV.ptr [tc, tg, tj, tf, tp, PV.mp M, PV.mp S], PV.sl n f es] fun v => ∃ n1 f1 es1, v = PV.sl n1 f1 es1 /\ PCall Tryz.prog 96 [PV.ptr [tc, tg, tj, tf, tp, PV.mp M, PV.mp S], PV.sl n1 f1
 es1] fun v1 => ∃ n2 f2 es2, v1 = PV.sl n2 f2 es2 /\ R (PV.sl n2 f2 es2)
theorem zpn (tc tg tj tf tp : PV) (M S : List (PV × PV)) (n f : Bool) (es : LL) {R : PV -> Prop} (h : zgc tc tg tj tf tp M S n f es R) : PCall Tryz.prog 65 [.ptr [tc, tg, tj, tf, tp, .mp M, .mp S], .sl n f es] R :=
 PCall.of Tryz.func65 (by kernel_rfl) (by kernel_rfl) (zl (by kernel_rfl)) (Eq.mpr (by kernel_rfl : aR Tryz.prog (fun _ => none) Tryz.f65 [0, 1, 4] (fun _ => none) (Tryz.f65.body.getD .skip) [.ptr [tc, tg, tj, tf, tp, .mp M, .mp S], .sl n f es] R = _) h)

end Go.Eng



namespace Go.Eng
open Go Go.Proofs Go.Eng.Rows Go.Eng.Trie Go.Eng.Srt
def tL : Option Int -> PV
 | some r => .tup [.int .i32 r, .bool true]
 | none => .tup [.int .i32 0, .bool false]
theorem zpo {a b : Int} (ha : -2147483648 <= a /\ a <= 2147483647) (hb : -2147483648 <= b /\ b <= 2147483647) : PCall Tryz.prog 142 [.int .i32 a, .int .i32 b] fun v => v = tL (gD a b) := by
 refine zpk _ _ ?_; unfold zf9
 refine aF (fun hc => ?_) (fun hc => ?_)
 ·simp only [Bool.and_eq_true, decide_eq_true_eq, ge_iff_le] at hc
  have w1 : i32.wrap (a - 4352) = a - 4352 := dG (by omega) (by omega)
  have w2 : i32.wrap ((a - 4352) * 21) = (a - 4352) * 21 := dG (by omega) (by omega)
  have w3 : i32.wrap ((a - 4352) * 21 + b) = (a - 4352) * 21 + b := dG (by omega) (by omega)
  have w4 : i32.wrap ((a - 4352) * 21 + b - 4449) = (a - 4352) * 21 + b - 4449 := dG (by omega) (by omega)
  have w5 : i32.wrap (((a - 4352) * 21 + b - 4449) * 28) = ((a - 4352) * 21 + b - 4449) * 28 := dG (by omega) (by omega)
  have w6 : i32.wrap (44032 + ((a - 4352) * 21 + b - 4449) * 28) = 44032 + ((a - 4352) * 21 + b - 4449) * 28 := dG (by omega) (by omega)
  rw [w1, w2, w3, w4, w5, w6]
  unfold gD
  rw [if_pos (by omega)]
  simp only [tL]
  rw [show (a - 4352) * 21 + b - 4449 = (a - 4352) * 21 + (b - 4449) by omega]
 ·simp only [Bool.and_eq_true, decide_eq_true_eq, ge_iff_le] at hc
  refine (zfh a).mono ?_
  rintro _ rfl
  refine ⟨_, rfl, ?_⟩
  have hn : ¬ ((4352 <= a /\ a < 4371) /\ 4449 <= b /\ b < 4470) := by omega
  cases hs : bW a with
  | false =>
    refine bB (by simp) ?_
    unfold gD; rw [if_neg hn, if_neg (by rw [hs]; simp)]; rfl
  | true =>
    have hr := hs
    simp only [bW, Bool.and_eq_true, decide_eq_true_eq] at hr
    have w1 : i32.wrap (a - 44032) = a - 44032 := dG (by omega) (by omega)
    have e3 : (a - 44032).tmod 28 = (a - 44032) % 28 := Int.tmod_eq_emod_of_nonneg (by omega)
    rw [w1, e3]
    refine aF (fun h2 => ?_) (fun h2 => ?_)
    ·simp only [Bool.and_eq_true, decide_eq_true_eq, gt_iff_lt, beq_iff_eq, Bool.true_and] at h2
     have w2 : i32.wrap (a + b) = a + b := dG (by omega) (by omega)
     have w3 : i32.wrap (a + b - 4519) = a + b - 4519 := dG (by omega) (by omega)
     rw [w2, w3]
     unfold gD; rw [if_neg hn, if_pos ⟨⟨hs, h2.1.1⟩, h2.1.2, h2.2⟩]
     simp only [tL]
     rw [show a + b - 4519 = a + (b - 4519) by omega]
    ·simp only [Bool.and_eq_true, decide_eq_true_eq, gt_iff_lt, beq_iff_eq, Bool.true_and] at h2
     unfold gD; rw [if_neg hn, if_neg (by omega)]; rfl
section
variable {rows : List Row} {v : PV}
theorem zpp (hp : cR rows) (h1 : dM rows) (hv : gA rows v) {a b : Int} (ha : -2147483648 <= a /\ a <= 2147483647) (hb : -2147483648 <= b /\ b <= 2147483647) : PCall Tryz.prog 119 [v, .int .i32 a, .int .i32 b] fun x => x = tL (gE rows a b) := by
 obtain ⟨tc, tg, tj, tf, tp, made, sec, rfl, ht, hm⟩ := hv
 refine zpl _ _ _ _ _ _ _ _ _ ?_; unfold zga
 refine (zpo ha hb).mono ?_
 rintro _ rfl
 unfold gE
 cases gD a b with
 | some r =>
   exact ⟨_, rfl, rfl, _, rfl, _, rfl, _, rfl, _, rfl, bA rfl rfl⟩
 | none =>
   refine ⟨_, rfl, rfl, _, rfl, _, rfl, _, rfl, _, rfl, bB (by simp) ?_⟩
   refine (znm _ _ _ _ _ _ made a b).mono ?_
   rintro _ rfl
   rw [<- zpb hp h1 hm a b]
   unfold sX
   split
   ·exact ⟨_, rfl, rfl, _, rfl, _, rfl, _, rfl, _, rfl, rfl⟩
   ·cases bD (a, b) made with
    | none => exact ⟨_, rfl, rfl, _, rfl, _, rfl, _, rfl, _, rfl, rfl⟩
    | some r => exact ⟨_, rfl, rfl, _, rfl, _, rfl, _, rfl, _, rfl, rfl⟩
def eQ (st : CSt) : Int := match st.s with | none => -1 | some _ => st.P.length
theorem zpq {d : List Int} : ∀ m ∈ (bN rows d).M, aG rows 1 m ≠ 0 := by
 induction d using gY with
 | h0 => intro m hm; cases hm
 | h1 d r ih =>
   rw [gH]
   rcases pW rows (bN rows d) r with e | ⟨a, c, hs, hp, _, e⟩
   ·rw [e]
    unfold cC
    split
    ·intro m hm; cases hm
    ·rename_i h0
     intro m hm
     rcases List.mem_append.1 hm with hm | hm
     ·exact ih m hm
     ·rw [List.mem_singleton] at hm; subst hm; exact h0
   ·rw [e]; exact ih
def JC (rows : List Row) (L : List Int) (x6 x7 i : Int) (s : List (List PV)) : Prop := (0 <= i /\ i <= L.length) /\ s = aA (bN rows (L.take i.toNat)).out /\ x6 = eQ (bN rows (L.take i.toNat)) /\ x7 = dR (aG rows 1) (bN rows (L.take i.toNat)).M
theorem JC.next {L : List Int} {i : Int} (h0 : 0 <= i) (hi : i.toNat < L.length) {st : CSt} (he : cN rows (bN rows (L.take i.toNat)) L[i.toNat] = st) : JC rows L (eQ st) (dR (aG rows 1) st.M) (i + 1) (aA st.out) := by
 have e : bN rows (L.take (i + 1).toNat) = st := by
  rw [show (i + 1).toNat = i.toNat + 1 by omega, dI hi, gH, he]
 exact ⟨⟨by omega, by omega⟩, by rw [e], by rw [e], by rw [e]⟩
theorem zpr (hp : cR rows) (h1 : dM rows) (hv : gA rows v) (n f : Bool) (L : List Int) (hr : R32 L) (hL : L.length < 1000000000000) : PCall Tryz.prog 96 [v, .sl n f (aA L)] fun x => ∃ n f, x = .sl n f (aA (gG rows L)) := by
 have hv' := hv
 obtain ⟨tc, tg, tj, tf, tp, made, sec, rfl, ht, hm⟩ := hv
 refine zpm _ _ _ _ _ _ _ _ _ _ (fun x6 x7 i _ s => JC rows L x6 x7 i s) (fun _ _ i _ _ => L.length - i.toNat) ?_
 unfold zgb
 refine ⟨⟨rfl, ⟨Int.le_refl _, by omega⟩, rfl, rfl, rfl⟩, ?_⟩
 rintro x6 x7 i n0 _ ⟨⟨i0, i1⟩, rfl, rfl, rfl⟩
 refine aF (fun hc => ?_) (fun hc => ?_)
 ·simp only [decide_eq_true_eq, aX] at hc
  have hi : i.toNat < L.length := by omega
  obtain ⟨g1, g2⟩ := gB i0 hi
  have hx := hr _ (List.getElem_mem hi)
  have hw : i64.wrap (i + 1) = i + 1 := aD (by omega) (by omega)
  refine ⟨g1, L[i.toNat], by rw [g2]; rfl, ?_⟩
  refine (pK _ _ ht hx).mono ?_
  rintro _ rfl
  refine ⟨_, rfl, ?_⟩
  rw [hw]
  have hlen := zf7 rows (L.take i.toNat)
  have hrng := zpd h1 (L.take i.toNat)
  have hnz := zpq (rows := rows) (d := L.take i.toNat)
  have hnP := tK (rows := rows) (d := L.take i.toNat)
  rw [List.length_take] at hlen
  unfold gG at hlen hrng
  have next := fun st => JC.next (rows := rows) (st := st) i0 hi
  generalize bN rows (L.take i.toNat) = st at *
  have hmu : L.length - (i + 1).toNat < L.length - i.toNat := by omega
  have hsz : aK [[PV.int .i32 L[i.toNat]]] 1 /\ ((aA st.out).length + 1) * 4 <= 140737488355328 := ⟨cU [_], by rw [aX]; omega⟩
  have hout : aA st.out ++ [[PV.int .i32 L[i.toNat]]] = aA (st.out ++ [L[i.toNat]]) := by rw [kL]; rfl
  have hl : ((aA st.out).length : Int) = st.out.length := by rw [aX]
  have app0 : cN rows st L[i.toNat] = cC (aG rows 1) st L[i.toNat] -> aG rows 1 L[i.toNat] = 0 -> JC rows L (aA st.out).length (aG rows 1 L[i.toNat]) (i + 1) (aA st.out ++ [[PV.int .i32 L[i.toNat]]]) := fun he h0 => by
   have := next _ (he.trans (by unfold cC; rw [if_pos h0]))
   rw [hout, hl, h0]
   simpa [eQ, dR, CSt.out] using this
  have app1 : cN rows st L[i.toNat] = cC (aG rows 1) st L[i.toNat] -> aG rows 1 L[i.toNat] ≠ 0 -> JC rows L (eQ st) (aG rows 1 L[i.toNat]) (i + 1) (aA st.out ++ [[PV.int .i32 L[i.toNat]]]) := fun he h0 => by
   have := next _ (he.trans (by unfold cC; rw [if_neg h0]))
   rw [hout]
   simp only [yV] at this
   have e2 : st.out ++ [L[i.toNat]] = CSt.out ⟨st.P, st.s, st.M ++ [L[i.toNat]]⟩ := by simp [CSt.out]
   rw [e2]
   exact this
  refine aF (fun hf => ?_) (fun hf => ?_)
  ·simp only [Bool.and_eq_true, decide_eq_true_eq, Bool.or_eq_true, beq_iff_eq, bne_iff_ne, ne_eq, ge_iff_le] at hf
   obtain ⟨hf1, hf2⟩ := hf
   cases hs : st.s with
   | none => simp [eQ, hs] at hf1
   | some a =>
     have hsi : eQ st = st.P.length := by simp [eQ, hs]
     have hol : st.out.length = st.P.length + 1 + st.M.length := by simp [CSt.out, hs]; omega
     have hw2 : i64.wrap ((aA st.out).length - 1) = st.out.length - 1 := by rw [hl]; exact aD (by omega) (by omega)
     have hfree : st.M = [] ∨ dR (aG rows 1) st.M < aG rows 1 L[i.toNat] := by
      rcases hf2 with h | h
      ·rw [hw2, hsi] at h
       exact .inl (List.eq_nil_of_length_eq_zero (by omega))
      ·exact .inr h.2
     have hat : st.out[st.P.length]'(by omega) = a := by simp [CSt.out, hs]
     obtain ⟨k1, k2⟩ := gB (l := st.out) (i := eQ st) (by omega) (by omega)
     have hta : (eQ st).toNat = st.P.length := by omega
     have k3 : (aA st.out).getD (eQ st).toNat [] = [PV.int .i32 a] := by
      rw [k2]; simp only [hta, hat]
     have ha : -2147483648 <= a /\ a <= 2147483647 := by
      rcases hrng a (by simp [CSt.out, hs]) with h | h
      ·exact hr a (List.mem_of_mem_take h)
      ·omega
     refine ⟨k1, a, by rw [k3]; rfl, ?_⟩
     refine (zpp hp h1 hv' ha hx).mono ?_
     rintro _ rfl
     cases hpc : gE rows a L[i.toNat] with
     | some c =>
       refine ⟨_, rfl, rfl, _, rfl, _, rfl, _, rfl, _, rfl, bA rfl ⟨k1, ⟨rfl, by rw [k3]; exact Nat.le_refl _⟩, rfl, ?_, by dsimp only; omega⟩⟩
       rw [k3, hta]
       have he : cN rows st L[i.toNat] = ⟨st.P, some c, st.M⟩ := by
        unfold cN; rw [hs]; simp only; rw [if_pos hfree, hpc]
       have := next _ he
       have e2 : (aA st.out).set st.P.length [PV.int .i32 c] = aA (CSt.out ⟨st.P, some c, st.M⟩) := by
        simp [CSt.out, hs, aA]
       have e3 : eQ ⟨st.P, some c, st.M⟩ = eQ st := by rw [hsi]; rfl
       rw [e3] at this
       show JC rows L (eQ st) (dR (aG rows 1) st.M) (i + 1) ((aA st.out).set st.P.length [PV.int .i32 c])
       rw [e2]
       exact this
     | none =>
       have he : cN rows st L[i.toNat] = cC (aG rows 1) st L[i.toNat] := by
        unfold cN; rw [hs]; simp only; rw [if_pos hfree, hpc]
       refine ⟨_, rfl, rfl, _, rfl, _, rfl, _, rfl, _, rfl, bB (by simp) (aF (fun h0 => ?_) (fun h0 => ?_))⟩
       ·exact ⟨hsz, rfl, app0 he (by simpa using h0), by dsimp only; omega⟩
       ·exact ⟨hsz, rfl, app1 he (by simpa using h0), by dsimp only; omega⟩
  ·simp only [Bool.and_eq_true, decide_eq_true_eq, Bool.or_eq_true, beq_iff_eq, bne_iff_ne, ne_eq, ge_iff_le] at hf
   have he : cN rows st L[i.toNat] = cC (aG rows 1) st L[i.toNat] := by
    rcases pW rows st L[i.toNat] with e | ⟨a, c, hs, hpc, hfree, e⟩
    ·exact e
    ·have hsi : eQ st = st.P.length := by simp [eQ, hs]
     have hol : st.out.length = st.P.length + 1 + st.M.length := by simp [CSt.out, hs]; omega
     have hw2 : i64.wrap ((aA st.out).length - 1) = st.out.length - 1 := by rw [hl]; exact aD (by omega) (by omega)
     refine absurd ⟨by omega, ?_⟩ hf
     by_cases hM : st.M = []
     ·left; rw [hw2, hsi, hol, hM]; simp
     ·right
      obtain ⟨m, hm, e⟩ := yY (key := aG rows 1) hM
      exact ⟨by rw [e]; exact hnz m hm, hfree.elim (fun e => absurd e hM) id⟩
   refine aF (fun h0 => ?_) (fun h0 => ?_)
   ·exact ⟨hsz, rfl, app0 he (by simpa using h0), by dsimp only; omega⟩
   ·exact ⟨hsz, rfl, app1 he (by simpa using h0), by dsimp only; omega⟩
 ·simp only [decide_eq_true_eq, aX] at hc
  rw [List.take_of_length_le (by omega)]
  exact ⟨_, _, rfl⟩
theorem zps (hp : cR rows) (h1 : dM rows) (hk : gZ rows) (hv : gA rows v) (n f : Bool) (L : List Int) (hr : R32 L) (hL : L.length < 1000000) : PCall Tryz.prog 65 [v, .sl n f (aA L)] fun x => ∃ n f, x = .sl n f (aA (gJ rows L)) := by
 have hv' := hv
 obtain ⟨tc, tg, tj, tf, tp, made, sec, rfl, ht, hm⟩ := hv
 refine zpn _ _ _ _ _ _ _ _ _ _ ?_; unfold zgc
 refine (zo9 hp hk hv' n f L hr hL).mono ?_
 rintro _ ⟨n1, f1, rfl⟩
 refine ⟨_, _, _, rfl, ?_⟩
 refine (zpr hp h1 hv' _ _ _ (zo1 hk hp hr) (zpa hk hL)).mono ?_
 rintro _ ⟨n2, f2, rfl⟩
 exact ⟨_, _, _, rfl, _, _, rfl⟩
theorem tM (hk : gZ rows) (l : List Int) : (gJ rows l).length <= 768 * l.length := Nat.le_trans (zf7 rows _) (zf1 hk l)
end
end Go.Eng



namespace Go.Eng
open Go Go.Proofs Go.Eng.Rows Go.Eng.Trie Go.Eng.Srt
theorem v22 : Tryz.prog.underlying 23 = some (.slice 21) := by kernel_rfl
theorem v21 : Tryz.prog.underlying 21 = some (.int .i32) := by kernel_rfl
theorem nB {v : PV} (h : lF Tryz.prog 8 23 v) : ∃ nl l, v = .sl nl false (aA l) /\ R32 l := by
 obtain ⟨nl, l, e, hl, _, hr⟩ := zj4 v22 v21 (zcf (by kernel_rfl) h)
 cases e
 exact ⟨nl, l, rfl, hr⟩
end Go.Eng



namespace Go.Eng.Rows
open Go Go.Eng Go.Eng.Trie Go.Eng.Srt
def bM (L : List Int) (a b : Nat) : List Int := (L.take b).drop a
def zpt (rows : List Row) (L want : List Int) (a b : Nat) : Bool := decide (jK rows (bM L a b) = want)
def fTo (p : Nat -> Bool) (b : Nat) : Nat -> Option Nat
 | 0 => none
 | k + 1 => if p b then some b else fTo p (b + 1) k
def zgd (rows : List Row) (L want : List Int) (a : Nat) : Nat -> Option (Nat × Nat)
 | 0 => none
 | k + 1 => match fTo (zpt rows L want a) a (L.length + 1 - a) with
   | some b => some (a, b)
   | none => zgd rows L want (a + 1) k
def findL (rows : List Row) (L want : List Int) : Option (Nat × Nat) := zgd rows L want 0 (L.length + 1)
end Go.Eng.Rows



namespace Go.Eng
open Go Go.Proofs
end Go.Eng



namespace Go.Eng
open Go Go.Proofs Go.Eng.Rows Go.Eng.Trie Go.Eng.Srt
theorem nC (n f n2 f2 : Bool) (a b : List Int) (hl : a.length < 1000000000000) : PCall Tryz.prog 25 [.sl n f (aA a), .sl n2 f2 (aA b)] fun x => x = .bool (decide (a = b)) := zo3 n f n2 f2 a b hl
theorem nE (l : List Int) (k : Nat) : (l.take k).length <= k := by rw [List.length_take]; omega
theorem tN {len : Nat} {i j : Int} (h0 : 0 <= i) (h1 : i <= j) (h2 : j <= len) : bC len (some i) (some j) none := ⟨h0, h1, h2, trivial⟩
theorem tO (L : List Int) (i j : Nat) : List.drop i (List.take j (aA L)) = aA (bM L i j) := by simp [aA, bM]
theorem R32.sub {L : List Int} (h : R32 L) (i j : Nat) : R32 (bM L i j) := fun x hx => h x (List.mem_of_mem_take (List.mem_of_mem_drop hx))
theorem nF (L : List Int) (i j : Nat) : (bM L i j).length <= L.length := by unfold bM; rw [List.length_drop, List.length_take]; omega
theorem w3 : Tryz.prog.underlying 3 = some (.int .i64) := by kernel_rfl
theorem l5 {v : PV} (h : lF Tryz.prog 8 3 v) : ∃ n : Int, v = .int .i64 n := by
 obtain ⟨m, e, _⟩ := zcd w3 (zcf (by kernel_rfl) h)
 cases e
 exact ⟨m, rfl⟩
end Go.Eng



namespace Go.Eng.Srt
open Go Go.Eng
section
variable {key : Int -> Int} (hk : ∀ x, 0 <= key x)
include hk
end
end Go.Eng.Srt
namespace Go.Eng.Rows
open Go Go.Eng Go.Eng.Trie Go.Eng.Srt
section
variable {rows : List Row}
def CSt.pre (Q : List Int) (st : CSt) : CSt := ⟨Q ++ st.P, st.s, st.M⟩
end
end Go.Eng.Rows



namespace Go.Eng.Rows
open Go Go.Eng Go.Eng.Trie Go.Eng.Srt
def bX (rows : List Row) (L : List Int) : Nat -> Nat
 | 0 => 0
 | k + 1 => if k = 0 ∨ dK rows (L.getD k 0) = true then k else bX rows L k
def cG (rows : List Row) (L : List Int) (k : Nat) : Nat -> Nat
 | 0 => k
 | n + 1 => if dK rows (L.getD k 0) = true then k else cG rows L (k + 1) n
theorem yZ (rows : List Row) (L : List Int) : ∀ k, bX rows L k <= k /\ (0 < k -> bX rows L k < k) /\ (bX rows L k = 0 ∨ dK rows (L.getD (bX rows L k) 0) = true)
 | 0 => ⟨Nat.le_refl _, fun h => by omega, .inl rfl⟩
 | k + 1 => by
   rw [bX]
   split
   ·rename_i h; exact ⟨by omega, fun _ => by omega, h⟩
   ·obtain ⟨h1, h2, h3⟩ := yZ rows L k; exact ⟨by omega, fun _ => by omega, h3⟩
theorem y0 (rows : List Row) (L : List Int) : ∀ n k, k <= cG rows L k n /\ cG rows L k n <= k + n /\ (cG rows L k n = k + n ∨ dK rows (L.getD (cG rows L k n) 0) = true)
 | 0, k => ⟨Nat.le_refl _, Nat.le_refl _, .inl rfl⟩
 | n + 1, k => by
   rw [cG]
   split
   ·rename_i h; exact ⟨Nat.le_refl _, by omega, .inr h⟩
   ·obtain ⟨h1, h2, h3⟩ := y0 rows L n (k + 1)
    exact ⟨by omega, by omega, h3.imp (fun e => by omega) id⟩
def dN (rows : List Row) (L : List Int) (i j : Nat) (ins : List Int) : List Int := bM L (bX rows L i) i ++ (ins ++ bM L j (cG rows L j (L.length - j)))
def kO (rows : List Row) (L : List Int) (i j : Nat) (ins : List Int) : List Int := L.take (bX rows L i) ++ (gJ rows (dN rows L i j ins) ++ L.drop (cG rows L j (L.length - j)))
theorem zge {L : List Int} {a i : Nat} (h : a <= i) : L.take i = L.take a ++ bM L a i := by
 have := (List.take_append_drop a (L.take i)).symm
 rwa [List.take_take, Nat.min_eq_left h] at this
theorem drop_cons {L : List Int} {b : Nat} (h : b < L.length) : L.drop b = L.getD b 0 :: L.drop (b + 1) := by
 rw [List.drop_eq_getElem_cons h]
 simp only [List.getD, List.getElem?_eq_getElem h, Option.getD_some]
section
variable {rows : List Row}
end
end Go.Eng.Rows



namespace Go.Eng
open Go Go.Proofs
def zgf (r : Int) (R : PV -> Prop) : Prop :=
 R (Zb (decide (r >= 4449) && decide (r < 4470) || decide (r > 4519) && decide (r < 4547)))
theorem zpu (r : Int) {R : PV -> Prop} (h : zgf r R) : PCall Tryz.prog 145 [.int .i32 r] R :=
 PCall.of Tryz.func145 (by kernel_rfl) (by kernel_rfl) (zl (by kernel_rfl)) (Eq.mpr (by kernel_rfl : aR Tryz.prog (fun _ => none) Tryz.f145 [0, 2] (fun _ => none) (Tryz.f145.body.getD .skip) [.int .i32 r] R = _) h)

def zgg (tc tg tj tf tp : PV) (M S : List (PV × PV)) (r : Int) (R : PV -> Prop) : Prop :=
 PCall Tryz.prog 57 [PV.ptr [tc, tg, tj, tf, tp, PV.mp M, PV.mp S], Z3 r] fun v => ∃ b, v = Zb b /\ if b = true then R (Z6 1) else PCall Tryz.prog 144 [PV.ptr [tc, tg, tj, tf, tp, PV.mp M, PV.mp S], Z3 r] fun v1 => ∃ (b1
 : Bool), v1 = Zb b1 /\ if b1 = true then if b1 = true then R (Z6 2) else R (Z6 0) else PCall Tryz.prog 145 [Z3 r] fun v2 => ∃ b2, v2 = Zb b2 /\ if b2 = true then R (Z6 2) else R (Z6 0)
theorem zpv (tc tg tj tf tp : PV) (M S : List (PV × PV)) (r : Int) {R : PV -> Prop} (h : zgg tc tg tj tf tp M S r R) : PCall Tryz.prog 120 [.ptr [tc, tg, tj, tf, tp, .mp M, .mp S], .int .i32 r] R :=
 PCall.of Tryz.func120 (by kernel_rfl) (by kernel_rfl) (zl (by kernel_rfl)) (Eq.mpr (by kernel_rfl : aR Tryz.prog (fun _ => none) Tryz.f120 [0, 1, 4, 5, 9] (fun _ => none) (Tryz.f120.body.getD .skip) [.ptr [tc, tg, tj, tf, tp, .mp M, .mp S], .int .i32 r] R = _) h)

def y6 (tc tg tj tf tp : PV) (M S : List (PV × PV)) (r x13_0 x13_1 x14 : Int) : Env × Hp := ([(0, LV.pv (PV.ptr [tc, tg, tj, tf, tp, PV.mp M, PV.mp S])), (13, .pv (.agg [.int i32 x13_0, .int i32 x13_1])), (14, Y6 x14)], [])
def zgh (tc tg tj tf tp : PV) (M S : List (PV × PV)) (r : Int) (J : Int -> Int -> Int -> Prop) (μ : Int -> Int -> Int -> Nat) (R : PV -> Prop) : Prop :=
 PCall Tryz.prog 94 [PV.ptr [tc, tg, tj, tf, tp, PV.mp M, PV.mp S], Z3 r] fun v => ∃ n f es, v = PV.sl n f es /\ aU es (0 : Int) 1 /\ ∃ n1, (es.getD 0 []).head? = some (Z3 n1) /\ (aB (y6 tc
 tg tj tf tp M S r r n1 (0 : Int)) /\ J r n1 (0 : Int)) /\ ∀ (x13_0 x13_1 x14 : Int), J x13_0 x13_1 x14 -> if decide (x14 < 2) = true then ((0 : Int) <= x14 /\ x14 < (↑2 : Int) /\ x14.toNat * 1 + 1 <= 2) /\ ∃ n2, [Z3 x13_0, Z3 x13_1].getD
 x14.toNat PV.unit = Z3 n2 /\ PCall Tryz.prog 90 [PV.ptr [tc, tg, tj, tf, tp, PV.mp M, PV.mp S], Z3 n2] fun v1 => ∃ n3, v1 = Z6 n3 /\ if (n3 != 0) = true then R (Zb false) else PCall Tryz.prog 120 [PV.ptr [tc, tg, tj, tf, tp,
 PV.mp M, PV.mp S], Z3 n2] fun v2 => ∃ n4, v2 = Z6 n4 /\ if (n4 != 0) = true then R (Zb false) else aB (y6 tc tg tj tf tp M S r x13_0 x13_1 (i64.wrap (x14 + 1))) /\ J x13_0 x13_1 (i64.wrap (x14 + 1)) /\ μ
 x13_0 x13_1 (i64.wrap (x14 + 1)) < μ x13_0 x13_1 x14 else R (Zb true)
theorem zpw (tc tg tj tf tp : PV) (M S : List (PV × PV)) (r : Int) (J : Int -> Int -> Int -> Prop) (μ : Int -> Int -> Int -> Nat) {R : PV -> Prop} (h : zgh tc tg tj tf tp M S r J μ R) : PCall Tryz.prog 97 [.ptr [tc, tg, tj, tf, tp, .mp M, .mp S], .int .i32 r] R :=
 PCall.of Tryz.func97 (by kernel_rfl) (by kernel_rfl) (zl (by kernel_rfl)) (Eq.mpr (by kernel_rfl : aR Tryz.prog (fun _ => none) Tryz.f97 [0, 1, 4, 6, 13, 14, 15, 26] (fun zz_ => match zz_ with | 2 => some ⟨Int × Int × Int, fun s => y6 tc tg tj tf tp M S r s.1 s.2.1 s.2.2, fun _ s => J s.1 s.2.1 s.2.2, fun s => μ s.1 s.2.1 s.2.2, fun e h => (gC e 13 0, gC e 13 1, gI e 14), [], [0, 13, 14], [], fun p => ∀ (x13_0 x13_1 x14 : Int), p (x13_0, x13_1, x14), fun p h s => h s.1 s.2.1 s.2.2⟩ | _ => none) (Tryz.f97.body.getD .skip) [.ptr [tc, tg, tj, tf, tp, .mp M, .mp S], .int .i32 r] R = _) h)

end Go.Eng



namespace Go.Eng
open Go Go.Proofs
def zgi (tc tg tj tf tp : PV) (M S : List (PV × PV)) (r : Int) (R : PV -> Prop) : Prop :=
 (∃ (kvs : List (PV × PV)), some (PV.mp S) = some (PV.mp kvs) /\ eF .i32 kvs /\ (∀ (v : PV), bF (Z3 r) kvs = some v -> ∃ b, v = Zb b /\ R (Zb b)) /\ (bF (Z3 r) kvs = none -> R (Zb false))) ∨ some (PV.mp S) = some PV.nilm /\
 eF .i32 [] /\ (∀ (v : PV), bF (Z3 r) [] = some v -> ∃ b, v = Zb b /\ R (Zb b)) /\ (bF (Z3 r) [] = none -> R (Zb false))
theorem zpx (tc tg tj tf tp : PV) (M S : List (PV × PV)) (r : Int) {R : PV -> Prop} (h : zgi tc tg tj tf tp M S r R) : PCall Tryz.prog 144 [.ptr [tc, tg, tj, tf, tp, .mp M, .mp S], .int .i32 r] R :=
 PCall.of Tryz.func144 (by kernel_rfl) (by kernel_rfl) (zl (by kernel_rfl)) (Eq.mpr (by kernel_rfl : aR Tryz.prog (fun _ => none) Tryz.f144 [0, 1, 4] (fun _ => none) (Tryz.f144.body.getD .skip) [.ptr [tc, tg, tj, tf, tp, .mp M, .mp S], .int .i32 r] R = _) h)

end Go.Eng



namespace Go.Eng
open Go Go.Proofs Go.Eng.Rows Go.Eng.Trie
theorem zpy (tc tg tj tf tp : PV) (M : List (PV × PV)) (sec : List (Int × Bool)) (r : Int) : PCall Tryz.prog 144 [.ptr [tc, tg, tj, tf, tp, .mp M, .mp (d9 sec)], .int .i32 r] fun v => v = .bool (sW sec r) := by
 refine zpx _ _ _ _ _ _ _ _ ?_
 unfold zgi
 have hg := j5 (ek := fun n => PV.int .i32 n) (ev := fun b => PV.bool b) (mT .i32) r sec
 refine .inl ⟨_, rfl, j6 sec, fun v hv => ?_, fun hv => ?_⟩
 ·rw [hg] at hv
  cases h : bD r sec with
  | none => rw [h] at hv; cases hv
  | some b => rw [h] at hv; cases hv; exact ⟨b, rfl, by simp [sW, h]⟩
 ·rw [hg] at hv
  cases h : bD r sec with
  | none => simp [sW, h]
  | some b => rw [h] at hv; cases hv
end Go.Eng



namespace Go.Eng
open Go Go.Proofs Go.Eng.Rows Go.Eng.Trie
theorem zpz (r : Int) : PCall Tryz.prog 145 [.int .i32 r] fun v => v = .bool (yA r) := by
 refine zpu _ ?_; unfold zgf
 unfold yA
 by_cases h1 : 4449 <= r <;> by_cases h2 : r <= 4469 <;> by_cases h3 : 4520 <= r <;> by_cases h4 : r <= 4546 <;> simp [h1, h2, h3, h4] <;> omega
section
variable {rows : List Row}
end
end Go.Eng



namespace Go.Eng
open Go Go.Proofs Go.Eng.Rows Go.Eng.Trie
section
variable {rows : List Row} {v : PV}
theorem qOf (hp : cR rows) (h1 : dM rows) (hv : gA rows v) {r : Int} (hr : -2147483648 <= r /\ r <= 2147483647) : PCall Tryz.prog 120 [v, .int .i32 r] fun x => x = .int .i64 (dE rows r) := by
 obtain ⟨tc, tg, tj, tf, tp, made, sec, rfl, ht, hm⟩ := hv
 refine zpv _ _ _ _ _ _ _ _ ?_; unfold zgg
 refine (zfd _ _ hp ht hr).mono ?_
 rintro _ rfl
 refine ⟨_, rfl, ?_⟩
 refine aF (fun ho => ?_) (fun ho => ?_)
 ·unfold dE; rw [if_pos ho]
 ·refine (zpy tc tg tj tf tp _ sec r).mono ?_
  rintro _ rfl
  have hs : sW sec r = lV rows r := znp hp h1 hm r
  rw [hs]
  refine ⟨_, rfl, ?_⟩
  refine aF (fun h2 => ?_) (fun h2 => ?_)
  ·refine bA h2 ?_
   unfold dE; rw [if_neg ho, if_pos (by simp [h2])]
  ·refine (zpz r).mono ?_
   rintro _ rfl
   refine ⟨_, rfl, ?_⟩
   refine aF (fun h3 => ?_) (fun h3 => ?_)
   ·unfold dE; rw [if_neg ho, if_pos (by simp [h3])]
   ·unfold dE; rw [if_neg ho, if_neg (by simp only [Bool.not_eq_true] at h2 h3; simp [h2, h3])]
theorem zp0 (hp : cR rows) {r : Int} (hr : -2147483648 <= r /\ r <= 2147483647) : -2147483648 <= cZ rows r /\ cZ rows r <= 2147483647 := by
 rcases pO hp 8 r _ (zno rows r) with h | h
 ·rw [h]; exact hr
 ·omega
theorem zp1 {l : List Int} (h : 0 < l.length) : l[0] = l.headD 0 := by
 cases l with
 | nil => simp at h
 | cons a l => rfl
theorem zp2 (rows : List Row) (r : Int) : aU (aA (aS rows 8 r)) 0 1 /\ (aA (aS rows 8 r)).getD 0 [] = [.int .i32 (cZ rows r)] := by
 have hne := yB rows 8 r
 have hlen : 0 < (aS rows 8 r).length := List.length_pos_iff.2 hne
 obtain ⟨h1, h2⟩ := gB (l := aS rows 8 r) (i := 0) (Int.le_refl _) (by simpa using hlen)
 refine ⟨h1, h2.trans ?_⟩
 have : (aS rows 8 r)[(0 : Int).toNat]'(by simpa using hlen) = cZ rows r := zp1 hlen
 rw [this]
theorem zgj (hp : cR rows) (h1 : dM rows) (hv : gA rows v) {r : Int} (hr : -2147483648 <= r /\ r <= 2147483647) : PCall Tryz.prog 97 [v, .int .i32 r] fun x => x = .bool (dK rows r) := by
 have hv' := hv
 obtain ⟨tc, tg, tj, tf, tp, made, sec, rfl, ht, hm⟩ := hv
 have hh := zp0 hp hr
 refine zpw _ _ _ _ _ _ _ _ (fun a b i => r = a /\ cZ rows r = b /\ 0 <= i /\ i <= 2 /\ (1 <= i -> aG rows 1 r = 0 /\ dE rows r = 0) /\ (2 <= i -> aG rows 1 (cZ rows r) = 0 /\ dE rows (cZ rows r) = 0)) (fun _ _ i => (2 - i).toNat) ?_
 unfold zgh
 refine (znu _ _ hp ht hr).mono ?_
 rintro _ ⟨nl, rfl⟩
 obtain ⟨f1, f2⟩ := zp2 rows r
 refine ⟨_, _, _, rfl, f1, cZ rows r, by rw [f2]; rfl, ⟨rfl, rfl, rfl, Int.le_refl _, by omega, fun h => absurd h (by omega), fun h => absurd h (by omega)⟩, ?_⟩
 rintro _ _ i ⟨rfl, rfl, i0, i1, k1, k2⟩
 refine aF (fun hc => ?_) (fun hc => ?_)
 ·simp only [decide_eq_true_eq] at hc
  have hw : i64.wrap (i + 1) = i + 1 := aD (by omega) (by omega)
  have key : ∀ (x : Int), (-2147483648 <= x /\ x <= 2147483647) -> [PV.int .i32 r, .int .i32 (cZ rows r)].getD i.toNat .unit = .int .i32 x ->
   ((aG rows 1 x = 0 /\ dE rows x = 0) -> (1 <= i + 1 -> aG rows 1 r = 0 /\ dE rows r = 0) /\ (2 <= i + 1 -> aG rows 1 (cZ rows r) = 0 /\ dE rows (cZ rows r) = 0)) -> (¬ (aG rows 1 x = 0 /\ dE rows x = 0) -> dK rows r = false) ->
   ∃ n2 : Int, [PV.int .i32 r, .int .i32 (cZ rows r)].getD i.toNat .unit = .int .i32 n2 /\ PCall Tryz.prog 90 [.ptr [tc, tg, tj, tf, tp, .mp (c9 made), .mp (d9 sec)], .int .i32 n2] fun v1 => ∃ n3 : Int, v1 = .int .i64 n3 /\
    if (n3 != 0) = true then PV.bool false = PV.bool (dK rows r) else PCall Tryz.prog 120 [.ptr [tc, tg, tj, tf, tp, .mp (c9 made), .mp (d9 sec)], .int .i32 n2] fun v2 => ∃ n4 : Int, v2 = .int .i64 n4 /\
     if (n4 != 0) = true then PV.bool false = PV.bool (dK rows r) else (1 <= i + 1 -> aG rows 1 r = 0 /\ dE rows r = 0) /\ (2 <= i + 1 -> aG rows 1 (cZ rows r) = 0 /\ dE rows (cZ rows r) = 0) := fun x hx hg hyes hno => by
   refine ⟨x, hg, ?_⟩
   refine (pK _ _ ht hx).mono ?_
   rintro _ rfl
   refine ⟨_, rfl, ?_⟩
   refine aF (fun h4 => ?_) (fun h4 => ?_)
   ·simp only [bne_iff_ne, ne_eq] at h4
    rw [hno fun h => h4 h.1]
   ·simp only [bne_iff_ne, ne_eq, Decidable.not_not] at h4
    refine (qOf hp h1 hv' hx).mono ?_
    rintro _ rfl
    refine ⟨_, rfl, ?_⟩
    refine aF (fun h5 => ?_) (fun h5 => ?_)
    ·simp only [bne_iff_ne, ne_eq] at h5
     rw [hno fun h => h5 h.2]
    ·simp only [bne_iff_ne, ne_eq, Decidable.not_not] at h5
     exact hyes ⟨h4, h5⟩
  have hi : i = 0 ∨ i = 1 := by omega
  have hmu : (2 - (i + 1)).toNat < (2 - i).toNat := by omega
  have key2 : ∃ n2 : Int, [PV.int .i32 r, .int .i32 (cZ rows r)].getD i.toNat .unit = .int .i32 n2 /\ PCall Tryz.prog 90 [.ptr [tc, tg, tj, tf, tp, .mp (c9 made), .mp (d9 sec)], .int .i32 n2] fun v1 => ∃ n3 : Int, v1 = .int .i64 n3 /\
   if (n3 != 0) = true then PV.bool false = PV.bool (dK rows r) else PCall Tryz.prog 120 [.ptr [tc, tg, tj, tf, tp, .mp (c9 made), .mp (d9 sec)], .int .i32 n2] fun v2 => ∃ n4 : Int, v2 = .int .i64 n4 /\
    if (n4 != 0) = true then PV.bool false = PV.bool (dK rows r) else (1 <= i + 1 -> aG rows 1 r = 0 /\ dE rows r = 0) /\ (2 <= i + 1 -> aG rows 1 (cZ rows r) = 0 /\ dE rows (cZ rows r) = 0) := by
   rcases hi with rfl | rfl
   ·refine key r hr rfl (fun h => ⟨fun _ => h, fun h2 => absurd h2 (by omega)⟩) fun h => ?_
    unfold dK
    by_cases e1 : aG rows 1 r = 0
    ·have e2 : dE rows r ≠ 0 := fun e2 => h ⟨e1, e2⟩
     simp [e2]
    ·simp [e1]
   ·refine key (cZ rows r) hh rfl (fun h => ⟨fun _ => k1 (by omega), fun _ => h⟩) fun h => ?_
    unfold dK
    by_cases e1 : aG rows 1 (cZ rows r) = 0
    ·have e2 : dE rows (cZ rows r) ≠ 0 := fun e2 => h ⟨e1, e2⟩
     simp [e2]
    ·simp [e1]
  obtain ⟨n2, g1, g2⟩ := key2
  refine ⟨⟨i0, hc, by simp; omega⟩, n2, g1, g2.mono ?_⟩
  rintro v1 ⟨n3, rfl, hk⟩
  refine ⟨n3, rfl, aF (fun h => by rw [if_pos h] at hk; exact hk) (fun h => ?_)⟩
  rw [if_neg h] at hk
  refine hk.mono ?_
  rintro v2 ⟨n4, rfl, hk2⟩
  refine ⟨n4, rfl, aF (fun h => by rw [if_pos h] at hk2; exact hk2) (fun h => ?_)⟩
  rw [if_neg h] at hk2
  rw [hw]
  exact ⟨rfl, ⟨rfl, rfl, by omega, by omega, hk2⟩, hmu⟩
 ·simp only [decide_eq_true_eq] at hc
  obtain ⟨a1, a2⟩ := k1 (by omega)
  obtain ⟨a3, a4⟩ := k2 (by omega)
  unfold dK; simp [a1, a2, a3, a4]
end
end Go.Eng



namespace Go.Eng
open Go Go.Proofs Go.Eng.Rows Go.Eng.Trie
section
variable {rows : List Row} {v : PV}
end
end Go.Eng



namespace Go.Eng
open Go Go.Proofs Go.Shelf
theorem zp3 (z : Array Value) (n : Nat) : (Builtin.zeroCells z n).size = n * z.size := by simp [Builtin.zeroCells]
theorem zp4 {P : Program} {ρ : Go.Shelf.Ren} (L : Lays8.n4 P ρ) (hcal : mB P (ρ.f 4)) (el : TypeId) (hel : ρ.t 25 = el) (i0 : TypeInfo) (z : Value) (hi0 : P.info? el = some i0) (hz0 : i0.zero = some z) (hs0 : 0 < i0.size) (hzs : z.cells.size = i0.size)
 (n : Nat) (hbig : n * i0.bytes <= 140737488355328) (h63 : n <= 4611686018427387904) :
 ACall P (ρ.f 4) [.pv (.sl true true []), .pv (.int .i64 n)] [] fun r h' => ∃ nl, r = .own 0 /\ h' = [.sl (el, i0.size) false nl []] := by
 subst hel
 refine ⟨hcal, fun w I G cargs hh hsz hrel => ?_⟩
 simp only [List.length_cons, List.length_nil] at hsz
 have h0 := hrel 0 _ rfl
 have h1 := hrel 1 _ rfl
 obtain ⟨v0, v1, rfl⟩ : ∃ v0 v1, cargs = #[v0, v1] := by
  obtain ⟨c⟩ := cargs
  match c, hsz with
  | [a, b], _ => exact ⟨a, b, rfl⟩
 have e0 : (#[v0, v1] : Array Value).getD 0 undef = v0 := rfl
 have e1 : (#[v0, v1] : Array Value).getD 1 undef = v1 := rfl
 rw [e0] at h0
 rw [e1] at h1
 have hv0 : v0 = .slice none 0 0 := by
  cases h0 with
  | pv _ _ h => cases h; rfl
 have hv1 : v1 = .int .i64 n := by
  cases h1 with
  | pv _ _ h => cases h; rfl
 subst hv0 hv1
 by_cases hn : n = 0
 ·subst hn
  refine (Any8.slices_Grow_room L none 0 0 0 w (Nat.le_refl _) (by omega) (by omega) (Nat.le_refl _)).mono fun e w' ⟨he, hw⟩ => ?_
  subst hw
  have hna : ¬ (Ob.sl (ρ.t 25, i0.size) false true []).alive ⟨0, 0, 0, 0⟩ := fun h => by cases h.1
  exact ⟨_, .own 0, _, I, _, he, ⟨true, rfl, rfl⟩, hh.add _ ⟨0, 0, 0, 0⟩ hna rfl, .ownNil 0 _ _ _ rfl, TrH.add _ _ hna⟩
 ·refine (Any8.slices_Grow_grow L i0 z hi0 hz0 hs0 none 0 0 n [] w (Nat.le_refl _) (by omega) (by rw [Nat.zero_add]; exact hbig) (by omega) (by simp) (fun _ => rfl) (fun a ha => by cases ha)).mono fun e w' ⟨he, hw⟩ => ?_
  subst hw
  rw [Nat.zero_add] at he ⊢
  have hG := grownCap_ge w n 0 (ρ.t 25)
  have hG2 := grownCap_le_maxLen w n 0 (ρ.t 25) (by unfold maxLen; omega)
  generalize grownCap w n 0 (ρ.t 25) = c at *
  have hp := hh.drew.push (.cells ((([] : List Value).toArray ++ Builtin.zeroCells z.cells (n - 0)) ++ Builtin.zeroCells z.cells (c - n)) (ρ.t 25)) (.sl (ρ.t 25, i0.size) false false []) ⟨w.drew.heap.size, 0, c, i0.size⟩ rfl
   ⟨Nat.zero_le _, hG2, fun _ => rfl, rfl, fun i e he => by simp at he, fun _ => ⟨_, kT _ _, by
    simp only [Array.size_append, zp3, List.size_toArray, List.length_nil, hzs, Nat.zero_add]
    rw [<- Nat.add_mul]; congr 1; omega, fun i e he => by simp at he⟩⟩
  refine ⟨_, .own 0, _, I, _, he, ⟨false, rfl, rfl⟩, hp, ?_, TrH.trans TrH.drew (TrH.push _ _ _ rfl)⟩
  have := LRel.own (w := w.drew.alloc (.cells ((([] : List Value).toArray ++ Builtin.zeroCells z.cells (n - 0)) ++ Builtin.zeroCells z.cells (c - n)) (ρ.t 25))) (I := I) (G := aQ G ([] : Hp).length ⟨w.drew.heap.size, 0, c, i0.size⟩) (h := ([] : Hp) ++ [.sl (ρ.t 25, i0.size) false false []]) 0 (ρ.t 25, i0.size) false [] ⟨w.heap.size, 0, none⟩ (fun _ => by simp [aQ]) (by simp)
  simpa [aQ] using this
end Go.Eng

namespace Go.Proofs
open Go.Shelf
def Tryz.growRune_ren : Go.Shelf.Ren := ⟨fun | 4 => 98 | n => n, fun | 22 => 23 | 25 => 21 | 3 => 3 | 4 => 4 | 9 => 9 | 20 => 20 | 0 => 0 | n => n, fun | n => n⟩
theorem Tryz.growRune : Go.Proofs.Lays8.n4 Tryz.prog Tryz.growRune_ren := {
 mixed := by kernel_rfl
 f4 := ⟨Tryz.f98.name, by decide, Tryz.func98.trans (congrArg some (by kernel_rfl))⟩
 t0 := Tryz.underlying0
 a0 := Tryz.isAgg0
 z0 := Tryz.sizeOf0
 v0 := Tryz.zeroValue0
 t3 := Tryz.underlying3
 a3 := Tryz.isAgg3
 z3 := Tryz.sizeOf3
 v3 := Tryz.zeroValue3
 t4 := Tryz.underlying4
 a4 := Tryz.isAgg4
 z4 := Tryz.sizeOf4
 v4 := Tryz.zeroValue4
 t9 := Tryz.underlying9
 a9 := Tryz.isAgg9
 z9 := Tryz.sizeOf9
 v9 := Tryz.zeroValue9
 t20 := Tryz.underlying20
 a20 := Tryz.isAgg20
 z20 := Tryz.sizeOf20
 v20 := Tryz.zeroValue20
 t22 := Tryz.underlying23
 a22 := Tryz.isAgg23
 z22 := Tryz.sizeOf23
 v22 := Tryz.zeroValue23 }
end Go.Proofs



namespace Go.Eng
open Go Go.Proofs
def y7 (n f : Bool) (es : LL) (x3 x11 : Int) : Env × Hp := ([(0, LV.pv (PV.sl n f es)), (3, Y6 x3), (9, LV.pv (PV.sl n f es)), (10, Y6 ↑es.length), (11, Y6 x11)], [])
def y8 (n f : Bool) (es : LL) (x27 : Int) (n_0 : Bool) (s_0 : LL) : Env × Hp := ([(6, LV.own 0), (25, LV.pv (PV.sl n f es)), (26, Y6 ↑es.length), (27, Y6 x27)], [.sl (21, 1) true n_0 s_0])
def zgk (n f : Bool) (es : LL) (J : Int -> Int -> Prop) (μ : Int -> Int -> Nat) (J2 : Int -> Bool -> LL -> Prop) (μ2 : Int -> Bool -> LL -> Nat) (R : PV -> Prop) : Prop :=
 (aB (y7 n f es (0 : Int) (0 : Int)) /\ J (0 : Int) (0 : Int)) /\ ∀ (x3 x11 : Int), J x3 x11 -> if decide (x11 < (↑es.length : Int)) = true then aU es x11 1 /\ ∃ n1 f1 es1, (es.getD x11.toNat []).head? =
 some (PV.sl n1 f1 es1) /\ if decide (i64.wrap (x3 + (↑es1.length : Int)) < 0) = true then aC 815 else aB (y7 n f es (i64.wrap (x3 + (↑es1.length : Int))) (i64.wrap (x11 + 1))) /\ J (i64.wrap (x3 +
 (↑es1.length : Int))) (i64.wrap (x11 + 1)) /\ μ (i64.wrap (x3 + (↑es1.length : Int))) (i64.wrap (x11 + 1)) < μ x3 x11 else ACall Tryz.prog 98 [LV.pv (PV.sl true true []), Y6 x3] [] fun (r : LV) (h' : Hp) => ∃ (t :
 Bool), (r = LV.own 0 /\ h' = [Ob.sl (21, 1) false t []]) /\ True /\ (aB (y8 n f es (0 : Int) t []) /\ J2 (0 : Int) t []) /\ ∀ (x27 : Int) (n_0 : Bool) (s_0 : LL), J2 x27 n_0 s_0 -> if decide (x27 < (↑es.length : Int)) = true then aU es
 x27 1 /\ ∃ n1 f1 es1, (es.getD x27.toNat []).head? = some (PV.sl n1 f1 es1) /\ (aK es1 1 /\ (s_0.length + es1.length) * 4 <= 140737488355328) /\ aB (y8 n f es (i64.wrap (x27 + 1)) (n_0 &&
 es1.isEmpty) (s_0 ++ es1)) /\ J2 (i64.wrap (x27 + 1)) (n_0 && es1.isEmpty) (s_0 ++ es1) /\ μ2 (i64.wrap (x27 + 1)) (n_0 && es1.isEmpty) (s_0 ++ es1) < μ2 x27 n_0 s_0 else R (PV.sl n_0 false s_0)
theorem zp5 (n f : Bool) (es : LL) (J : Int -> Int -> Prop) (μ : Int -> Int -> Nat) (J2 : Int -> Bool -> LL -> Prop) (μ2 : Int -> Bool -> LL -> Nat) {R : PV -> Prop} (h : zgk n f es J μ J2 μ2 R) : PCall Tryz.prog 69 [.sl n f es] R :=
 PCall.of Tryz.func69 (by kernel_rfl) (by kernel_rfl) (zl (by kernel_rfl)) (Eq.mpr (by kernel_rfl : aR Tryz.prog (fun zz_ => match zz_ with | 98 => some ⟨Bool, fun _ hs t => (.own hs.length, hs ++ [.sl (21, 1) false t []]), none⟩ | _ => none) Tryz.f69 [0, 2, 3, 5, 6, 8, 9, 10, 11, 12, 20, 25, 26, 27, 28] (fun zz_ => match zz_ with | 3 => some ⟨Int × Int, fun s => y7 n f es s.1 s.2, fun _ s => J s.1 s.2, fun s => μ s.1 s.2, fun e h => (gI e 3, gI e 11), [], [0, 3, 9, 10, 11], [], fun p => ∀ (x3 x11 : Int), p (x3, x11), fun p h s => h s.1 s.2⟩ | 11 => some ⟨Int × Bool × LL, fun s => y8 n f es s.1 s.2.1 s.2.2, fun _ s => J2 s.1 s.2.1 s.2.2, fun s => μ2 s.1 s.2.1 s.2.2, fun e h => (gI e 27, oN h 0, oS h 0), [], [6, 25, 26, 27], [], fun p => ∀ (x27 : Int) (n_0 : Bool) (s_0 : LL), p (x27, n_0, s_0), fun p h s => h s.1 s.2.1 s.2.2⟩ | _ => none) (Tryz.f69.body.getD .skip) [.sl n f es] R = _) h)

def zgl (tc tg tj tf tp : PV) (M S : List (PV × PV)) (n f : Bool) (es : LL) (i j : Int) (n2 f2 : Bool) (ss : LL) (R : PV -> Prop) : Prop :=
 if (decide (i < 0) || decide (i > j) || decide (j > (↑es.length : Int))) = true then R (PV.tup [PV.sl true true [], PV.agg [Z6 0, Z6 0, Z6 0], Z6 2]) else PCall Tryz.prog 67 [PV.ptr [tc, tg, tj, tf, tp, PV.mp M, PV.mp S], PV.sl n f es, Z6
 i] fun v => ∃ n1, v = Z6 n1 /\ PCall Tryz.prog 68 [PV.ptr [tc, tg, tj, tf, tp, PV.mp M, PV.mp S], PV.sl n f es, Z6 j] fun v1 => ∃ n3, v1 = Z6 n3 /\ (bC es.length (some n1) (some i) none /\ aK es 1) /\ (bC
 es.length (some j) (some n3) none /\ aK es 1) /\ PCall Tryz.prog 69 [PV.sl false true [[PV.sl n (f && decide (i = (↑es.length : Int))) (List.drop n1.toNat (List.take i.toNat es))], [PV.sl n2 f2 ss], [PV.sl n (f && decide (n3 = (↑es.length :
 Int))) (List.drop j.toNat (List.take n3.toNat es))]]] fun v2 => ∃ n4 f1 es1, v2 = PV.sl n4 f1 es1 /\ PCall Tryz.prog 65 [PV.ptr [tc, tg, tj, tf, tp, PV.mp M, PV.mp S], PV.sl n4 f1 es1] fun v3 => ∃
 (n5 : Bool), ∃ f3 es2, v3 = PV.sl n5 f3 es2 /\ (bC es.length none (some n1) none /\ aK es 1) /\ (bC es.length (some n3) none none /\ aK es 1) /\ PCall Tryz.prog 69 [PV.sl false true [[PV.sl n (f && decide (n1 =
 (↑es.length : Int))) (List.drop 0 (List.take n1.toNat es))], [PV.sl n5 f3 es2], [PV.sl n (f && decide ((↑es.length : Int) = (↑es.length : Int))) (List.drop n3.toNat (List.take (↑es.length : Int).toNat es))]]] fun v4 => ∃ (n6 : Bool),
 ∃ f4 es3, v4 = PV.sl n6 f4 es3 /\ R (PV.tup [PV.sl n6 f4 es3, PV.agg [Z6 n1, Z6 n3, Z6 (i64.wrap (n1 + (↑es2.length : Int)))], Z6 0])
theorem zp6 (tc tg tj tf tp : PV) (M S : List (PV × PV)) (n f : Bool) (es : LL) (i j : Int) (n2 f2 : Bool) (ss : LL) {R : PV -> Prop} (h : zgl tc tg tj tf tp M S n f es i j n2 f2 ss R) : PCall Tryz.prog 31 [.ptr [tc, tg, tj, tf, tp, .mp M, .mp S], .sl n f es, .int .i64 i, .int .i64 j, .sl n2 f2 ss] R :=
 PCall.of Tryz.func31 (by kernel_rfl) (by kernel_rfl) (zl (by kernel_rfl)) (Eq.mpr (by kernel_rfl : aR Tryz.prog (fun _ => none) Tryz.f31 [0, 1, 2, 3, 4, 10, 11, 12, 13, 14, 15, 28] (fun _ => none) (Tryz.f31.body.getD .skip) [.ptr [tc, tg, tj, tf, tp, .mp M, .mp S], .sl n f es, .int .i64 i, .int .i64 j, .sl n2 f2 ss] R = _) h)

def y9 (tc tg tj tf tp : PV) (M S : List (PV × PV)) (n f : Bool) (es : LL) (k x2 : Int) : Env × Hp := ([(0, LV.pv (PV.ptr [tc, tg, tj, tf, tp, PV.mp M, PV.mp S])), (1, LV.pv (PV.sl n f es)), (2, Y6 x2)], [])
def zgm (tc tg tj tf tp : PV) (M S : List (PV × PV)) (n f : Bool) (es : LL) (k : Int) (J : Int -> Prop) (μ : Int -> Nat) (R : PV -> Prop) : Prop :=
 if (k == 0) = true then R (Z6 0) else (aB (y9 tc tg tj tf tp M S n f es k (i64.wrap (k - 1))) /\ J (i64.wrap (k - 1))) /\ ∀ (x2 : Int), J x2 -> if decide (x2 > 0) = true then aU es x2 1 /\ ∃ n1, (es.getD
 x2.toNat []).head? = some (Z3 n1) /\ PCall Tryz.prog 97 [PV.ptr [tc, tg, tj, tf, tp, PV.mp M, PV.mp S], Z3 n1] fun v => ∃ b, v = Zb b /\ if (!b) = true then aB (y9 tc tg tj tf tp M S n f es k (i64.wrap (x2 - 1)))
 /\ J (i64.wrap (x2 - 1)) /\ μ (i64.wrap (x2 - 1)) < μ x2 else R (Z6 x2) else R (Z6 x2)
theorem zp7 (tc tg tj tf tp : PV) (M S : List (PV × PV)) (n f : Bool) (es : LL) (k : Int) (J : Int -> Prop) (μ : Int -> Nat) {R : PV -> Prop} (h : zgm tc tg tj tf tp M S n f es k J μ R) : PCall Tryz.prog 67 [.ptr [tc, tg, tj, tf, tp, .mp M, .mp S], .sl n f es, .int .i64 k] R :=
 PCall.of Tryz.func67 (by kernel_rfl) (by kernel_rfl) (zl (by kernel_rfl)) (Eq.mpr (by kernel_rfl : aR Tryz.prog (fun _ => none) Tryz.f67 [0, 1, 2, 6, 8, 21] (fun zz_ => match zz_ with | 4 => some ⟨Int × Unit, fun s => y9 tc tg tj tf tp M S n f es k s.1, fun _ s => J s.1, fun s => μ s.1, fun e h => (((gI e 2), ())), [], [0, 1, 2], [], fun p => ∀ (x2 : Int), p (x2, ()), fun p h s => h s.1⟩ | _ => none) (Tryz.f67.body.getD .skip) [.ptr [tc, tg, tj, tf, tp, .mp M, .mp S], .sl n f es, .int .i64 k] R = _) h)

def zA (tc tg tj tf tp : PV) (M S : List (PV × PV)) (n f : Bool) (es : LL) (k x2 : Int) : Env × Hp := ([(0, LV.pv (PV.ptr [tc, tg, tj, tf, tp, PV.mp M, PV.mp S])), (1, LV.pv (PV.sl n f es)), (2, Y6 x2)], [])
def zgn (tc tg tj tf tp : PV) (M S : List (PV × PV)) (n f : Bool) (es : LL) (k : Int) (J : Int -> Prop) (μ : Int -> Nat) (R : PV -> Prop) : Prop :=
 (aB (zA tc tg tj tf tp M S n f es k k) /\ J k) /\ ∀ (x2 : Int), J x2 -> if decide (x2 < (↑es.length : Int)) = true then aU es x2 1 /\ ∃ n1, (es.getD x2.toNat []).head? = some (Z3 n1) /\ PCall Tryz.prog 97 [PV.ptr [tc, tg, tj,
 tf, tp, PV.mp M, PV.mp S], Z3 n1] fun v => ∃ b, v = Zb b /\ if (!b) = true then aB (zA tc tg tj tf tp M S n f es k (i64.wrap (x2 + 1))) /\ J (i64.wrap (x2 + 1)) /\ μ (i64.wrap (x2 + 1)) < μ x2 else
 R (Z6 x2) else R (Z6 x2)
theorem zp8 (tc tg tj tf tp : PV) (M S : List (PV × PV)) (n f : Bool) (es : LL) (k : Int) (J : Int -> Prop) (μ : Int -> Nat) {R : PV -> Prop} (h : zgn tc tg tj tf tp M S n f es k J μ R) : PCall Tryz.prog 68 [.ptr [tc, tg, tj, tf, tp, .mp M, .mp S], .sl n f es, .int .i64 k] R :=
 PCall.of Tryz.func68 (by kernel_rfl) (by kernel_rfl) (zl (by kernel_rfl)) (Eq.mpr (by kernel_rfl : aR Tryz.prog (fun _ => none) Tryz.f68 [0, 1, 2, 6, 19] (fun zz_ => match zz_ with | 1 => some ⟨Int × Unit, fun s => zA tc tg tj tf tp M S n f es k s.1, fun _ s => J s.1, fun s => μ s.1, fun e h => (((gI e 2), ())), [], [0, 1, 2], [], fun p => ∀ (x2 : Int), p (x2, ()), fun p h s => h s.1⟩ | _ => none) (Tryz.f68.body.getD .skip) [.ptr [tc, tg, tj, tf, tp, .mp M, .mp S], .sl n f es, .int .i64 k] R = _) h)

end Go.Eng



namespace Go.Eng
open Go Go.Proofs Go.Eng.Rows Go.Eng.Trie Go.Eng.Srt
theorem zp9 {n : Int} (h0 : 0 <= n) (h1 : n <= 1000000000000) : ACall Tryz.prog 98 [.pv (.sl true true []), .pv (.int .i64 n)] [] fun r h' => ∃ nl, r = .own 0 /\ h' = [.sl (21, 1) false nl []] := by
 have hc : (match Tryz.prog.info? 21 with | some ti => (match ti.zero with | some z => (Nat.beq ti.size 1 && (Nat.beq ti.bytes 4 && Nat.beq z.cells.size 1)) | none => false) | none => false) = true := by kernel_rfl
 have hz : ∃ ti z, Tryz.prog.info? 21 = some ti /\ ti.zero = some z /\ ti.size = 1 /\ ti.bytes = 4 /\ z.cells.size = 1 := by
  split at hc
  ·rename_i ti hti
   split at hc
   ·rename_i z hz
    simp only [Bool.and_eq_true] at hc
    exact ⟨ti, z, hti, hz, Nat.eq_of_beq_eq_true hc.1, Nat.eq_of_beq_eq_true hc.2.1, Nat.eq_of_beq_eq_true hc.2.2⟩
   ·cases hc
  ·cases hc
 obtain ⟨ti, z, k1, k2, k3, k4, k5⟩ := hz
 have := zp4 Tryz.growRune ⟨_, Tryz.func98, by kernel_rfl, by kernel_rfl⟩ 21 (by kernel_rfl) ti z k1 k2 (by omega) (by omega) n.toNat (by rw [k4]; omega) (by omega)
 rw [k3, show ((n.toNat : Nat) : Int) = n by omega] at this
 exact this
def g8 (p : Bool × Bool × List Int) : List PV := [.sl p.1 p.2.1 (aA p.2.2)]
def eB (ls : List (Bool × Bool × List Int)) : Nat := (ls.map fun p => p.2.2.length).sum
theorem zgo {ls : List (Bool × Bool × List Int)} {i : Nat} (h : i < ls.length) : eB (ls.take (i + 1)) = eB (ls.take i) + ls[i].2.2.length := by
 unfold eB; rw [dI h, List.map_append, List.sum_append]; simp only [List.map_cons, List.map_nil, List.sum_cons, List.sum_nil, Nat.add_zero]
theorem zB {ls : List (Bool × Bool × List Int)} (i : Nat) : eB (ls.take i) <= eB ls := by
 have h : eB ls = eB (ls.take i) + eB (ls.drop i) := by
  unfold eB; rw [<- List.sum_append, <- List.map_append, List.take_append_drop]
 omega
theorem zqa (ls : List (Bool × Bool × List Int)) : (ls.flatMap fun p => p.2.2).length = eB ls := by
 unfold eB; rw [List.length_flatMap]
theorem zqb (n f : Bool) (ls : List (Bool × Bool × List Int)) (hn : ls.length < 1000) (hs : eB ls <= 1000000000) : PCall Tryz.prog 69 [.sl n f (ls.map g8)] fun x => ∃ n f, x = .sl n f (aA (ls.flatMap fun p => p.2.2)) := by
 refine zp5 _ _ _ (fun s i => (0 <= i /\ i <= ls.length) /\ s = (eB (ls.take i.toNat) : Nat)) (fun _ i => ls.length - i.toNat) (fun i _ s => (0 <= i /\ i <= ls.length) /\ s = aA ((ls.take i.toNat).flatMap fun p => p.2.2)) (fun i _ _ => ls.length - i.toNat) ?_
 unfold zgk
 have hl : ((ls.map g8).length : Int) = ls.length := by rw [List.length_map]
 rw [hl]
 refine ⟨⟨rfl, ⟨Int.le_refl _, by omega⟩, rfl⟩, ?_⟩
 rintro _ i ⟨⟨i0, i1⟩, rfl⟩
 have hle := zB (ls := ls) i.toNat
 refine aF (fun hc => ?_) (fun hc => ?_)
 ·simp only [decide_eq_true_eq] at hc
  have hi : i.toNat < ls.length := by omega
  have hix : aU (ls.map g8) i 1 := cJ (enc := g8) (fun _ => rfl) i0 (by omega)
  have hg : (ls.map g8).getD i.toNat [] = g8 ls[i.toNat] := cH hi
  have hw : i64.wrap (i + 1) = i + 1 := aD (by omega) (by omega)
  have hst := zgo hi
  have hle2 := zB (ls := ls) (i.toNat + 1)
  refine ⟨hix, _, _, _, by rw [hg]; rfl, ?_⟩
  rw [aX]
  have hw2 : i64.wrap ((eB (ls.take i.toNat) : Nat) + (ls[i.toNat].2.2.length : Int)) = (eB (ls.take (i.toNat + 1)) : Nat) := by
   rw [hst, aD (by omega) (by omega)]; omega
  rw [hw2, hw]
  exact bB (by simp) ⟨rfl, ⟨⟨by omega, by omega⟩, by rw [show (i + 1).toNat = i.toNat + 1 by omega]⟩, by dsimp only; omega⟩
 ·refine (zp9 (by omega) (by omega)).mono ?_
  rintro r h' ⟨nl, rfl, rfl⟩
  refine ⟨nl, ⟨rfl, rfl⟩, trivial, ⟨rfl, ⟨Int.le_refl _, by omega⟩, rfl⟩, ?_⟩
  clear hc hle i0 i1 i
  rintro i n0 _ ⟨⟨i0, i1⟩, rfl⟩
  refine aF (fun hc => ?_) (fun hc => ?_)
  ·simp only [decide_eq_true_eq] at hc
   have hi : i.toNat < ls.length := by omega
   have hix : aU (ls.map g8) i 1 := cJ (enc := g8) (fun _ => rfl) i0 (by omega)
   have hg : (ls.map g8).getD i.toNat [] = g8 ls[i.toNat] := cH hi
   have hw : i64.wrap (i + 1) = i + 1 := aD (by omega) (by omega)
   have hst := zgo hi
   have hle2 := zB (ls := ls) (i.toNat + 1)
   have hfl := zqa (ls.take i.toNat)
   refine ⟨hix, _, _, _, by rw [hg]; rfl, ⟨cU _, by rw [aX, aX]; omega⟩, ?_⟩
   rw [hw]
   refine ⟨rfl, ⟨⟨by omega, by omega⟩, ?_⟩, by dsimp only; omega⟩
   rw [show (i + 1).toNat = i.toNat + 1 by omega, dI hi, List.flatMap_append, kL]; simp
  ·simp only [decide_eq_true_eq] at hc
   rw [List.take_of_length_le (by omega)]
   exact ⟨_, _, rfl⟩
theorem zgp (n1 f1 n2 f2 n3 f3 : Bool) (a b c : List Int) (h : a.length + b.length + c.length <= 1000000000) : PCall Tryz.prog 69 [.sl false true [[.sl n1 f1 (aA a)], [.sl n2 f2 (aA b)], [.sl n3 f3 (aA c)]]] fun x => ∃ n f, x = .sl n f (aA (a ++ (b ++ c))) := by
 have := zqb false true [(n1, f1, a), (n2, f2, b), (n3, f3, c)] (by simp) (by simp [eB]; omega)
 simpa [g8] using this
section
variable {rows : List Row} {v : PV}
theorem nG {L : List Int} {i : Nat} (h : i < L.length) : L.getD i 0 = L[i] := by simp [List.getD, h]
theorem zqc (hp : cR rows) (h1 : dM rows) (hv : gA rows v) (n f : Bool) (L : List Int) (hr : R32 L) (hL : L.length < 1000000) (k : Int) (k0 : 0 <= k) (k1 : k <= L.length) : PCall Tryz.prog 67 [v, .sl n f (aA L), .int .i64 k] fun x => x = .int .i64 (bX rows L k.toNat : Nat) := by
 have hv' := hv
 obtain ⟨tc, tg, tj, tf, tp, made, sec, rfl, ht, hm⟩ := hv
 refine zp7 _ _ _ _ _ _ _ _ _ _ _ (fun x => (0 <= x /\ x < k) /\ bX rows L k.toNat = bX rows L (x.toNat + 1)) (fun x => x.toNat) ?_
 unfold zgm
 refine aF (fun hc => ?_) (fun hc => ?_)
 ·simp only [beq_iff_eq] at hc; subst hc; rfl
 simp only [beq_iff_eq] at hc
 have hw : i64.wrap (k - 1) = k - 1 := aD (by omega) (by omega)
 rw [hw]
 refine ⟨⟨rfl, ⟨by omega, by omega⟩, by rw [show (k - 1).toNat + 1 = k.toNat by omega]⟩, ?_⟩
 rintro x ⟨⟨x0, x1⟩, hb⟩
 have hwx : i64.wrap (x - 1) = x - 1 := aD (by omega) (by omega)
 rw [hwx]
 have hi : x.toNat < L.length := by omega
 refine aF (fun hc2 => ?_) (fun hc2 => ?_)
 ·simp only [decide_eq_true_eq, gt_iff_lt] at hc2
  obtain ⟨g1, g2⟩ := gB x0 hi
  refine ⟨g1, L[x.toNat], by rw [g2]; rfl, ?_⟩
  refine (zgj hp h1 hv' (hr _ (List.getElem_mem hi))).mono ?_
  rintro _ rfl
  refine ⟨_, rfl, ?_⟩
  have hstep : bX rows L (x.toNat + 1) = if dK rows L[x.toNat] = true then x.toNat else bX rows L x.toNat := by
   rw [bX, nG hi]
   simp [show x.toNat ≠ 0 by omega]
  cases hst : dK rows L[x.toNat] with
  | true =>
    refine bB (by simp) ?_
    rw [hb, hstep, hst, if_pos rfl, show ((x.toNat : Nat) : Int) = x by omega]
  | false =>
    refine bA (by simp) ⟨rfl, ⟨⟨by omega, by omega⟩, ?_⟩, by dsimp only; omega⟩
    rw [hb, hstep, hst, if_neg (by simp), show (x - 1).toNat + 1 = x.toNat by omega]
 ·simp only [decide_eq_true_eq, gt_iff_lt] at hc2
  have : x = 0 := by omega
  subst this
  rw [hb]
  simp [bX]
theorem qOn (hp : cR rows) (h1 : dM rows) (hv : gA rows v) (n f : Bool) (L : List Int) (hr : R32 L) (hL : L.length < 1000000) (k : Int) (k0 : 0 <= k) (k1 : k <= L.length) : PCall Tryz.prog 68 [v, .sl n f (aA L), .int .i64 k] fun x => x = .int .i64 (cG rows L k.toNat (L.length - k.toNat) : Nat) := by
 have hv' := hv
 obtain ⟨tc, tg, tj, tf, tp, made, sec, rfl, ht, hm⟩ := hv
 refine zp8 _ _ _ _ _ _ _ _ _ _ _ (fun x => (0 <= x /\ x <= L.length) /\ cG rows L k.toNat (L.length - k.toNat) = cG rows L x.toNat (L.length - x.toNat)) (fun x => L.length - x.toNat) ?_
 unfold zgn
 refine ⟨⟨rfl, ⟨k0, k1⟩, rfl⟩, ?_⟩
 rintro x ⟨⟨x0, x1⟩, hb⟩
 have hw : i64.wrap (x + 1) = x + 1 := aD (by omega) (by omega)
 rw [hw]
 refine aF (fun hc2 => ?_) (fun hc2 => ?_)
 ·simp only [decide_eq_true_eq, aX] at hc2
  have hi : x.toNat < L.length := by omega
  obtain ⟨g1, g2⟩ := gB x0 hi
  refine ⟨g1, L[x.toNat], by rw [g2]; rfl, ?_⟩
  refine (zgj hp h1 hv' (hr _ (List.getElem_mem hi))).mono ?_
  rintro _ rfl
  refine ⟨_, rfl, ?_⟩
  have hstep : cG rows L x.toNat (L.length - x.toNat) = if dK rows L[x.toNat] = true then x.toNat else cG rows L (x.toNat + 1) (L.length - (x.toNat + 1)) := by
   rw [show L.length - x.toNat = (L.length - (x.toNat + 1)) + 1 by omega, cG, nG hi]
  cases hst : dK rows L[x.toNat] with
  | true =>
    refine bB (by simp) ?_
    rw [hb, hstep, hst, if_pos rfl, show ((x.toNat : Nat) : Int) = x by omega]
  | false =>
    refine bA (by simp) ⟨rfl, ⟨⟨by omega, by omega⟩, ?_⟩, by dsimp only; omega⟩
    rw [hb, hstep, hst, if_neg (by simp), show (x + 1).toNat = x.toNat + 1 by omega]
 ·simp only [decide_eq_true_eq, aX] at hc2
  have : x.toNat = L.length := by omega
  rw [hb, this, Nat.sub_self]
  show _ = PV.int .i64 ((L.length : Nat) : Int)
  rw [show (L.length : Int) = x by omega]
theorem tP (L : List Int) (k : Nat) : List.drop 0 (List.take k (aA L)) = aA (L.take k) := by simp [aA]
theorem pX (L : List Int) (k : Nat) : List.drop k (List.take ((aA L).length : Int).toNat (aA L)) = aA (L.drop k) := by
 rw [Int.toNat_natCast, List.take_length]; simp [aA]
theorem tQ {len : Nat} {j : Int} (h0 : 0 <= j) (h2 : j <= len) : bC len none (some j) none := ⟨Int.le_refl _, h0, h2, trivial⟩
theorem nH {len : Nat} {i : Int} (h0 : 0 <= i) (h2 : i <= len) : bC len (some i) none none := ⟨h0, h2, Int.le_refl _, trivial⟩
def zqd (rows : List Row) (L : List Int) (i j : Nat) (ins : List Int) (n f : Bool) : PV := .tup [.sl n f (aA (kO rows L i j ins)), .agg [.int .i64 (bX rows L i : Nat), .int .i64 (cG rows L j (L.length - j) : Nat), .int .i64 ((bX rows L i + (gJ rows (dN rows L i j ins)).length : Nat) : Int)], .int .i64 0]
theorem tR (rows : List Row) (L : List Int) (i j : Nat) (ins : List Int) : (dN rows L i j ins).length <= L.length + ins.length + L.length := by
 unfold dN
 have h1 := nF L (bX rows L i) i
 have h2 := nF L j (cG rows L j (L.length - j))
 rw [List.length_append, List.length_append]; omega
theorem zC (hp : cR rows) (h1 : dM rows) (hk : gZ rows) (hv : gA rows v) (n f n2 f2 : Bool) (L ins : List Int) (hr : R32 L) (hL : L.length < 100000) (hr2 : R32 ins) (hL2 : ins.length < 100000) (i j : Int) :
 PCall Tryz.prog 31 [v, .sl n f (aA L), .int .i64 i, .int .i64 j, .sl n2 f2 (aA ins)] fun x => if (0 <= i /\ i <= j) /\ j <= L.length then ∃ n f, x = zqd rows L i.toNat j.toNat ins n f else x = .tup [.sl true true [], .agg [.int .i64 0, .int .i64 0, .int .i64 0], .int .i64 2] := by
 have hv' := hv
 obtain ⟨tc, tg, tj, tf, tp, made, sec, rfl, ht, hm⟩ := hv
 refine zp6 _ _ _ _ _ _ _ _ _ _ _ _ _ _ _ ?_; unfold zgl
 have hl : ((aA L).length : Int) = L.length := by rw [aX]
 refine aF (fun hc => ?_) (fun hc => ?_)
 ·simp only [Bool.or_eq_true, decide_eq_true_eq, gt_iff_lt, hl] at hc
  dsimp only
  rw [if_neg (by omega)]
 ·simp only [Bool.or_eq_true, decide_eq_true_eq, gt_iff_lt, hl] at hc
  have hcond : (0 <= i /\ i <= j) /\ j <= (L.length : Int) := by omega
  refine (zqc hp h1 hv' n f L hr (by omega) i (by omega) (by omega)).mono ?_
  rintro _ rfl
  refine ⟨_, rfl, ?_⟩
  refine (qOn hp h1 hv' n f L hr (by omega) j (by omega) (by omega)).mono ?_
  rintro _ rfl
  refine ⟨_, rfl, ?_⟩
  obtain ⟨a1, a2, a3⟩ := yZ rows L i.toNat
  obtain ⟨b1, b2, b3⟩ := y0 rows L (L.length - j.toNat) j.toNat
  have hmid := tR rows L i.toNat j.toNat ins
  have hnl := tM hk (dN rows L i.toNat j.toNat ins)
  have hs1 := nF L (bX rows L i.toNat) i.toNat
  have hs2 := nF L j.toNat (cG rows L j.toNat (L.length - j.toNat))
  have hmr : R32 (dN rows L i.toNat j.toNat ins) := fun x hx => by
   unfold dN at hx
   rcases List.mem_append.1 hx with hx | hx
   ·exact (hr.sub _ _) x hx
   ·rcases List.mem_append.1 hx with hx | hx
    ·exact hr2 x hx
    ·exact (hr.sub _ _) x hx
  have key : ∀ (a b : Nat), a = bX rows L i.toNat -> b = cG rows L j.toNat (L.length - j.toNat) -> True := fun _ _ _ _ => trivial
  simp only [Int.toNat_natCast]
  refine ⟨⟨tN (by omega) (by omega) (by rw [hl]; omega), cU _⟩, ⟨tN (by omega) (by omega) (by rw [hl]; omega), cU _⟩, ?_⟩
  rw [tO, tO]
  refine (zgp _ _ _ _ _ _ _ _ _ (by omega)).mono ?_
  rintro _ ⟨n3, f3, rfl⟩
  refine ⟨_, _, _, rfl, ?_⟩
  refine (zps hp h1 hk hv' _ _ (dN rows L i.toNat j.toNat ins) hmr (by omega)).mono ?_
  rintro _ ⟨n4, f4, rfl⟩
  refine ⟨_, _, _, rfl, ⟨tQ (by omega) (by rw [hl]; omega), cU _⟩, ⟨nH (by omega) (by rw [hl]; omega), cU _⟩, ?_⟩
  rw [tP, <- Int.toNat_natCast (aA L).length, Int.toNat_natCast, List.take_length]
  have hdr : List.drop (cG rows L j.toNat (L.length - j.toNat)) (aA L) = aA (L.drop (cG rows L j.toNat (L.length - j.toNat))) := by simp [aA]
  rw [hdr]
  refine (zgp _ _ _ _ _ _ _ _ _ (by rw [List.length_take, List.length_drop]; omega)).mono ?_
  rintro _ ⟨n5, f5, rfl⟩
  refine ⟨_, _, _, rfl, ?_⟩
  rw [if_pos hcond]
  refine ⟨n5, f5, ?_⟩
  have hw : i64.wrap (((bX rows L i.toNat : Nat) : Int) + ((aA (gJ rows (dN rows L i.toNat j.toNat ins))).length : Int)) = ((bX rows L i.toNat + (gJ rows (dN rows L i.toNat j.toNat ins)).length : Nat) : Int) := by
   rw [aX, aD (by omega) (by omega)]; omega
  rw [hw]; rfl
end
end Go.Eng



namespace Go.Eng
open Go Go.Proofs Go.Eng.Rows Go.Eng.Trie Go.Eng.Srt
end Go.Eng



namespace Go.Eng
open Go Go.Proofs Go.Eng.Rows Go.Eng.Trie Go.Eng.Srt
theorem zD (rows : List Row) (L : List Int) {i j : Nat} (ins : List Int) (hij : i <= j) (hj : j <= L.length) :
 bX rows L i <= i /\ j <= cG rows L j (L.length - j) /\ cG rows L j (L.length - j) <= L.length /\ (kO rows L i j ins).length = bX rows L i + (gJ rows (dN rows L i j ins)).length + (L.length - cG rows L j (L.length - j)) /\
 (kO rows L i j ins).take (bX rows L i) = L.take (bX rows L i) /\ (kO rows L i j ins).drop (bX rows L i + (gJ rows (dN rows L i j ins)).length) = L.drop (cG rows L j (L.length - j)) := by
 obtain ⟨a1, a2, a3⟩ := yZ rows L i
 obtain ⟨b1, b2, b3⟩ := y0 rows L (L.length - j) j
 unfold kO
 generalize gJ rows (dN rows L i j ins) = m
 generalize bX rows L i = a at *
 generalize cG rows L j (L.length - j) = b at *
 have hla : (L.take a).length = a := by rw [List.length_take]; omega
 refine ⟨a1, b1, by omega, ?_, ?_, ?_⟩
 ·rw [List.length_append, List.length_append, hla, List.length_drop]; omega
 ·rw [List.take_append_of_le_length (by omega), List.take_of_length_le (by omega)]
 ·rw [List.drop_append, hla, List.drop_of_length_le (by omega), List.nil_append, show a + m.length - a = m.length by omega, List.drop_append, List.drop_of_length_le (Nat.le_refl _), Nat.sub_self]; rfl
end Go.Eng



namespace Go.Eng.Rows
open Go Go.Eng Go.Eng.Trie Go.Eng.Srt
section
variable {rows : List Row}
end
end Go.Eng.Rows



namespace Go.Eng
open Go Go.Proofs
end Go.Eng



namespace Go.Eng
open Go Go.Proofs Go.Eng.Rows Go.Eng.Trie Go.Eng.Srt
section
variable {rows : List Row}
end
end Go.Eng



namespace Go.Eng.Rows
open Go Go.Eng Go.Eng.Trie Go.Eng.Srt
end Go.Eng.Rows



namespace Go.Eng
open Go Go.Proofs Go.Eng.Rows Go.Eng.Trie
end Go.Eng



namespace Go.Eng
open Go Go.Proofs Go.Eng.Rows Go.Eng.Trie Go.Eng.Srt
theorem ap0 {l : List Int} (h : l.length <= 1000000000) : bK true [] (aA l) 1 4 := ⟨rfl, .inl rfl, fun e he => (by cases he), cU l, by simp only [List.length_nil, aX]; omega⟩
end Go.Eng



namespace Go.Eng
open Go Go.Proofs
def zgq (a b c k : Int) (R : PV -> Prop) : Prop :=
 if decide (k <= a) = true then R (Z6 k) else if decide (k >= b) = true then R (Z6 (i64.wrap (i64.wrap (k - b) + c))) else R (Z6 a)
theorem zqe (a b c k : Int) {R : PV -> Prop} (h : zgq a b c k R) : PCall Tryz.prog 37 [.agg [.int .i64 a, .int .i64 b, .int .i64 c], .int .i64 k] R :=
 PCall.of Tryz.func37 (by kernel_rfl) (by kernel_rfl) (zl (by kernel_rfl)) (Eq.mpr (by kernel_rfl : aR Tryz.prog (fun _ => none) Tryz.f37 [0, 1, 2, 4, 5, 11] (fun _ => none) (Tryz.f37.body.getD .skip) [.agg [.int .i64 a, .int .i64 b, .int .i64 c], .int .i64 k] R = _) h)

def zF (n f : Bool) (es : LL) (n2 f2 : Bool) (ss : LL) (a b c k : Int) (x9 x10 : Int) : Env × Hp := ([(0, LV.pv (PV.sl n f es)), (1, LV.pv (PV.sl n2 f2 ss)), (3, Y6 k), (6, LV.box 0 0), (9, Y6 x9), (10, Y6 x10)], [.box [Y6 a, Y6 b, Y6 c]])
def zgr (n f : Bool) (es : LL) (n2 f2 : Bool) (ss : LL) (a b c k : Int) (J : Int -> Int -> Prop) (μ : Int -> Int -> Nat) (R : PV -> Prop) : Prop :=
 (aB (zF n f es n2 f2 ss a b c k b c) /\ J b c) /\ ∀ (x9 x10 : Int), J x9 x10 -> if decide (x9 > k) = true then if decide (x10 > a) = true then aU es (i64.wrap (x9 - 1)) 1 /\ ∃ n1, (es.getD (i64.wrap (x9 -
 1)).toNat []).head? = some (Z3 n1) /\ aU ss (i64.wrap (x10 - 1)) 1 /\ ∃ n3, (ss.getD (i64.wrap (x10 - 1)).toNat []).head? = some (Z3 n3) /\ if (n1 == n3) = true then aB (zF n f es n2 f2 ss a b c k
 (i64.wrap (x9 - 1)) (i64.wrap (x10 - 1))) /\ J (i64.wrap (x9 - 1)) (i64.wrap (x10 - 1)) /\ μ (i64.wrap (x9 - 1)) (i64.wrap (x10 - 1)) < μ x9 x10 else R (Z6 x10) else R (Z6 x10) else R (Z6 x10)
theorem zqf (n f : Bool) (es : LL) (n2 f2 : Bool) (ss : LL) (a b c k : Int) (J : Int -> Int -> Prop) (μ : Int -> Int -> Nat) {R : PV -> Prop} (h : zgr n f es n2 f2 ss a b c k J μ R) : PCall Tryz.prog 42 [.sl n f es, .sl n2 f2 ss, .agg [.int .i64 a, .int .i64 b, .int .i64 c], .int .i64 k] R :=
 PCall.of Tryz.func42 (by kernel_rfl) (by kernel_rfl) (zl (by kernel_rfl)) (Eq.mpr (by kernel_rfl : aR Tryz.prog (fun _ => none) Tryz.f42 [0, 1, 2, 3, 6, 8, 9, 10, 36] (fun zz_ => match zz_ with | 2 => some ⟨Int × Int, fun s => zF n f es n2 f2 ss a b c k s.1 s.2, fun _ s => J s.1 s.2, fun s => μ s.1 s.2, fun e h => (gI e 9, gI e 10), [], [0, 1, 3, 6, 9, 10], [], fun p => ∀ (x9 x10 : Int), p (x9, x10), fun p h s => h s.1 s.2⟩ | _ => none) (Tryz.f42.body.getD .skip) [.sl n f es, .sl n2 f2 ss, .agg [.int .i64 a, .int .i64 b, .int .i64 c], .int .i64 k] R = _) h)

def zgs (n f : Bool) (es : LL) (n2 f2 : Bool) (ss : LL) (a b c : Int) (R : PV -> Prop) : Prop :=
 (bC es.length (some a) (some b) none /\ aK es 1) /\ ((bK true [] (List.drop a.toNat (List.take b.toNat es)) 1 4 /\ (bC ss.length (some a) (some c) none /\ aK ss 1) /\ bK true [] (List.drop a.toNat (List.take c.toNat ss)) 1 4 /\ R
 (PV.agg [Z6 a, PV.sl (List.drop a.toNat (List.take b.toNat es)).isEmpty false ([] ++ List.drop a.toNat (List.take b.toNat es)), PV.sl (List.drop a.toNat (List.take c.toNat ss)).isEmpty false ([] ++ List.drop a.toNat (List.take c.toNat
 ss))])) /\ iG ((bK true [] (List.drop a.toNat (List.take b.toNat es)) 1 4 /\ (bC ss.length (some a) (some c) none /\ aK ss 1) /\ bK true [] (List.drop a.toNat (List.take c.toNat ss)) 1 4 /\ R (PV.agg [Z6 a, PV.sl (List.drop a.toNat
 (List.take b.toNat es)).isEmpty false ([] ++ List.drop a.toNat (List.take b.toNat es)), PV.sl (List.drop a.toNat (List.take c.toNat ss)).isEmpty false ([] ++ List.drop a.toNat (List.take c.toNat ss))])) /\ (bK true [] (List.drop a.toNat
 (List.take b.toNat es)) 1 4 /\ (bC ss.length (some a) (some c) none /\ aK ss 1) /\ bK true [] (List.drop a.toNat (List.take c.toNat ss)) 1 4 /\ R (PV.agg [Z6 a, PV.sl (List.drop a.toNat (List.take b.toNat es)).isEmpty false ([] ++
 List.drop a.toNat (List.take b.toNat es)), PV.sl (List.drop a.toNat (List.take c.toNat ss)).isEmpty false ([] ++ List.drop a.toNat (List.take c.toNat ss))])) /\ (bC ss.length (some a) (some c) none /\ aK ss 1) /\ bK true [] (List.drop
 a.toNat (List.take b.toNat es)) 1 4 /\ bK true [] (List.drop a.toNat (List.take c.toNat ss)) 1 4 /\ R (PV.agg [Z6 a, PV.sl (List.drop a.toNat (List.take b.toNat es)).isEmpty false ([] ++ List.drop a.toNat (List.take b.toNat es)), PV.sl
 (List.drop a.toNat (List.take c.toNat ss)).isEmpty false ([] ++ List.drop a.toNat (List.take c.toNat ss))]))) /\ (bK true [] (List.drop a.toNat (List.take b.toNat es)) 1 4 /\ (bC ss.length (some a) (some c) none /\ aK ss 1) /\ iG (bK
 true [] (List.drop a.toNat (List.take c.toNat ss)) 1 4 /\ R (PV.agg [Z6 a, PV.sl (List.drop a.toNat (List.take b.toNat es)).isEmpty false ([] ++ List.drop a.toNat (List.take b.toNat es)), PV.sl (List.drop a.toNat (List.take c.toNat
 ss)).isEmpty false ([] ++ List.drop a.toNat (List.take c.toNat ss))]))) /\ iG (((bK true [] (List.drop a.toNat (List.take b.toNat es)) 1 4 /\ (bC ss.length (some a) (some c) none /\ aK ss 1) /\ bK true [] (List.drop a.toNat (List.take
 c.toNat ss)) 1 4 /\ R (PV.agg [Z6 a, PV.sl (List.drop a.toNat (List.take b.toNat es)).isEmpty false ([] ++ List.drop a.toNat (List.take b.toNat es)), PV.sl (List.drop a.toNat (List.take c.toNat ss)).isEmpty false ([] ++ List.drop a.toNat
 (List.take c.toNat ss))])) /\ (bK true [] (List.drop a.toNat (List.take b.toNat es)) 1 4 /\ (bC ss.length (some a) (some c) none /\ aK ss 1) /\ bK true [] (List.drop a.toNat (List.take c.toNat ss)) 1 4 /\ R (PV.agg [Z6 a, PV.sl
 (List.drop a.toNat (List.take b.toNat es)).isEmpty false ([] ++ List.drop a.toNat (List.take b.toNat es)), PV.sl (List.drop a.toNat (List.take c.toNat ss)).isEmpty false ([] ++ List.drop a.toNat (List.take c.toNat ss))])) /\ (bC ss.length
 (some a) (some c) none /\ aK ss 1) /\ bK true [] (List.drop a.toNat (List.take b.toNat es)) 1 4 /\ bK true [] (List.drop a.toNat (List.take c.toNat ss)) 1 4 /\ R (PV.agg [Z6 a, PV.sl (List.drop a.toNat (List.take b.toNat es)).isEmpty
 false ([] ++ List.drop a.toNat (List.take b.toNat es)), PV.sl (List.drop a.toNat (List.take c.toNat ss)).isEmpty false ([] ++ List.drop a.toNat (List.take c.toNat ss))])) /\ (bK true [] (List.drop a.toNat (List.take b.toNat es)) 1 4 /\
 (bC ss.length (some a) (some c) none /\ aK ss 1) /\ iG (bK true [] (List.drop a.toNat (List.take c.toNat ss)) 1 4 /\ R (PV.agg [Z6 a, PV.sl (List.drop a.toNat (List.take b.toNat es)).isEmpty false ([] ++ List.drop a.toNat (List.take
 b.toNat es)), PV.sl (List.drop a.toNat (List.take c.toNat ss)).isEmpty false ([] ++ List.drop a.toNat (List.take c.toNat ss))]))) /\ ((bK true [] (List.drop a.toNat (List.take b.toNat es)) 1 4 /\ (bC ss.length (some a) (some c) none /\
 aK ss 1) /\ bK true [] (List.drop a.toNat (List.take c.toNat ss)) 1 4 /\ R (PV.agg [Z6 a, PV.sl (List.drop a.toNat (List.take b.toNat es)).isEmpty false ([] ++ List.drop a.toNat (List.take b.toNat es)), PV.sl (List.drop a.toNat (List.take
 c.toNat ss)).isEmpty false ([] ++ List.drop a.toNat (List.take c.toNat ss))])) /\ (bC ss.length (some a) (some c) none /\ aK ss 1) /\ bK true [] (List.drop a.toNat (List.take b.toNat es)) 1 4 /\ bK true [] (List.drop a.toNat (List.take
 c.toNat ss)) 1 4 /\ R (PV.agg [Z6 a, PV.sl (List.drop a.toNat (List.take b.toNat es)).isEmpty false ([] ++ List.drop a.toNat (List.take b.toNat es)), PV.sl (List.drop a.toNat (List.take c.toNat ss)).isEmpty false ([] ++ List.drop a.toNat
 (List.take c.toNat ss))])) /\ (bK true [] (List.drop a.toNat (List.take b.toNat es)) 1 4 /\ (bC ss.length (some a) (some c) none /\ aK ss 1) /\ iG (bK true [] (List.drop a.toNat (List.take c.toNat ss)) 1 4 /\ R (PV.agg [Z6 a, PV.sl
 (List.drop a.toNat (List.take b.toNat es)).isEmpty false ([] ++ List.drop a.toNat (List.take b.toNat es)), PV.sl (List.drop a.toNat (List.take c.toNat ss)).isEmpty false ([] ++ List.drop a.toNat (List.take c.toNat ss))]))) /\ (bC ss.length
 (some a) (some c) none /\ aK ss 1) /\ (bK true [] (List.drop a.toNat (List.take b.toNat es)) 1 4 /\ bK true [] (List.drop a.toNat (List.take c.toNat ss)) 1 4 /\ R (PV.agg [Z6 a, PV.sl (List.drop a.toNat (List.take b.toNat es)).isEmpty
 false ([] ++ List.drop a.toNat (List.take b.toNat es)), PV.sl (List.drop a.toNat (List.take c.toNat ss)).isEmpty false ([] ++ List.drop a.toNat (List.take c.toNat ss))])) /\ bK true [] (List.drop a.toNat (List.take b.toNat es)) 1 4 /\ iG
 (bK true [] (List.drop a.toNat (List.take c.toNat ss)) 1 4 /\ R (PV.agg [Z6 a, PV.sl (List.drop a.toNat (List.take b.toNat es)).isEmpty false ([] ++ List.drop a.toNat (List.take b.toNat es)), PV.sl (List.drop a.toNat (List.take c.toNat
 ss)).isEmpty false ([] ++ List.drop a.toNat (List.take c.toNat ss))])))
theorem zqg (n f : Bool) (es : LL) (n2 f2 : Bool) (ss : LL) (a b c : Int) {R : PV -> Prop} (h : zgs n f es n2 f2 ss a b c R) : PCall Tryz.prog 38 [.sl n f es, .sl n2 f2 ss, .agg [.int .i64 a, .int .i64 b, .int .i64 c]] R :=
 PCall.of Tryz.func38 (by kernel_rfl) (by kernel_rfl) (zl (by kernel_rfl)) (Eq.mpr (by kernel_rfl : aR Tryz.prog (fun _ => none) Tryz.f38 [0, 1, 2, 5, 6] (fun _ => none) (Tryz.f38.body.getD .skip) [.sl n f es, .sl n2 f2 ss, .agg [.int .i64 a, .int .i64 b, .int .i64 c]] R = _) h)

def zgt (a : Int) (n f : Bool) (es : LL) (n2 f2 : Bool) (ss : LL) (R : PV -> Prop) : Prop :=
 R (PV.agg [Z6 a, Z6 (i64.wrap (a + (↑es.length : Int))), Z6 (i64.wrap (a + (↑ss.length : Int)))])
theorem zqh (a : Int) (n f : Bool) (es : LL) (n2 f2 : Bool) (ss : LL) {R : PV -> Prop} (h : zgt a n f es n2 f2 ss R) : PCall Tryz.prog 41 [.agg [.int .i64 a, .sl n f es, .sl n2 f2 ss]] R :=
 PCall.of Tryz.func41 (by kernel_rfl) (by kernel_rfl) (zl (by kernel_rfl)) (Eq.mpr (by kernel_rfl : aR Tryz.prog (fun _ => none) Tryz.f41 [0, 1, 2] (fun _ => none) (Tryz.f41.body.getD .skip) [.agg [.int .i64 a, .sl n f es, .sl n2 f2 ss]] R = _) h)

def zgu (a : Int) (n f : Bool) (es : LL) (n2 f2 : Bool) (ss : LL) (R : PV -> Prop) : Prop :=
 R (PV.agg [Z6 a, PV.sl n2 f2 ss, PV.sl n f es])
theorem zqi (a : Int) (n f : Bool) (es : LL) (n2 f2 : Bool) (ss : LL) {R : PV -> Prop} (h : zgu a n f es n2 f2 ss R) : PCall Tryz.prog 40 [.agg [.int .i64 a, .sl n f es, .sl n2 f2 ss]] R :=
 PCall.of Tryz.func40 (by kernel_rfl) (by kernel_rfl) (zl (by kernel_rfl)) (Eq.mpr (by kernel_rfl : aR Tryz.prog (fun _ => none) Tryz.f40 [0, 1, 2] (fun _ => none) (Tryz.f40.body.getD .skip) [.agg [.int .i64 a, .sl n f es, .sl n2 f2 ss]] R = _) h)

def zG (a : Int) (n f : Bool) (es : LL) (n2 f2 : Bool) (ss : LL) (n3 f3 : Bool) (s3 : LL) (x32 : Int) : Env × Hp := ([(1, LV.pv (PV.sl n3 f3 s3)), (2, LV.box 0 0), (6, LV.pv (PV.int i64 (i64.wrap (a + ↑es.length)))), (30, LV.pv (PV.sl n f es)), (31, Y6 ↑es.length), (32, Y6 x32)], [.box [Y6 a, LV.pv (PV.sl n f es), LV.pv (PV.sl n2 f2 ss)]])
def zgv (a : Int) (n f : Bool) (es : LL) (n2 f2 : Bool) (ss : LL) (n3 f3 : Bool) (s3 : LL) (J : Int -> Prop) (μ : Int -> Nat) (R : PV -> Prop) : Prop :=
 if (decide (a < 0) || decide (i64.wrap (a + (↑es.length : Int)) < 0) || decide (i64.wrap (a + (↑es.length : Int)) > (↑s3.length : Int))) = true then R (PV.tup [PV.sl true true [], Zb false]) else (aB (zG a n f es n2 f2
 ss n3 f3 s3 (0 : Int)) /\ J (0 : Int)) /\ ∀ (x32 : Int), J x32 -> if decide (x32 < (↑es.length : Int)) = true then aU es x32 1 /\ ∃ n1, (es.getD x32.toNat []).head? = some (Z3 n1) /\ aU s3 (i64.wrap (a + x32)) 1 /\ ∃ (n4 :
 Int), (s3.getD (i64.wrap (a + x32)).toNat []).head? = some (Z3 n4) /\ if (n4 != n1) = true then R (PV.tup [PV.sl true true [], Zb false]) else aB (zG a n f es n2 f2 ss n3 f3 s3 (i64.wrap (x32 + 1))) /\ J
 (i64.wrap (x32 + 1)) /\ μ (i64.wrap (x32 + 1)) < μ x32 else (bC s3.length none (some a) none /\ aK s3 1) /\ bK true [] (List.drop 0 (List.take a.toNat s3)) 1 4 /\ (aK ss 1 /\ (([] ++ List.drop 0 (List.take a.toNat
 s3)).length + ss.length) * (4 : Nat) <= 140737488355328) /\ (bC s3.length (some (i64.wrap (a + (↑es.length : Int)))) none none /\ aK s3 1) /\ (aK (List.drop (i64.wrap (a + (↑es.length : Int))).toNat (List.take (↑s3.length
 : Int).toNat s3)) 1 /\ (([] ++ List.drop 0 (List.take a.toNat s3) ++ ss).length + (List.drop (i64.wrap (a + (↑es.length : Int))).toNat (List.take (↑s3.length : Int).toNat s3)).length) * 4 <= 140737488355328) /\ R (PV.tup [PV.sl
 ((List.drop 0 (List.take a.toNat s3)).isEmpty && ss.isEmpty && (List.drop (i64.wrap (a + (↑es.length : Int))).toNat (List.take (↑s3.length : Int).toNat s3)).isEmpty) false ([] ++ List.drop 0 (List.take a.toNat s3) ++ ss ++ List.drop
 (i64.wrap (a + (↑es.length : Int))).toNat (List.take (↑s3.length : Int).toNat s3)), Zb true])
theorem zqj (a : Int) (n f : Bool) (es : LL) (n2 f2 : Bool) (ss : LL) (n3 f3 : Bool) (s3 : LL) (J : Int -> Prop) (μ : Int -> Nat) {R : PV -> Prop} (h : zgv a n f es n2 f2 ss n3 f3 s3 J μ R) : PCall Tryz.prog 39 [.agg [.int .i64 a, .sl n f es, .sl n2 f2 ss], .sl n3 f3 s3] R :=
 PCall.of Tryz.func39 (by kernel_rfl) (by kernel_rfl) (zl (by kernel_rfl)) (Eq.mpr (by kernel_rfl : aR Tryz.prog (fun _ => none) Tryz.f39 [0, 1, 2, 4, 5, 6, 7, 8, 9, 28, 30, 31, 32, 33, 45] (fun zz_ => match zz_ with | 5 => some ⟨Int × Unit, fun s => zG a n f es n2 f2 ss n3 f3 s3 s.1, fun _ s => J s.1, fun s => μ s.1, fun e h => (((gI e 32), ())), [], [1, 2, 6, 30, 31, 32], [], fun p => ∀ (x32 : Int), p (x32, ()), fun p h s => h s.1⟩ | _ => none) (Tryz.f39.body.getD .skip) [.agg [.int .i64 a, .sl n f es, .sl n2 f2 ss], .sl n3 f3 s3] R = _) h)

def zH  (R : PV -> Prop) : Prop :=
 PCall Tryz.prog 38 [PV.sl false true [[Z3 97], [Z3 98], [Z3 99], [Z3 100]], PV.sl false true [[Z3 97], [Z3 88], [Z3 100]], PV.agg [Z6 1, Z6 3, Z6 2]] fun v => ∃ cs, v = PV.agg cs /\ cs.length = 3 /\ ∃ n, cs.head? =
 some (Z6 n) /\ ∃ n1 f es, cs.tail.head? = some (PV.sl n1 f es) /\ ∃ n2 f1 es1, cs.tail.tail.head? = some (PV.sl n2 f1 es1) /\ PCall Tryz.prog 39 [PV.agg [Z6 n, PV.sl n1 f es, PV.sl
 n2 f1 es1], PV.sl false true [[Z3 97], [Z3 98], [Z3 99], [Z3 100]]] fun v1 => ∃ vs, v1 = PV.tup vs /\ vs.length = 2 /\ ∃ x, vs.head? = some x /\ ∃ n3 f2 es2, x = PV.sl n3 f2 es2 /\ ∃ (x1 :
 PV), vs.tail.head? = some x1 /\ ∃ b, x1 = Zb b /\ PCall Tryz.prog 37 [PV.agg [Z6 1, Z6 3, Z6 2], Z6 1] fun v2 => ∃ n4, v2 = Z6 n4 /\ if (n4 == 1) = true then PCall Tryz.prog 37 [PV.agg [Z6 1, Z6 3, Z6 2], Z6 2] fun (v3 :
 PV) => ∃ n5, v3 = Z6 n5 /\ if (n5 == 1) = true then PCall Tryz.prog 37 [PV.agg [Z6 1, Z6 3, Z6 2], Z6 3] fun v4 => ∃ n6, v4 = Z6 n6 /\ if (n6 == 2) = true then PCall Tryz.prog 37 [PV.agg [Z6 1, Z6 3, Z6 2], Z6 4] fun (v5
 : PV) => ∃ n7, v5 = Z6 n7 /\ if (n7 == 3 && b) = true then PCall Tryz.prog 25 [PV.sl n3 f2 es2, PV.sl false true [[Z3 97], [Z3 88], [Z3 100]]] fun v6 => ∃ b1, v6 = Zb b1 /\ R (Zb b1) else R (Zb false) else R (Zb false)
 else R (Zb false) else R (Zb false)
theorem zqk  {R : PV -> Prop} (h : zH  R) : PCall Tryz.prog 36 [] R :=
 PCall.of Tryz.func36 (by kernel_rfl) (by kernel_rfl) (zl (by kernel_rfl)) (Eq.mpr (by kernel_rfl : aR Tryz.prog (fun _ => none) Tryz.f36 [0, 1, 2, 3, 4] (fun _ => none) (Tryz.f36.body.getD .skip) [] R = zH  R) h)

def zgw (n f : Bool) (es : LL) (i j : Int) (n2 f2 : Bool) (ss : LL) (k : Int) (R : PV -> Prop) : Prop :=
 PCall Tryz.prog 13 [PV.sl n f es, Z6 80] fun v => ∃ n1 f1 es1, v = PV.sl n1 f1 es1 /\ PCall Tryz.prog 13 [PV.sl n2 f2 ss, Z6 40] fun v1 => ∃ n3 f3 es2, v1 = PV.sl n3
 f3 es2 /\ PCall Tryz.prog 15 [] fun v2 => ∃ n4 f4 es3, v2 = PV.sl n4 f4 es3 /\ PCall Tryz.prog 16 [PV.sl n4 f4 es3] fun v3 => PCall Tryz.prog 31 [v3, PV.sl n1 f1 es1, Z6 i, Z6 j, PV.sl n3 f3 es2] fun
 (v4 : PV) => ∃ vs, v4 = PV.tup vs /\ vs.length = 3 /\ ∃ x, vs.head? = some x /\ ∃ n5 f5 es4, x = PV.sl n5 f5 es4 /\ ∃ x1, vs.tail.head? = some x1 /\ ∃ cs, x1 = PV.agg cs /\
 cs.length = 3 /\ ∃ n6, cs.head? = some (Z6 n6) /\ ∃ n7, cs.tail.head? = some (Z6 n7) /\ ∃ n8, cs.tail.tail.head? = some (Z6 n8) /\ ∃ x2, vs.tail.tail.head? = some x2 /\ ∃ n9, x2 = Z6 n9 /\ if (n9 != 0 ||
 decide (k < 0) || decide (k > (↑es1.length : Int))) = true then PCall Tryz.prog 36 [] fun v5 => ∃ b, v5 = Zb b /\ R (Zb b) else PCall Tryz.prog 37 [PV.agg [Z6 n6, Z6 n7, Z6 n8], Z6 k] fun v5 => ∃ n10, v5 = Z6 n10
 /\ if (decide (n10 < 0) || decide (n10 > (↑es4.length : Int))) = true then R (Zb false) else if decide (k <= n6) = true then (bC es4.length none (some n10) none /\ aK es4 1) /\ (bC es1.length none (some k) none /\ aK es1 1) /\ PCall
 Tryz.prog 25 [PV.sl n5 (f5 && decide (n10 = (↑es4.length : Int))) (List.drop 0 (List.take n10.toNat es4)), PV.sl n1 (f1 && decide (k = (↑es1.length : Int))) (List.drop 0 (List.take k.toNat es1))] fun v6 => ∃ b, v6 = Zb b /\ if
 b = true then PCall Tryz.prog 36 [] fun v7 => ∃ b1, v7 = Zb b1 /\ R (Zb b1) else R (Zb false) else if decide (k >= n7) = true then (bC es4.length (some n10) none none /\ aK es4 1) /\ (bC es1.length (some k) none none /\ aK
 es1 1) /\ PCall Tryz.prog 25 [PV.sl n5 (f5 && decide ((↑es4.length : Int) = (↑es4.length : Int))) (List.drop n10.toNat (List.take (↑es4.length : Int).toNat es4)), PV.sl n1 (f1 && decide ((↑es1.length : Int) = (↑es1.length : Int))) (List.drop
 k.toNat (List.take (↑es1.length : Int).toNat es1))] fun v6 => ∃ b, v6 = Zb b /\ if b = true then PCall Tryz.prog 36 [] fun v7 => ∃ b1, v7 = Zb b1 /\ R (Zb b1) else R (Zb false) else if (n10 == n6) = true then
 PCall Tryz.prog 36 [] fun v6 => ∃ b, v6 = Zb b /\ R (Zb b) else R (Zb false)
theorem zql (n f : Bool) (es : LL) (i j : Int) (n2 f2 : Bool) (ss : LL) (k : Int) {R : PV -> Prop} (h : zgw n f es i j n2 f2 ss k R) : PCall Tryz.prog 9 [.sl n f es, .int .i64 i, .int .i64 j, .sl n2 f2 ss, .int .i64 k] R :=
 PCall.of Tryz.func9 (by kernel_rfl) (by kernel_rfl) (zl (by kernel_rfl)) (Eq.mpr (by kernel_rfl : aR Tryz.prog (fun _ => none) Tryz.f9 [0, 1, 2, 3, 4, 10, 11, 12, 13, 14, 41, 53, 57, 71] (fun _ => none) (Tryz.f9.body.getD .skip) [.sl n f es, .int .i64 i, .int .i64 j, .sl n2 f2 ss, .int .i64 k] R = _) h)

def zgx (n f : Bool) (es : LL) (i j : Int) (n2 f2 : Bool) (ss : LL) (R : PV -> Prop) : Prop :=
 PCall Tryz.prog 13 [PV.sl n f es, Z6 80] fun v => ∃ n1 f1 es1, v = PV.sl n1 f1 es1 /\ PCall Tryz.prog 13 [PV.sl n2 f2 ss, Z6 40] fun v1 => ∃ n3 f3 es2, v1 = PV.sl n3
 f3 es2 /\ PCall Tryz.prog 15 [] fun v2 => ∃ n4 f4 es3, v2 = PV.sl n4 f4 es3 /\ PCall Tryz.prog 16 [PV.sl n4 f4 es3] fun v3 => PCall Tryz.prog 31 [v3, PV.sl n1 f1 es1, Z6 i, Z6 j, PV.sl n3 f3 es2] fun
 (v4 : PV) => ∃ vs, v4 = PV.tup vs /\ vs.length = 3 /\ ∃ x, vs.head? = some x /\ ∃ n5 f5 es4, x = PV.sl n5 f5 es4 /\ ∃ x1, vs.tail.head? = some x1 /\ ∃ cs, x1 = PV.agg cs /\
 cs.length = 3 /\ ∃ n6, cs.head? = some (Z6 n6) /\ ∃ n7, cs.tail.head? = some (Z6 n7) /\ ∃ n8, cs.tail.tail.head? = some (Z6 n8) /\ ∃ x2, vs.tail.tail.head? = some x2 /\ ∃ n9, x2 = Z6 n9 /\ if (n9 != 0) =
 true then PCall Tryz.prog 36 [] fun v5 => ∃ b, v5 = Zb b /\ R (Zb b) else PCall Tryz.prog 42 [PV.sl n1 f1 es1, PV.sl n5 f5 es4, PV.agg [Z6 n6, Z6 n7, Z6 n8], Z6 j] fun v5 => ∃ n10, v5 = Z6 n10 /\ if decide (n10 <
 n6) = true then R (Zb false) else if (decide (n10 > n8) || decide (i64.wrap ((↑es4.length : Int) - n10) > i64.wrap ((↑es1.length : Int) - j))) = true then R (Zb false) else (bC es4.length (some n10) none none /\ aK es4 1)
 /\ (bC es1.length (some (i64.wrap ((↑es1.length : Int) - i64.wrap ((↑es4.length : Int) - n10)))) none none /\ aK es1 1) /\ PCall Tryz.prog 25 [PV.sl n5 (f5 && decide ((↑es4.length : Int) = (↑es4.length : Int))) (List.drop
 n10.toNat (List.take (↑es4.length : Int).toNat es4)), PV.sl n1 (f1 && decide ((↑es1.length : Int) = (↑es1.length : Int))) (List.drop (i64.wrap ((↑es1.length : Int) - i64.wrap ((↑es4.length : Int) - n10))).toNat (List.take
 (↑es1.length : Int).toNat es1))] fun v6 => ∃ b, v6 = Zb b /\ if (!b) = true then R (Zb false) else if (n10 == n6 || i64.wrap ((↑es4.length : Int) - n10) == i64.wrap ((↑es1.length : Int) - j)) = true then PCall
 Tryz.prog 36 [] fun v7 => ∃ b1, v7 = Zb b1 /\ R (Zb b1) else aU es4 (i64.wrap (n10 - 1)) 1 /\ ∃ n11, (es4.getD (i64.wrap (n10 - 1)).toNat []).head? = some (Z3 n11) /\ aU es1 (i64.wrap
 (i64.wrap ((↑es1.length : Int) - i64.wrap ((↑es4.length : Int) - n10)) - 1)) 1 /\ ∃ n12, (es1.getD (i64.wrap (i64.wrap ((↑es1.length : Int) - i64.wrap ((↑es4.length : Int) - n10)) - 1)).toNat
 []).head? = some (Z3 n12) /\ if (n11 != n12) = true then PCall Tryz.prog 36 [] fun v7 => ∃ b1, v7 = Zb b1 /\ R (Zb b1) else R (Zb false)
theorem zqm (n f : Bool) (es : LL) (i j : Int) (n2 f2 : Bool) (ss : LL) {R : PV -> Prop} (h : zgx n f es i j n2 f2 ss R) : PCall Tryz.prog 11 [.sl n f es, .int .i64 i, .int .i64 j, .sl n2 f2 ss] R :=
 PCall.of Tryz.func11 (by kernel_rfl) (by kernel_rfl) (zl (by kernel_rfl)) (Eq.mpr (by kernel_rfl : aR Tryz.prog (fun _ => none) Tryz.f11 [0, 1, 2, 3, 8, 9, 10, 11, 12, 13, 30, 71] (fun _ => none) (Tryz.f11.body.getD .skip) [.sl n f es, .int .i64 i, .int .i64 j, .sl n2 f2 ss] R = _) h)

def zgy (n f : Bool) (es : LL) (i j : Int) (n2 f2 : Bool) (ss : LL) (R : PV -> Prop) : Prop :=
 PCall Tryz.prog 13 [PV.sl n f es, Z6 80] fun v => ∃ n1 f1 es1, v = PV.sl n1 f1 es1 /\ PCall Tryz.prog 13 [PV.sl n2 f2 ss, Z6 40] fun v1 => ∃ n3 f3 es2, v1 = PV.sl n3
 f3 es2 /\ PCall Tryz.prog 15 [] fun v2 => ∃ n4 f4 es3, v2 = PV.sl n4 f4 es3 /\ PCall Tryz.prog 16 [PV.sl n4 f4 es3] fun v3 => PCall Tryz.prog 31 [v3, PV.sl n1 f1 es1, Z6 i, Z6 j, PV.sl n3 f3 es2] fun
 (v4 : PV) => ∃ vs, v4 = PV.tup vs /\ vs.length = 3 /\ ∃ x, vs.head? = some x /\ ∃ n5 f5 es4, x = PV.sl n5 f5 es4 /\ ∃ x1, vs.tail.head? = some x1 /\ ∃ cs, x1 = PV.agg cs /\
 cs.length = 3 /\ ∃ n6, cs.head? = some (Z6 n6) /\ ∃ n7, cs.tail.head? = some (Z6 n7) /\ ∃ n8, cs.tail.tail.head? = some (Z6 n8) /\ ∃ x2, vs.tail.tail.head? = some x2 /\ ∃ n9, x2 = Z6 n9 /\ if (n9 != 0) =
 true then PCall Tryz.prog 36 [] fun v5 => ∃ b, v5 = Zb b /\ R (Zb b) else PCall Tryz.prog 38 [PV.sl n1 f1 es1, PV.sl n5 f5 es4, PV.agg [Z6 n6, Z6 n7, Z6 n8]] fun v5 => ∃ cs1, v5 = PV.agg cs1 /\ cs1.length = 3
 /\ ∃ n10, cs1.head? = some (Z6 n10) /\ ∃ n11 f6 es5, cs1.tail.head? = some (PV.sl n11 f6 es5) /\ ∃ n12 f7 es6, cs1.tail.tail.head? = some (PV.sl n12 f7 es6) /\ PCall
 Tryz.prog 39 [PV.agg [Z6 n10, PV.sl n11 f6 es5, PV.sl n12 f7 es6], PV.sl n1 f1 es1] fun v6 => ∃ vs1, v6 = PV.tup vs1 /\ vs1.length = 2 /\ ∃ x3, vs1.head? = some x3 /\ ∃ n13 f8 es7, x3 =
 PV.sl n13 f8 es7 /\ ∃ x4, vs1.tail.head? = some x4 /\ ∃ b, x4 = Zb b /\ PCall Tryz.prog 40 [PV.agg [Z6 n10, PV.sl n11 f6 es5, PV.sl n12 f7 es6]] fun v7 => ∃ cs2, v7 = PV.agg cs2 /\ cs2.length = 3 /\ ∃ (n14 :
 Int), cs2.head? = some (Z6 n14) /\ ∃ n15 f9 es8, cs2.tail.head? = some (PV.sl n15 f9 es8) /\ ∃ n16 f10 es9, cs2.tail.tail.head? = some (PV.sl n16 f10 es9) /\ PCall Tryz.prog 39
 [PV.agg [Z6 n14, PV.sl n15 f9 es8, PV.sl n16 f10 es9], PV.sl n5 f5 es4] fun v8 => ∃ vs2, v8 = PV.tup vs2 /\ vs2.length = 2 /\ ∃ x5, vs2.head? = some x5 /\ ∃ n17 f11 es10, x5 = PV.sl n17
 f11 es10 /\ ∃ x6, vs2.tail.head? = some x6 /\ ∃ b1, x6 = Zb b1 /\ if (b && b1) = true then PCall Tryz.prog 25 [PV.sl n13 f8 es7, PV.sl n5 f5 es4] fun v9 => ∃ b2, v9 = Zb b2 /\ if b2 = true then PCall Tryz.prog 25
 [PV.sl n17 f11 es10, PV.sl n1 f1 es1] fun v10 => ∃ b3, v10 = Zb b3 /\ if b3 = true then PCall Tryz.prog 41 [PV.agg [Z6 n10, PV.sl n11 f6 es5, PV.sl n12 f7 es6]] fun v11 => ∃ cs3, v11 = PV.agg cs3 /\ cs3.length
 = 3 /\ ∃ n18, cs3.head? = some (Z6 n18) /\ ∃ n19, cs3.tail.head? = some (Z6 n19) /\ ∃ n20, cs3.tail.tail.head? = some (Z6 n20) /\ if (bif true then n18 == n6 && (n19 == n7 && (n20 == n8 && true)) else !(n18 == n6 && (n19
 == n7 && (n20 == n8 && true)))) = true then PCall Tryz.prog 36 [] fun v12 => ∃ b4, v12 = Zb b4 /\ R (Zb b4) else R (Zb false) else R (Zb false) else R (Zb false) else R (Zb false)
theorem zqn (n f : Bool) (es : LL) (i j : Int) (n2 f2 : Bool) (ss : LL) {R : PV -> Prop} (h : zgy n f es i j n2 f2 ss R) : PCall Tryz.prog 10 [.sl n f es, .int .i64 i, .int .i64 j, .sl n2 f2 ss] R :=
 PCall.of Tryz.func10 (by kernel_rfl) (by kernel_rfl) (zl (by kernel_rfl)) (Eq.mpr (by kernel_rfl : aR Tryz.prog (fun _ => none) Tryz.f10 [0, 1, 2, 3, 8, 9, 10, 11, 12, 13, 14, 15, 16, 33] (fun _ => none) (Tryz.f10.body.getD .skip) [.sl n f es, .int .i64 i, .int .i64 j, .sl n2 f2 ss] R = _) h)

end Go.Eng



namespace Go.Eng
open Go Go.Proofs Go.Eng.Rows Go.Eng.Trie Go.Eng.Srt
theorem pY (a b c k : Int) (ha : 0 <= a /\ a <= 1000000000) (hb : 0 <= b /\ b <= 1000000000) (hc : 0 <= c /\ c <= 1000000000) (hk : 0 <= k /\ k <= 1000000000) : PCall Tryz.prog 37 [.agg [.int .i64 a, .int .i64 b, .int .i64 c], .int .i64 k] fun v => v = .int .i64 (if k <= a then k else if b <= k then k - b + c else a) := by
 refine zqe _ _ _ _ ?_; unfold zgq
 refine aF (fun h => ?_) (fun h => ?_)
 ·simp only [decide_eq_true_eq] at h; rw [if_pos h]
 ·simp only [decide_eq_true_eq] at h; rw [if_neg h]
  refine aF (fun h2 => ?_) (fun h2 => ?_)
  ·simp only [decide_eq_true_eq, ge_iff_le] at h2
   rw [if_pos h2, aD (n := k - b) (by omega) (by omega), aD (by omega) (by omega)]
  ·simp only [decide_eq_true_eq, ge_iff_le] at h2
   rw [if_neg h2]
theorem zqo (n f n2 f2 : Bool) (L S : List Int) (hL : L.length < 1000000) (hS : S.length < 100000000) (a b c k : Nat) (h1 : a <= c) (h2 : c <= S.length) (h3 : b <= L.length) (h4 : k <= b) (h5 : L.length - b = S.length - c) (hd : L.drop b = S.drop c) :
 PCall Tryz.prog 42 [.sl n f (aA L), .sl n2 f2 (aA S), .agg [.int .i64 a, .int .i64 b, .int .i64 c], .int .i64 k] fun v => ∃ x y : Nat, v = .int .i64 y /\ k <= x /\ x <= b /\ a <= y /\ y <= c /\ L.length - x = S.length - y /\ L.drop x = S.drop y /\ (y = a ∨ x = k ∨ L.getD (x - 1) 0 ≠ S.getD (y - 1) 0) := by
 refine zqf _ _ _ _ _ _ _ _ _ _ (fun p q => ∃ x y : Nat, p = x /\ q = y /\ k <= x /\ x <= b /\ a <= y /\ y <= c /\ L.length - x = S.length - y /\ L.drop x = S.drop y) (fun p _ => p.toNat) ?_
 unfold zgr
 refine ⟨⟨rfl, b, c, rfl, rfl, h4, Nat.le_refl _, h1, Nat.le_refl _, h5, hd⟩, ?_⟩
 rintro _ _ ⟨x, y, rfl, rfl, p1, p2, p3, p4, p5, p6⟩
 have at1 : ∀ {M : List Int} {i : Nat}, i < M.length -> aU (aA M) (i : Int) 1 /\ (aA M).getD (i : Int).toNat [] = [.int .i32 (M.getD i 0)] := fun {M i} hi => by
  obtain ⟨g1, g2⟩ := gB (l := M) (i := (i : Int)) (by omega) (by omega)
  refine ⟨g1, ?_⟩
  rw [g2, nG hi]; simp
 refine aF (fun c1 => ?_) (fun c1 => ?_)
 ·simp only [gt_iff_lt, decide_eq_true_eq] at c1
  refine aF (fun c2 => ?_) (fun c2 => ?_)
  ·simp only [gt_iff_lt, decide_eq_true_eq] at c2
   have hwy : i64.wrap ((x : Int) - 1) = ((x - 1 : Nat) : Int) := by rw [aD (by omega) (by omega)]; omega
   have hwz : i64.wrap ((y : Int) - 1) = ((y - 1 : Nat) : Int) := by rw [aD (by omega) (by omega)]; omega
   rw [hwy, hwz]
   obtain ⟨g1, g2⟩ := at1 (M := L) (i := x - 1) (by omega)
   obtain ⟨g3, g4⟩ := at1 (M := S) (i := y - 1) (by omega)
   refine ⟨g1, L.getD (x - 1) 0, by rw [g2]; rfl, g3, S.getD (y - 1) 0, by rw [g4]; rfl, ?_⟩
   refine aF (fun he => ?_) (fun he => ?_)
   ·simp only [beq_iff_eq] at he
    refine ⟨rfl, ⟨x - 1, y - 1, rfl, rfl, by omega, by omega, by omega, by omega, by omega, ?_⟩, by dsimp only; omega⟩
    rw [Rows.drop_cons (show x - 1 < L.length by omega), Rows.drop_cons (show y - 1 < S.length by omega), he, show x - 1 + 1 = x by omega, show y - 1 + 1 = y by omega, p6]
   ·exact ⟨x, y, rfl, p1, p2, p3, p4, p5, p6, .inr (.inr (by simpa using he))⟩
  ·simp only [gt_iff_lt, decide_eq_true_eq] at c2
   exact ⟨x, y, rfl, p1, p2, p3, p4, p5, p6, .inl (by omega)⟩
 ·simp only [gt_iff_lt, decide_eq_true_eq] at c1
  exact ⟨x, y, rfl, p1, p2, p3, p4, p5, p6, .inr (.inl (by omega))⟩
theorem zgz (n f n2 f2 : Bool) (L S : List Int) (hL : L.length < 1000000) (hS : S.length < 100000000) (a b c : Nat) (h1 : a <= b) (h2 : b <= L.length) (h3 : a <= c) (h4 : c <= S.length) :
 PCall Tryz.prog 38 [.sl n f (aA L), .sl n2 f2 (aA S), .agg [.int .i64 a, .int .i64 b, .int .i64 c]] fun v => ∃ n f n2 f2, v = .agg [.int .i64 a, .sl n f (aA (bM L a b)), .sl n2 f2 (aA (bM S a c))] := by
 refine zqg _ _ _ _ _ _ _ _ _ ?_; unfold zgs
 have e1 : List.drop (a : Int).toNat (List.take (b : Int).toNat (aA L)) = aA (bM L a b) := by rw [Int.toNat_natCast, Int.toNat_natCast, tO]
 have e2 : List.drop (a : Int).toNat (List.take (c : Int).toNat (aA S)) = aA (bM S a c) := by rw [Int.toNat_natCast, Int.toNat_natCast, tO]
 rw [e1, e2]
 have k1 := nF L a b
 have k2 := nF S a c
 have A1 : bK true [] (aA (bM L a b)) 1 4 := ap0 (by omega)
 have A2 : bK true [] (aA (bM S a c)) 1 4 := ap0 (by omega)
 have B1 : bC (aA L).length (some (a : Int)) (some (b : Int)) none /\ aK (aA L) 1 := ⟨tN (by omega) (by omega) (by rw [aX]; omega), cU _⟩
 have B2 : bC (aA S).length (some (a : Int)) (some (c : Int)) none /\ aK (aA S) 1 := ⟨tN (by omega) (by omega) (by rw [aX]; omega), cU _⟩
 have R1 : ∃ n f n2 f2, PV.agg [PV.int .i64 a, PV.sl (aA (bM L a b)).isEmpty false ([] ++ aA (bM L a b)), PV.sl (aA (bM S a c)).isEmpty false ([] ++ aA (bM S a c))] = .agg [.int .i64 a, .sl n f (aA (bM L a b)), .sl n2 f2 (aA (bM S a c))] := ⟨_, _, _, _, rfl⟩
 repeat' first | exact A1 | exact A2 | exact B1 | exact B2 | exact R1 | apply And.intro
theorem zqp (n f n2 f2 : Bool) (a : Int) (O N : List Int) (ha : 0 <= a /\ a < 1000000000) (h1 : O.length < 1000000000) (h2 : N.length < 1000000000) : PCall Tryz.prog 41 [.agg [.int .i64 a, .sl n f (aA O), .sl n2 f2 (aA N)]] fun v => v = .agg [.int .i64 a, .int .i64 (a + O.length), .int .i64 (a + N.length)] := by
 refine zqh _ _ _ _ _ _ _ ?_; unfold zgt
 rw [aX, aX, aD (by omega) (by omega), aD (by omega) (by omega)]
theorem zqq (n f n2 f2 : Bool) (a : Int) (O N : List Int) : PCall Tryz.prog 40 [.agg [.int .i64 a, .sl n f (aA O), .sl n2 f2 (aA N)]] fun v => v = .agg [.int .i64 a, .sl n2 f2 (aA N), .sl n f (aA O)] := by
 refine zqi _ _ _ _ _ _ _ ?_; unfold zgu; rfl
theorem zqr {X : List Int} {a b i : Nat} (h : a + i < b) (hb : b <= X.length) : (bM X a b).getD i 0 = X.getD (a + i) 0 := by
 unfold bM
 simp only [List.getD, List.getElem?_drop, List.getElem?_take, if_pos h]
theorem zI (n f n2 f2 n3 f3 : Bool) (a : Nat) (O N X : List Int) (hX : X.length < 100000000) (hN : N.length < 100000000) (h : a + O.length <= X.length) (hs : bM X a (a + O.length) = O) :
 PCall Tryz.prog 39 [.agg [.int .i64 a, .sl n f (aA O), .sl n2 f2 (aA N)], .sl n3 f3 (aA X)] fun v => ∃ n f, v = .tup [.sl n f (aA (X.take a ++ (N ++ X.drop (a + O.length)))), .bool true] := by
 refine zqj _ _ _ _ _ _ _ _ _ _ (fun i => 0 <= i /\ i <= O.length) (fun i => O.length - i.toNat) ?_
 unfold zgv
 have hw : i64.wrap ((a : Int) + ((aA O).length : Int)) = ((a + O.length : Nat) : Int) := by rw [aX, aD (by omega) (by omega)]; omega
 rw [hw]
 refine bB (by simp only [aX, Bool.or_eq_true, decide_eq_true_eq]; omega) ⟨⟨rfl, Int.le_refl _, by omega⟩, ?_⟩
 rintro i ⟨i0, i1⟩
 have hl8 : ((aA O).length : Int) = O.length := by rw [aX]
 rw [hl8]
 refine aF (fun hc => ?_) (fun hc => ?_)
 ·simp only [decide_eq_true_eq] at hc
  have hi : i.toNat < O.length := by omega
  obtain ⟨g1, g2⟩ := gB i0 hi
  have hwi : i64.wrap ((a : Int) + i) = ((a + i.toNat : Nat) : Int) := by rw [aD (by omega) (by omega)]; omega
  have hw1 : i64.wrap (i + 1) = i + 1 := aD (by omega) (by omega)
  rw [hwi, hw1]
  obtain ⟨g3, g4⟩ := gB (l := X) (i := ((a + i.toNat : Nat) : Int)) (by omega) (by omega)
  refine ⟨g1, O[i.toNat], by rw [g2]; rfl, g3, X[((a + i.toNat : Nat) : Int).toNat]'(by omega), by rw [g4]; rfl, bB ?_ ⟨rfl, ⟨by omega, by omega⟩, by dsimp only; omega⟩⟩
  have h1 := zqr (X := X) (a := a) (b := a + O.length) (i := i.toNat) (by omega) h
  rw [hs, nG hi, nG (by omega)] at h1
  have h2 : X[((a + i.toNat : Nat) : Int).toNat]'(by omega) = X[a + i.toNat]'(by omega) := rfl
  rw [h2, h1]; simp
 ·simp only [decide_eq_true_eq] at hc
  rw [tP, pX, Int.toNat_natCast, Int.toNat_natCast, List.nil_append]
  have q1 : (X.take a).length <= X.length := by rw [List.length_take]; omega
  have q2 : (X.drop (a + O.length)).length <= X.length := by rw [List.length_drop]; omega
  refine ⟨⟨tQ (by omega) (by rw [aX]; omega), cU _⟩, ap0 (by omega), ⟨cU _, by rw [aX, aX]; omega⟩, ⟨nH (by omega) (by rw [aX]; omega), cU _⟩, ⟨cU _, by rw [List.length_append, aX, aX, aX]; omega⟩, ?_⟩
  rw [<- kL, <- kL, List.append_assoc]
  exact ⟨_, _, rfl⟩
theorem awake16 : PCall Tryz.prog 36 [] fun v => v = .bool true := by
 refine zqk ?_; unfold zH
 refine (zgz _ _ _ _ [97, 98, 99, 100] [97, 88, 100] (by simp) (by simp) 1 3 2 (by simp) (by simp) (by simp) (by simp)).mono ?_
 rintro _ ⟨n, f, n2, f2, rfl⟩
 refine ⟨_, rfl, rfl, _, rfl, _, _, _, rfl, _, _, _, rfl, ?_⟩
 refine (zI _ _ _ _ _ _ 1 (bM [97, 98, 99, 100] 1 3) (bM [97, 88, 100] 1 2) [97, 98, 99, 100] (by simp) (by simp [bM]) (by simp [bM]) (by simp [bM])).mono ?_
 rintro _ ⟨n3, f3, rfl⟩
 refine ⟨_, rfl, rfl, _, rfl, _, _, _, rfl, _, rfl, _, rfl, ?_⟩
 refine (pY 1 3 2 1 (by omega) (by omega) (by omega) (by omega)).mono ?_
 rintro _ rfl
 refine ⟨_, rfl, bA (by simp) ?_⟩
 refine (pY 1 3 2 2 (by omega) (by omega) (by omega) (by omega)).mono ?_
 rintro _ rfl
 refine ⟨_, rfl, bA (by simp) ?_⟩
 refine (pY 1 3 2 3 (by omega) (by omega) (by omega) (by omega)).mono ?_
 rintro _ rfl
 refine ⟨_, rfl, bA (by simp) ?_⟩
 refine (pY 1 3 2 4 (by omega) (by omega) (by omega) (by omega)).mono ?_
 rintro _ rfl
 refine ⟨_, rfl, bA (by simp) ?_⟩
 refine (nC _ _ _ _ _ [97, 88, 100] (by simp [bM])).mono ?_
 rintro _ rfl
 refine ⟨_, rfl, ?_⟩
 rfl
theorem zqs {L S : List Int} {b c k : Nat} (h : L.drop b = S.drop c) (hb : b <= k) : L.drop k = S.drop (c + (k - b)) := by
 have := congrArg (List.drop (k - b)) h
 rw [List.drop_drop, List.drop_drop] at this
 rw [show k = b + (k - b) by omega, this, show b + (k - b) - b = k - b by omega]
theorem zqt {L S : List Int} {a k : Nat} (h : L.take a = S.take a) (hk : k <= a) : L.take k = S.take k := by
 have := congrArg (List.take k) h
 rwa [List.take_take, List.take_take, Nat.min_eq_left hk] at this
theorem zqu (n f : Bool) (l : List Int) (hr : R32 l) (i j : Int) (n2 f2 : Bool) (ins : List Int) (hr2 : R32 ins) (k : Int) : PCall Tryz.prog 9 [.sl n f (aA l), .int .i64 i, .int .i64 j, .sl n2 f2 (aA ins), .int .i64 k] fun v => v = .bool true := by
 refine zql _ _ _ _ _ _ _ _ _ ?_; unfold zgw
 refine (nA n f l 80 (by omega)).mono ?_
 rintro _ ⟨n1, f1, rfl⟩
 refine ⟨_, _, _, rfl, ?_⟩
 refine (nA n2 f2 ins 40 (by omega)).mono ?_
 rintro _ ⟨n3, f3, rfl⟩
 refine ⟨_, _, _, rfl, ?_⟩
 refine p42.mono ?_
 rintro _ ⟨n4, f4, rfl⟩
 refine ⟨_, _, _, rfl, ?_⟩
 refine (yT n4 f4).mono fun t ht => ?_
 have ll := nE l 80
 have li := nE ins 40
 have rl := hr.take 80
 have ri := hr2.take 40
 generalize l.take 80 = l at *
 generalize ins.take 40 = ins at *
 have aw : PCall Tryz.prog 36 [] fun v => ∃ b : Bool, v = .bool b /\ PV.bool b = .bool true := awake16.mono fun v h => ⟨true, h, rfl⟩
 refine (zC tI yS m9 ht _ _ _ _ l ins rl (by omega) ri (by omega) i j).mono ?_
 intro x hx
 by_cases hv : (0 <= i /\ i <= j) /\ j <= (l.length : Int)
 ·rw [if_pos hv] at hx
  obtain ⟨n5, f5, rfl⟩ := hx
  obtain ⟨s1, s2, s3, s4, s5, s6⟩ := zD tab l (i := i.toNat) (j := j.toNat) ins (by omega) (by omega)
  have hml := tR tab l i.toNat j.toNat ins
  have hnl := tM m9 (dN tab l i.toNat j.toNat ins)
  refine ⟨_, rfl, rfl, _, rfl, _, _, _, rfl, _, rfl, _, rfl, rfl, _, rfl, _, rfl, _, rfl, _, rfl, _, rfl, aF (fun _ => aw) (fun hk => ?_)⟩
  simp only [aX, Bool.or_eq_true, decide_eq_true_eq, gt_iff_lt, bne_self_eq_false, Bool.false_eq_true, false_or] at hk
  obtain ⟨k, rfl⟩ := Int.eq_ofNat_of_zero_le (show 0 <= k by omega)
  generalize hS : kO tab l i.toNat j.toNat ins = S at *
  generalize hm : (gJ tab (dN tab l i.toNat j.toNat ins)).length = m at *
  generalize bX tab l i.toNat = a at *
  generalize cG tab l j.toNat (l.length - j.toNat) = b at *
  refine (pY a b (a + m : Nat) k (by omega) (by omega) (by omega) (by omega)).mono ?_
  rintro _ rfl
  refine ⟨_, rfl, ?_⟩
  by_cases c1 : (k : Int) <= a
  ·rw [if_pos c1]
   refine bB (by simp only [aX, Bool.or_eq_true, decide_eq_true_eq, gt_iff_lt]; omega) (bA (by simpa using c1) ⟨⟨tQ (by omega) (by rw [aX]; omega), cU _⟩, ⟨tQ (by omega) (by rw [aX]; omega), cU _⟩, ?_⟩)
   rw [tP, tP, Int.toNat_natCast, zqt s5 (by omega)]
   refine (nC _ _ _ _ _ _ (by rw [List.length_take]; omega)).mono ?_
   rintro _ rfl
   exact ⟨_, rfl, bA (by simp) aw⟩
  ·rw [if_neg c1]
   by_cases c2 : (b : Int) <= k
   ·rw [if_pos c2]
    have e : (k : Int) - b + ((a + m : Nat) : Int) = ((a + m + (k - b) : Nat) : Int) := by omega
    rw [e]
    refine bB (by simp only [aX, Bool.or_eq_true, decide_eq_true_eq, gt_iff_lt]; omega) (bB (by simpa using c1) (bA (by simpa using c2) ⟨⟨nH (by omega) (by rw [aX]; omega), cU _⟩, ⟨nH (by omega) (by rw [aX]; omega), cU _⟩, ?_⟩))
    rw [pX, pX, Int.toNat_natCast, Int.toNat_natCast, zqs s6.symm (by omega)]
    refine (nC _ _ _ _ _ _ (by rw [List.length_drop]; omega)).mono ?_
    rintro _ rfl
    exact ⟨_, rfl, bA (by simp) aw⟩
   ·rw [if_neg c2]
    refine bB (by simp only [aX, Bool.or_eq_true, decide_eq_true_eq, gt_iff_lt]; omega) (bB (by simpa using c1) (bB (by simpa using c2) (bA (by simp) aw)))
 ·rw [if_neg hv] at hx
  subst hx
  exact ⟨_, rfl, rfl, _, rfl, _, _, _, rfl, _, rfl, _, rfl, rfl, _, rfl, _, rfl, _, rfl, _, rfl, _, rfl, bA rfl aw⟩
theorem zqv (n f : Bool) (l : List Int) (hr : R32 l) (i j : Int) (n2 f2 : Bool) (ins : List Int) (hr2 : R32 ins) : PCall Tryz.prog 11 [.sl n f (aA l), .int .i64 i, .int .i64 j, .sl n2 f2 (aA ins)] fun v => v = .bool true := by
 refine zqm _ _ _ _ _ _ _ _ ?_; unfold zgx
 refine (nA n f l 80 (by omega)).mono ?_
 rintro _ ⟨n1, f1, rfl⟩
 refine ⟨_, _, _, rfl, ?_⟩
 refine (nA n2 f2 ins 40 (by omega)).mono ?_
 rintro _ ⟨n3, f3, rfl⟩
 refine ⟨_, _, _, rfl, ?_⟩
 refine p42.mono ?_
 rintro _ ⟨n4, f4, rfl⟩
 refine ⟨_, _, _, rfl, ?_⟩
 refine (yT n4 f4).mono fun t ht => ?_
 have ll := nE l 80
 have li := nE ins 40
 have rl := hr.take 80
 have ri := hr2.take 40
 generalize l.take 80 = l at *
 generalize ins.take 40 = ins at *
 have aw : PCall Tryz.prog 36 [] fun v => ∃ b : Bool, v = .bool b /\ PV.bool b = .bool true := awake16.mono fun v h => ⟨true, h, rfl⟩
 refine (zC tI yS m9 ht _ _ _ _ l ins rl (by omega) ri (by omega) i j).mono ?_
 intro x hx
 by_cases hv : (0 <= i /\ i <= j) /\ j <= (l.length : Int)
 ·rw [if_pos hv] at hx
  obtain ⟨n5, f5, rfl⟩ := hx
  obtain ⟨s1, s2, s3, s4, s5, s6⟩ := zD tab l (i := i.toNat) (j := j.toNat) ins (by omega) (by omega)
  have hml := tR tab l i.toNat j.toNat ins
  have hnl := tM m9 (dN tab l i.toNat j.toNat ins)
  refine ⟨_, rfl, rfl, _, rfl, _, _, _, rfl, _, rfl, _, rfl, rfl, _, rfl, _, rfl, _, rfl, _, rfl, _, rfl, bB (by simp) ?_⟩
  obtain ⟨j, rfl⟩ := Int.eq_ofNat_of_zero_le (show 0 <= j by omega)
  rw [Int.toNat_natCast] at *
  generalize hS : kO tab l i.toNat j ins = S at *
  generalize hm : (gJ tab (dN tab l i.toNat j ins)).length = m at *
  generalize bX tab l i.toNat = a at *
  generalize cG tab l j (l.length - j) = b at *
  refine (zqo _ _ _ _ l S (by omega) (by omega) a b (a + m) j (by omega) (by omega) (by omega) s2 (by omega) s6.symm).mono ?_
  rintro _ ⟨x, y, rfl, p1, p2, p3, p4, p5, p6, p7⟩
  refine ⟨_, rfl, bB (by simp only [decide_eq_true_eq]; omega) ?_⟩
  have w1 : i64.wrap (((aA S).length : Int) - (y : Int)) = (l.length : Int) - x := by rw [aX, aD (by omega) (by omega)]; omega
  have w2 : i64.wrap (((aA l).length : Int) - (j : Int)) = (l.length : Int) - j := by rw [aX, aD (by omega) (by omega)]
  have w3 : i64.wrap (((aA l).length : Int) - ((l.length : Int) - x)) = x := by rw [aX, aD (by omega) (by omega)]; omega
  rw [w1, w2, w3]
  refine bB (by simp only [Bool.or_eq_true, decide_eq_true_eq, gt_iff_lt]; omega) ⟨⟨nH (by omega) (by rw [aX]; omega), cU _⟩, ⟨nH (by omega) (by rw [aX]; omega), cU _⟩, ?_⟩
  rw [pX, pX, Int.toNat_natCast, Int.toNat_natCast, p6]
  refine (nC _ _ _ _ _ _ (by rw [List.length_drop]; omega)).mono ?_
  rintro _ rfl
  refine ⟨_, rfl, bB (by simp) (aF (fun _ => aw) (fun hc => ?_))⟩
  simp only [Bool.or_eq_true, beq_iff_eq] at hc
  have at1 : ∀ {M : List Int} {k : Nat}, k < M.length -> aU (aA M) (k : Int) 1 /\ (aA M).getD (k : Int).toNat [] = [.int .i32 (M.getD k 0)] := fun {M k} hk => by
   obtain ⟨g1, g2⟩ := gB (l := M) (i := (k : Int)) (by omega) (by omega)
   refine ⟨g1, ?_⟩
   rw [g2, nG hk]; simp
  have hwy : i64.wrap ((y : Int) - 1) = ((y - 1 : Nat) : Int) := by rw [aD (by omega) (by omega)]; omega
  have hwx : i64.wrap ((x : Int) - 1) = ((x - 1 : Nat) : Int) := by rw [aD (by omega) (by omega)]; omega
  rw [hwy, hwx]
  obtain ⟨g1, g2⟩ := at1 (M := S) (k := y - 1) (by omega)
  obtain ⟨g3, g4⟩ := at1 (M := l) (k := x - 1) (by omega)
  refine ⟨g1, S.getD (y - 1) 0, by rw [g2]; rfl, g3, l.getD (x - 1) 0, by rw [g4]; rfl, bA ?_ aw⟩
  have : l.getD (x - 1) 0 ≠ S.getD (y - 1) 0 := (p7.resolve_left (by omega)).resolve_left (by omega)
  simpa using fun e => this e.symm
 ·rw [if_neg hv] at hx
  subst hx
  exact ⟨_, rfl, rfl, _, rfl, _, _, _, rfl, _, rfl, _, rfl, rfl, _, rfl, _, rfl, _, rfl, _, rfl, _, rfl, bA rfl aw⟩
theorem zg0 {S : List Int} {a c : Nat} (h1 : a <= c) (h2 : c <= S.length) : (bM S a c).length = c - a := by unfold bM; rw [List.length_drop, List.length_take]; omega
theorem zqw (n f : Bool) (l : List Int) (hr : R32 l) (i j : Int) (n2 f2 : Bool) (ins : List Int) (hr2 : R32 ins) : PCall Tryz.prog 10 [.sl n f (aA l), .int .i64 i, .int .i64 j, .sl n2 f2 (aA ins)] fun v => v = .bool true := by
 refine zqn _ _ _ _ _ _ _ _ ?_; unfold zgy
 refine (nA n f l 80 (by omega)).mono ?_
 rintro _ ⟨n1, f1, rfl⟩
 refine ⟨_, _, _, rfl, ?_⟩
 refine (nA n2 f2 ins 40 (by omega)).mono ?_
 rintro _ ⟨n3, f3, rfl⟩
 refine ⟨_, _, _, rfl, ?_⟩
 refine p42.mono ?_
 rintro _ ⟨n4, f4, rfl⟩
 refine ⟨_, _, _, rfl, ?_⟩
 refine (yT n4 f4).mono fun t ht => ?_
 have ll := nE l 80
 have li := nE ins 40
 have rl := hr.take 80
 have ri := hr2.take 40
 generalize l.take 80 = l at *
 generalize ins.take 40 = ins at *
 have aw : PCall Tryz.prog 36 [] fun v => ∃ b : Bool, v = .bool b /\ PV.bool b = .bool true := awake16.mono fun v h => ⟨true, h, rfl⟩
 refine (zC tI yS m9 ht _ _ _ _ l ins rl (by omega) ri (by omega) i j).mono ?_
 intro x hx
 by_cases hv : (0 <= i /\ i <= j) /\ j <= (l.length : Int)
 ·rw [if_pos hv] at hx
  obtain ⟨n5, f5, rfl⟩ := hx
  obtain ⟨s1, s2, s3, s4, s5, s6⟩ := zD tab l (i := i.toNat) (j := j.toNat) ins (by omega) (by omega)
  have hml := tR tab l i.toNat j.toNat ins
  have hnl := tM m9 (dN tab l i.toNat j.toNat ins)
  refine ⟨_, rfl, rfl, _, rfl, _, _, _, rfl, _, rfl, _, rfl, rfl, _, rfl, _, rfl, _, rfl, _, rfl, _, rfl, bB (by simp) ?_⟩
  generalize hS : kO tab l i.toNat j.toNat ins = S at *
  generalize hm : (gJ tab (dN tab l i.toNat j.toNat ins)).length = m at *
  generalize bX tab l i.toNat = a at *
  generalize cG tab l j.toNat (l.length - j.toNat) = b at *
  have z1 := zg0 (S := l) (a := a) (c := b) (by omega) s3
  have z2 := zg0 (S := S) (a := a) (c := a + m) (by omega) (by omega)
  have E1 : l.take a ++ (bM S a (a + m) ++ l.drop b) = S := by
   rw [<- s5, <- s6, <- List.append_assoc, <- zge (by omega), List.take_append_drop]
  have E2 : S.take a ++ (bM l a b ++ S.drop (a + m)) = l := by
   rw [s5, s6, <- List.append_assoc, <- zge (by omega), List.take_append_drop]
  refine (zgz _ _ _ _ l S (by omega) (by omega) a b (a + m) (by omega) s3 (by omega) (by omega)).mono ?_
  rintro _ ⟨n6, f6, n7, f7, rfl⟩
  refine ⟨_, rfl, rfl, _, rfl, _, _, _, rfl, _, _, _, rfl, ?_⟩
  refine (zI _ _ _ _ _ _ a (bM l a b) (bM S a (a + m)) l (by omega) (by omega) (by omega) (by rw [z1, show a + (b - a) = b by omega])).mono ?_
  rintro _ ⟨n8, f8, rfl⟩
  refine ⟨_, rfl, rfl, _, rfl, _, _, _, rfl, _, rfl, _, rfl, ?_⟩
  refine (zqq _ _ _ _ _ _ _).mono ?_
  rintro _ rfl
  refine ⟨_, rfl, rfl, _, rfl, _, _, _, rfl, _, _, _, rfl, ?_⟩
  refine (zI _ _ _ _ _ _ a (bM S a (a + m)) (bM l a b) S (by omega) (by omega) (by omega) (by rw [z2, show a + (a + m - a) = a + m by omega])).mono ?_
  rintro _ ⟨n9, f9, rfl⟩
  refine ⟨_, rfl, rfl, _, rfl, _, _, _, rfl, _, rfl, _, rfl, bA rfl ?_⟩
  rw [z1, z2, show a + (b - a) = b by omega, show a + (a + m - a) = a + m by omega, E1, E2]
  refine (nC _ _ _ _ _ _ (by omega)).mono ?_
  rintro _ rfl
  refine ⟨_, rfl, bA (by simp) ?_⟩
  refine (nC _ _ _ _ _ _ (by omega)).mono ?_
  rintro _ rfl
  refine ⟨_, rfl, bA (by simp) ?_⟩
  refine (zqp _ _ _ _ _ _ _ (by omega) (by omega) (by omega)).mono ?_
  rintro _ rfl
  refine ⟨_, rfl, rfl, _, rfl, _, rfl, _, rfl, bA ?_ aw⟩
  rw [z1, z2, show (a : Int) + ((b - a : Nat) : Int) = b by omega, show (a : Int) + ((a + m - a : Nat) : Int) = ((a + m : Nat) : Int) by omega]
  simp
 ·rw [if_neg hv] at hx
  subst hx
  exact ⟨_, rfl, rfl, _, rfl, _, _, _, rfl, _, rfl, _, rfl, rfl, _, rfl, _, rfl, _, rfl, _, rfl, _, rfl, bA rfl aw⟩
theorem lawShiftKeeps {pvs : List PV} (h : jB Tryz.prog 8 Tryz.f9.params.toList pvs) : PCall Tryz.prog 9 pvs fun v => v = .bool true := by
 obtain ⟨v0, r0, rfl, h0, v1, r1, rfl, h1, v2, r2, rfl, h2, v3, r3, rfl, h3, v4, r4, rfl, h4, rfl⟩ : jB Tryz.prog 8 [23, 3, 3, 23, 3] pvs := h
 obtain ⟨nl, l, rfl, hr⟩ := nB h0
 obtain ⟨i, rfl⟩ := l5 h1
 obtain ⟨j, rfl⟩ := l5 h2
 obtain ⟨nl2, l2, rfl, hr2⟩ := nB h3
 obtain ⟨k, rfl⟩ := l5 h4
 exact zqu _ _ l hr i j _ _ l2 hr2 k
theorem lawShiftAfter {pvs : List PV} (h : jB Tryz.prog 8 Tryz.f11.params.toList pvs) : PCall Tryz.prog 11 pvs fun v => v = .bool true := by
 obtain ⟨v0, r0, rfl, h0, v1, r1, rfl, h1, v2, r2, rfl, h2, v3, r3, rfl, h3, rfl⟩ : jB Tryz.prog 8 [23, 3, 3, 23] pvs := h
 obtain ⟨nl, l, rfl, hr⟩ := nB h0
 obtain ⟨i, rfl⟩ := l5 h1
 obtain ⟨j, rfl⟩ := l5 h2
 obtain ⟨nl2, l2, rfl, hr2⟩ := nB h3
 exact zqv _ _ l hr i j _ _ l2 hr2
theorem lawShiftEdits {pvs : List PV} (h : jB Tryz.prog 8 Tryz.f10.params.toList pvs) : PCall Tryz.prog 10 pvs fun v => v = .bool true := by
 obtain ⟨v0, r0, rfl, h0, v1, r1, rfl, h1, v2, r2, rfl, h2, v3, r3, rfl, h3, rfl⟩ : jB Tryz.prog 8 [23, 3, 3, 23] pvs := h
 obtain ⟨nl, l, rfl, hr⟩ := nB h0
 obtain ⟨i, rfl⟩ := l5 h1
 obtain ⟨j, rfl⟩ := l5 h2
 obtain ⟨nl2, l2, rfl, hr2⟩ := nB h3
 exact zqw _ _ l hr i j _ _ l2 hr2
end Go.Eng


