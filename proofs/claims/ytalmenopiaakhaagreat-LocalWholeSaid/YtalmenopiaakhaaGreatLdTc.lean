/- States run over the code: what each function gives, and what follows. -/
import Derived.Test.YtalmenopiaakhaaGreatLdTb
open Go.IntKind (i64 i32)
set_option linter.unusedVariables false
set_option linter.unusedSimpArgs false
set_option maxRecDepth 100000
set_option linter.constructorNameAsVariable false
namespace Go.Eng
open Go Go.Proofs Go.Eng.Rows Go.Eng.Srt
def iY (key : Int -> Int) (nl : Bool) (T : PV) (P S R : List Int) (r : LV) (h' : Hp) : Prop := ∃ S' : List Int, r = .tup [] /\ h' = [.sl (21, 1) false nl (aA (P ++ (S' ++ R))), .box [.pv T]] /\ Srtd key S' /\ Stab key S S'
section
variable {key : Int -> Int} {T : PV}
theorem qE {i j : Int} (h0 : 0 <= i) (h1 : i <= j) (h2 : j <= 1000000000000) : i64.wrap ((IntKind.u64.wrap (i64.wrap (i + j))).fdiv (2 ^ 1)) = (i + j) / 2 := zfa h0 h1 (by omega)
theorem zqe (hc : iX T key) (lo hi : Nat) (nl : Bool) (P Y R : List Int) (x : Int) (a m b : Int) (ha : 0 <= a) (hP : P.length = lo + a.toNat) (hm : m = a + 1) (hb : b = m + Y.length) (hhi : (lo : Int) + b <= hi) (hr : R32 (P ++ ([x] ++ (Y ++ R)))) (hlen : hi < 1000000000000) (hY : Srtd key Y) :
 ACall Tryz.prog 162 [.sub 0 lo hi, .pv (.int .i64 a), .pv (.int .i64 m), .pv (.int .i64 b), .fn 141 [.box 1 0]] [.sl (21, 1) false nl (aA (P ++ ([x] ++ (Y ++ R)))), .box [.pv T]] (iY key nl T P ([x] ++ Y) R) := by
 have hat : ∀ h : Int, m <= h -> h < b -> (P ++ ([x] ++ (Y ++ R)))[lo + h.toNat]? = some (Y.getD (h - m).toNat 0) := fun h h1 h2 => by
  have e : P ++ ([x] ++ (Y ++ R)) = (P ++ [x]) ++ (Y ++ R) := by simp
  rw [e, List.getElem?_append_right (by simp; omega), show lo + h.toNat - (P ++ [x]).length = (h - m).toNat by simp; omega, List.getElem?_append_left (by omega)]
  exact qD (by omega)
 have hax : (P ++ ([x] ++ (Y ++ R)))[lo + a.toNat]? = some x := by rw [<- hP]; exact nQ P (Y ++ R) x
 refine xI _ _ _ _ _ _ _ _
  (fun i j s => s = aA (P ++ ([x] ++ (Y ++ R))) /\ m <= i /\ i <= j /\ j <= b /\ (∀ h, m <= h -> h < i -> key (Y.getD (h - m).toNat 0) < key x) /\ (∀ h, j <= h -> h < b -> ¬ key (Y.getD (h - m).toNat 0) < key x)) (fun i j _ => (j - i).toNat)
  (fun i k s => m <= i /\ i <= b /\ (∀ h, m <= h -> h < i -> key (Y.getD (h - m).toNat 0) < key x) /\ (∀ h, i <= h -> h < b -> ¬ key (Y.getD (h - m).toNat 0) < key x) /\ a <= k /\ k <= i - 1 /\ s = aA (P ++ (Y.take (k - a).toNat ++ (x :: (Y.drop (k - a).toNat ++ R))))) (fun i k _ => (i - 1 - k).toNat)
  (fun _ _ _ => True) (fun _ _ _ => 0) (fun _ _ _ => True) (fun _ _ _ => 0) (fun _ _ _ => True) (fun _ _ _ => 0) ?_
 unfold tD
 have w1 : i64.wrap (m - a) = 1 := by rw [aD (by omega) (by omega)]; omega
 refine a8 (by rw [w1]; rfl) ⟨⟨rfl, rfl, Int.le_refl _, by omega, Int.le_refl _, fun h h1 h2 => by omega, fun h h1 h2 => by omega⟩, ?_⟩
 rintro i j _ ⟨rfl, i0, hij, hjb, hlt, hge⟩
 refine aF (fun hc1 => ?_) (fun hc1 => ?_)
 ·simp only [decide_eq_true_eq] at hc1
  rw [qE (by omega) (by omega) (by omega)]
  obtain ⟨h, hh⟩ : ∃ h, h = (i + j) / 2 := ⟨_, rfl⟩
  rw [<- hh]
  have b1 : i <= h /\ h < j := by omega
  have gy := hat h (by omega) (by omega)
  have wh : i64.wrap (h + 1) = h + 1 := aD (by omega) (by omega)
  rw [wh]
  refine ⟨⟨by omega, by omega, by rw [dB gy]; rfl⟩, _, by rw [dB gy]; rfl, ⟨by omega, by omega, by rw [dB hax]; rfl⟩, x, by rw [dB hax]; rfl, ?_⟩
  refine (hc _ x (kY hr gy) (kY hr hax)).mono ?_
  rintro _ ⟨n2, rfl, hn2⟩
  refine ⟨n2, rfl, rfl, aF (fun hl => ?_) (fun hl => ?_)⟩
  ·simp only [decide_eq_true_eq] at hl
   have hk := hn2.1 hl
   refine ⟨rfl, ⟨rfl, by omega, by omega, by omega, fun q q1 q2 => ?_, hge⟩, by dsimp only; omega⟩
   have := hY.get (i := (q - m).toNat) (j := (h - m).toNat) (by omega) (by omega)
   omega
  ·simp only [decide_eq_true_eq] at hl
   have hk : ¬ key (Y.getD (h - m).toNat 0) < key x := fun h => hl (hn2.2 h)
   refine ⟨rfl, ⟨rfl, by omega, by omega, by omega, hlt, fun q q1 q2 => ?_⟩, by dsimp only; omega⟩
   have := hY.get (i := (h - m).toNat) (j := (q - m).toNat) (by omega) (by omega)
   omega
 ·simp only [decide_eq_true_eq] at hc1
  have : i = j := by omega
  subst this
  refine ⟨⟨rfl, i0, hjb, hlt, hge, Int.le_refl _, by omega, by simp⟩, ?_⟩
  clear hc1 hij hjb hlt hge i0
  rintro i k _ ⟨i0, ib, hlt, hge, k0, k1, rfl⟩
  have wi : i64.wrap (i - 1) = i - 1 := aD (by omega) (by omega)
  rw [wi]
  refine aF (fun hc2 => ?_) (fun hc2 => ?_)
  ·simp only [decide_eq_true_eq] at hc2
   have wk : i64.wrap (k + 1) = k + 1 := aD (by omega) (by omega)
   rw [wk]
   have hlk : (k - a).toNat < Y.length := by omega
   have hn : (k + 1 - a).toNat = (k - a).toNat + 1 := by omega
   have dy : Y.drop (k - a).toNat = Y[(k - a).toNat] :: Y.drop ((k - a).toNat + 1) := List.drop_eq_getElem_cons hlk
   have ty : Y.take ((k - a).toNat + 1) = Y.take (k - a).toNat ++ [Y[(k - a).toNat]] := c9 hlk
   have lt : (Y.take (k - a).toNat).length = (k - a).toNat := by rw [List.length_take]; omega
   obtain ⟨D, hDe⟩ : ∃ D, D = P ++ (Y.take (k - a).toNat ++ (x :: (Y.drop (k - a).toNat ++ R))) := ⟨_, rfl⟩
   have hRD : R32 D := fun y hy => hr y (by
    rw [hDe] at hy
    simp only [List.mem_append, List.mem_cons] at hy ⊢
    rcases hy with hy | hy | hy | hy | hy
    ·exact .inl hy
    ·exact .inr (.inr (.inl (List.mem_of_mem_take hy)))
    ·exact .inr (.inl (by simp [hy]))
    ·exact .inr (.inr (.inl (List.mem_of_mem_drop hy)))
    ·exact .inr (.inr (.inr hy)))
   rw [<- hDe]
   have hD : D = (P ++ Y.take (k - a).toNat) ++ x :: Y[(k - a).toNat] :: (Y.drop ((k - a).toNat + 1) ++ R) := by rw [hDe, dy]; simp only [List.append_assoc, List.cons_append, List.nil_append]
   have hk0 : lo + k.toNat = (P ++ Y.take (k - a).toNat).length := by rw [List.length_append, lt]; omega
   have hk1 : lo + (k + 1).toNat = (P ++ Y.take (k - a).toNat).length + 1 := by rw [List.length_append, lt]; omega
   have gx : D[lo + k.toNat]? = some x := by rw [hD, hk0, nQ]
   have gy : D[lo + (k + 1).toNat]? = some Y[(k - a).toNat] := by rw [hD, hk1, List.getElem?_append_right (by omega)]; simp
   have hsw : (D.set (lo + k.toNat) Y[(k - a).toNat]).set (lo + (k + 1).toNat) x = P ++ (Y.take (k + 1 - a).toNat ++ (x :: (Y.drop (k + 1 - a).toNat ++ R))) := by
    rw [hD, hk0, hk1, zqa, hn, ty]; simp only [List.append_assoc, List.cons_append, List.nil_append]
   obtain ⟨t1, t2, t3, t4⟩ := tZ D gx gy (by omega) Y[(k - a).toNat] x
   rw [hsw] at t1
   have hla : 1 <= ((aA D).getD (lo + k.toNat) []).length := by rw [t2]; exact Nat.le_refl _
   refine ⟨⟨by omega, by omega, t3⟩, Y[(k - a).toNat], by rw [dB gy]; rfl, ⟨by omega, by omega, t2⟩, x, by rw [dB gx]; rfl, ⟨by omega, by omega, t2⟩, ?_⟩
   refine ⟨?_, ?_⟩
   all_goals exact ⟨⟨rfl, hla⟩, ⟨by omega, by omega, t4⟩, ⟨rfl, by rw [t4]; exact Nat.le_refl _⟩, rfl, ⟨i0, ib, hlt, hge, by omega, by omega, t1⟩, by dsimp only; omega⟩
  ·simp only [decide_eq_true_eq] at hc2
   have hk : (k - a).toNat = (i - m).toNat := by omega
   rw [hk]
   have h1 : ∀ y ∈ Y.take (i - m).toNat, key y < key x := fun y hy => by
    obtain ⟨q, hq, rfl⟩ := kZ hy
    rw [List.length_take] at hq
    have e : (Y.take (i - m).toNat).getD q 0 = Y.getD q 0 := by simp only [List.getD]; rw [List.getElem?_take_of_lt (by omega)]
    rw [e]
    have := hlt (m + q) (by omega) (by omega)
    rwa [show (m + (q : Int) - m).toNat = q by omega] at this
   have h2 : ∀ y ∈ Y.drop (i - m).toNat, key x <= key y := fun y hy => by
    obtain ⟨q, hq, rfl⟩ := kZ hy
    rw [List.length_drop] at hq
    have e : (Y.drop (i - m).toNat).getD q 0 = Y.getD ((i - m).toNat + q) 0 := by simp only [List.getD, List.getElem?_drop]
    rw [e]
    have := hge (i + q) (by omega) (by omega)
    rw [show (i + (q : Int) - m).toNat = (i - m).toNat + q by omega] at this
    omega
   have hYs : Srtd key (Y.take (i - m).toNat ++ Y.drop (i - m).toNat) := by rw [List.take_append_drop]; exact hY
   refine ⟨Y.take (i - m).toNat ++ x :: Y.drop (i - m).toNat, rfl, by simp, zgz hYs (fun y hy => Int.le_of_lt (h1 y hy)) h2, ?_⟩
   have := Stab.rot1 (key := key) (u := []) (v := Y.drop (i - m).toNat) (a := [x]) (b := Y.take (i - m).toNat) (fun p hp q hq => by simp at hp; subst hp; have := h1 q hq; omega)
   simpa using this
end
end Go.Eng



namespace Go.Eng
open Go Go.Proofs Go.Eng.Rows Go.Eng.Srt
section
variable {key : Int -> Int} {T : PV}
theorem zqf (hc : iX T key) (lo hi : Nat) (nl : Bool) (P X R : List Int) (y : Int) (a m b : Int) (ha : 0 <= a) (hP : P.length = lo + a.toNat) (hm : m = a + X.length) (hX1 : X.length ≠ 1) (hb : b = m + 1) (hhi : (lo : Int) + b <= hi) (hr : R32 (P ++ (X ++ ([y] ++ R)))) (hlen : hi < 1000000000000) (hX : Srtd key X) :
 ACall Tryz.prog 162 [.sub 0 lo hi, .pv (.int .i64 a), .pv (.int .i64 m), .pv (.int .i64 b), .fn 141 [.box 1 0]] [.sl (21, 1) false nl (aA (P ++ (X ++ ([y] ++ R)))), .box [.pv T]] (iY key nl T P (X ++ [y]) R) := by
 have hat : ∀ h : Int, a <= h -> h < m -> (P ++ (X ++ ([y] ++ R)))[lo + h.toNat]? = some (X.getD (h - a).toNat 0) := fun h h1 h2 => by
  rw [List.getElem?_append_right (by omega), show lo + h.toNat - P.length = (h - a).toNat by omega, List.getElem?_append_left (by omega)]
  exact qD (by omega)
 have hay : (P ++ (X ++ ([y] ++ R)))[lo + m.toNat]? = some y := by
  have e : P ++ (X ++ ([y] ++ R)) = (P ++ X) ++ y :: R := by simp
  rw [e, show lo + m.toNat = (P ++ X).length by simp; omega, nQ]
 refine xI _ _ _ _ _ _ _ _
  (fun _ _ _ => True) (fun _ _ _ => 0) (fun _ _ _ => True) (fun _ _ _ => 0)
  (fun i j s => s = aA (P ++ (X ++ ([y] ++ R))) /\ a <= i /\ i <= j /\ j <= m /\ (∀ h, a <= h -> h < i -> ¬ key y < key (X.getD (h - a).toNat 0)) /\ (∀ h, j <= h -> h < m -> key y < key (X.getD (h - a).toNat 0))) (fun i j _ => (j - i).toNat)
  (fun i k s => a <= i /\ i <= m /\ (∀ h, a <= h -> h < i -> ¬ key y < key (X.getD (h - a).toNat 0)) /\ (∀ h, i <= h -> h < m -> key y < key (X.getD (h - a).toNat 0)) /\ i <= k /\ k <= m /\ s = aA (P ++ (X.take (k - a).toNat ++ (y :: (X.drop (k - a).toNat ++ R))))) (fun i k _ => (k - i).toNat)
  (fun _ _ _ => True) (fun _ _ _ => 0) ?_
 unfold tD
 have w1 : i64.wrap (m - a) = X.length := by rw [aD (by omega) (by omega)]; omega
 have w2 : i64.wrap (b - m) = 1 := by rw [aD (by omega) (by omega)]; omega
 refine bC (by rw [w1]; simp; omega) (a8 (by rw [w2]; rfl) ⟨⟨rfl, rfl, Int.le_refl _, by omega, Int.le_refl _, fun h h1 h2 => by omega, fun h h1 h2 => by omega⟩, ?_⟩)
 rintro i j _ ⟨rfl, i0, hij, hjb, hlt, hge⟩
 refine aF (fun hc1 => ?_) (fun hc1 => ?_)
 ·simp only [decide_eq_true_eq] at hc1
  rw [qE (by omega) (by omega) (by omega)]
  obtain ⟨h, hh⟩ : ∃ h, h = (i + j) / 2 := ⟨_, rfl⟩
  rw [<- hh]
  have b1 : i <= h /\ h < j := by omega
  have gx := hat h (by omega) (by omega)
  have wh : i64.wrap (h + 1) = h + 1 := aD (by omega) (by omega)
  rw [wh]
  refine ⟨⟨by omega, by omega, by rw [dB hay]; rfl⟩, y, by rw [dB hay]; rfl, ⟨by omega, by omega, by rw [dB gx]; rfl⟩, _, by rw [dB gx]; rfl, ?_⟩
  refine (hc y _ (kY hr hay) (kY hr gx)).mono ?_
  rintro _ ⟨n2, rfl, hn2⟩
  refine ⟨n2, rfl, rfl, aF (fun hl => ?_) (fun hl => ?_)⟩
  ·simp only [Bool.not_eq_true', decide_eq_false_iff_not] at hl
   have hk : ¬ key y < key (X.getD (h - a).toNat 0) := fun h => hl (hn2.2 h)
   refine ⟨rfl, ⟨rfl, by omega, by omega, by omega, fun q q1 q2 => ?_, hge⟩, by dsimp only; omega⟩
   have := hX.get (i := (q - a).toNat) (j := (h - a).toNat) (by omega) (by omega)
   omega
  ·simp only [Bool.not_eq_true', decide_eq_false_iff_not, Decidable.not_not] at hl
   have hk := hn2.1 hl
   refine ⟨rfl, ⟨rfl, by omega, by omega, by omega, hlt, fun q q1 q2 => ?_⟩, by dsimp only; omega⟩
   have := hX.get (i := (h - a).toNat) (j := (q - a).toNat) (by omega) (by omega)
   omega
 ·simp only [decide_eq_true_eq] at hc1
  have : i = j := by omega
  subst this
  have hml : (m - a).toNat = X.length := by omega
  refine ⟨⟨rfl, i0, hjb, hlt, hge, by omega, Int.le_refl _, by rw [hml]; simp⟩, ?_⟩
  clear hc1 hij hjb hlt hge i0
  rintro i k _ ⟨i0, ib, hlt, hge, k0, k1, rfl⟩
  refine aF (fun hc2 => ?_) (fun hc2 => ?_)
  ·simp only [decide_eq_true_eq, gt_iff_lt] at hc2
   have wk : i64.wrap (k - 1) = k - 1 := aD (by omega) (by omega)
   rw [wk]
   have hlk : (k - 1 - a).toNat < X.length := by omega
   have hn : (k - a).toNat = (k - 1 - a).toNat + 1 := by omega
   have dx : X.drop (k - 1 - a).toNat = X[(k - 1 - a).toNat] :: X.drop ((k - 1 - a).toNat + 1) := List.drop_eq_getElem_cons hlk
   have tx : X.take ((k - 1 - a).toNat + 1) = X.take (k - 1 - a).toNat ++ [X[(k - 1 - a).toNat]] := c9 hlk
   have lt : (X.take (k - 1 - a).toNat).length = (k - 1 - a).toNat := by rw [List.length_take]; omega
   obtain ⟨D, hDe⟩ : ∃ D, D = P ++ (X.take (k - a).toNat ++ (y :: (X.drop (k - a).toNat ++ R))) := ⟨_, rfl⟩
   have hRD : R32 D := fun z hz => hr z (by
    rw [hDe] at hz
    simp only [List.mem_append, List.mem_cons] at hz ⊢
    rcases hz with hz | hz | hz | hz | hz
    ·exact .inl hz
    ·exact .inr (.inl (List.mem_of_mem_take hz))
    ·exact .inr (.inr (.inl (by simp [hz])))
    ·exact .inr (.inl (List.mem_of_mem_drop hz))
    ·exact .inr (.inr (.inr hz)))
   rw [<- hDe]
   have hD : D = (P ++ X.take (k - 1 - a).toNat) ++ X[(k - 1 - a).toNat] :: y :: (X.drop ((k - 1 - a).toNat + 1) ++ R) := by rw [hDe, hn, tx]; simp only [List.append_assoc, List.cons_append, List.nil_append]
   have hk0 : lo + (k - 1).toNat = (P ++ X.take (k - 1 - a).toNat).length := by rw [List.length_append, lt]; omega
   have hk1 : lo + k.toNat = (P ++ X.take (k - 1 - a).toNat).length + 1 := by rw [List.length_append, lt]; omega
   have gx : D[lo + (k - 1).toNat]? = some X[(k - 1 - a).toNat] := by rw [hD, hk0, nQ]
   have gy : D[lo + k.toNat]? = some y := by rw [hD, hk1, List.getElem?_append_right (by omega)]; simp
   have hsw : (D.set (lo + k.toNat) X[(k - 1 - a).toNat]).set (lo + (k - 1).toNat) y = P ++ (X.take (k - 1 - a).toNat ++ (y :: (X.drop (k - 1 - a).toNat ++ R))) := by
    rw [hD, hk0, hk1, zgw, dx]; simp only [List.append_assoc, List.cons_append, List.nil_append]
   obtain ⟨t1, t2, t3, t4⟩ := tZ D gy gx (by omega) X[(k - 1 - a).toNat] y
   rw [hsw] at t1
   have hla : 1 <= ((aA D).getD (lo + k.toNat) []).length := by rw [t2]; exact Nat.le_refl _
   refine ⟨⟨by omega, by omega, t3⟩, X[(k - 1 - a).toNat], by rw [dB gx]; rfl, ⟨by omega, by omega, t2⟩, y, by rw [dB gy]; rfl, ⟨by omega, by omega, t2⟩, ?_⟩
   refine ⟨?_, ?_⟩
   all_goals exact ⟨⟨rfl, hla⟩, ⟨by omega, by omega, t4⟩, ⟨rfl, by rw [t4]; exact Nat.le_refl _⟩, rfl, ⟨i0, ib, hlt, hge, by omega, by omega, t1⟩, by dsimp only; omega⟩
  ·simp only [decide_eq_true_eq, gt_iff_lt] at hc2
   have hk : k = i := by omega
   subst hk
   have h1 : ∀ z ∈ X.take (k - a).toNat, key z <= key y := fun z hz => by
    obtain ⟨q, hq, rfl⟩ := kZ hz
    rw [List.length_take] at hq
    have e : (X.take (k - a).toNat).getD q 0 = X.getD q 0 := by simp only [List.getD]; rw [List.getElem?_take_of_lt (by omega)]
    rw [e]
    have := hlt (a + q) (by omega) (by omega)
    rw [show (a + (q : Int) - a).toNat = q by omega] at this
    omega
   have h2 : ∀ z ∈ X.drop (k - a).toNat, key y < key z := fun z hz => by
    obtain ⟨q, hq, rfl⟩ := kZ hz
    rw [List.length_drop] at hq
    have e : (X.drop (k - a).toNat).getD q 0 = X.getD ((k - a).toNat + q) 0 := by simp only [List.getD, List.getElem?_drop]
    rw [e]
    have := hge (k + q) (by omega) (by omega)
    rwa [show (k + (q : Int) - a).toNat = (k - a).toNat + q by omega] at this
   have hXs : Srtd key (X.take (k - a).toNat ++ X.drop (k - a).toNat) := by rw [List.take_append_drop]; exact hX
   refine ⟨X.take (k - a).toNat ++ y :: X.drop (k - a).toNat, rfl, by simp, zgz hXs h1 (fun z hz => Int.le_of_lt (h2 z hz)), ?_⟩
   have := Stab.rot1 (key := key) (u := X.take (k - a).toNat) (v := []) (a := X.drop (k - a).toNat) (b := [y]) (fun p hp q hq => by simp at hq; subst hq; have := h2 p hp; omega)
   rw [<- List.append_assoc, List.take_append_drop] at this
   simpa using this
end
end Go.Eng



namespace Go.Eng
open Go Go.Proofs Go.Eng.Rows Go.Eng.Srt
section
variable {key : Int -> Int} {T : PV} (lo hi : Nat) (nl : Bool)
abbrev iZ (nl : Bool) (T : PV) (t : List (List PV)) : Hp := [.sl (21, 1) false nl t, .box [.pv T]]
abbrev zR (nl : Bool) (T : PV) (t : List (List PV)) (K : List (List PV) -> Prop) : LV -> Hp -> Prop := fun r h' => ∃ t1, (r = .tup [] /\ h' = iZ nl T t1) /\ (True /\ ((21, 1) = (21, 1) /\ nl = nl /\ t.length = t1.length) /\ True) /\ K t1
def t6 (T : PV) (mid e b : Int) (Q : LV -> Hp -> Prop) (t : List (List PV)) : Prop :=
 if (decide (mid < e) && decide (e < b)) = true then ACall Tryz.prog 162 [.sub 0 lo hi, .pv (.int .i64 mid), .pv (.int .i64 e), .pv (.int .i64 b), .fn 141 [.box 1 0]] (iZ nl T t) (zR nl T t fun t1 => Q (.tup []) (iZ nl T t1)) else Q (.tup []) (iZ nl T t)
def t7 (T : PV) (a s mid e b : Int) (Q : LV -> Hp -> Prop) (t : List (List PV)) : Prop :=
 if (decide (a < s) && decide (s < mid)) = true then ACall Tryz.prog 162 [.sub 0 lo hi, .pv (.int .i64 a), .pv (.int .i64 s), .pv (.int .i64 mid), .fn 141 [.box 1 0]] (iZ nl T t) (zR nl T t (t6 lo hi nl T mid e b Q)) else t6 lo hi nl T mid e b Q t
def zS (T : PV) (a s m mid e b : Int) (Q : LV -> Hp -> Prop) (t : List (List PV)) : Prop :=
 if (decide (s < m) && decide (m < e)) = true then ACall Tryz.prog 163 [.sub 0 lo hi, .pv (.int .i64 s), .pv (.int .i64 m), .pv (.int .i64 e), .fn 141 [.box 1 0]] (iZ nl T t) (zR nl T t (t7 lo hi nl T a s mid e b Q)) else t7 lo hi nl T a s mid e b Q t
theorem R32.of {l m : List Int} (h : R32 l) (hm : ∀ x ∈ m, x ∈ l) : R32 m := fun x hx => h x (hm x hx)
def zg0 (T : PV) (key : Int -> Int) (N : Int) : Prop := ∀ (P X Y R : List Int) (a m b : Int), 0 <= a -> P.length = lo + a.toNat -> m = a + X.length -> b = m + Y.length -> X ≠ [] -> Y ≠ [] -> (lo : Int) + b <= hi -> R32 (P ++ (X ++ (Y ++ R))) -> Srtd key X -> Srtd key Y -> b - a < N ->
 ACall Tryz.prog 162 [.sub 0 lo hi, .pv (.int .i64 a), .pv (.int .i64 m), .pv (.int .i64 b), .fn 141 [.box 1 0]] (iZ nl T (aA (P ++ (X ++ (Y ++ R))))) (iY key nl T P (X ++ Y) R)
theorem zqg {N : Int} (ih : zg0 lo hi nl T key N) (hlen : hi < 1000000000000) (P X1 X2 Y1 Y2 R : List Int) (a s m mid e b : Int) (ha : 0 <= a) (hP : P.length = lo + a.toNat) (h1 : s = a + X1.length) (h2 : m = s + X2.length) (h3 : e = m + Y1.length) (h4 : b = e + Y2.length) (h5 : mid = s + Y1.length)
 (hhi : (lo : Int) + b <= hi) (hr : R32 (P ++ (X1 ++ (X2 ++ (Y1 ++ (Y2 ++ R)))))) (hX : Srtd key (X1 ++ X2)) (hY : Srtd key (Y1 ++ Y2)) (f1 : ∀ x ∈ X2, ∀ y ∈ Y1, key y < key x) (f2 : ∀ x ∈ X1, ∀ y ∈ Y2, key x <= key y) (n1 : mid - a < N) (n2 : b - mid < N) :
 zS lo hi nl T a s m mid e b (iY key nl T P ((X1 ++ X2) ++ (Y1 ++ Y2)) R) (aA (P ++ (X1 ++ (X2 ++ (Y1 ++ (Y2 ++ R)))))) := by
 have hl1 : ∀ {u v : List Int}, u.length = v.length -> (aA u).length = (aA v).length := fun h => by simp [h]
 obtain ⟨x1, x2, x3⟩ := iG.1 hX
 obtain ⟨y1, y2, y3⟩ := iG.1 hY
 have t3 : ∀ S1 : List Int, Srtd key S1 -> Stab key (X1 ++ Y1) S1 -> t6 lo hi nl T mid e b (iY key nl T P ((X1 ++ X2) ++ (Y1 ++ Y2)) R) (aA (P ++ (S1 ++ (X2 ++ (Y2 ++ R))))) := fun S1 s1 k1 => by
  have kl := k1.len
  rw [List.length_append] at kl
  have fin : ∀ S2 : List Int, Srtd key S2 -> Stab key (X2 ++ Y2) S2 -> iY key nl T P ((X1 ++ X2) ++ (Y1 ++ Y2)) R (.tup []) (iZ nl T (aA (P ++ (S1 ++ (S2 ++ R))))) := fun S2 s2 k2 => by
   obtain ⟨c1, c2⟩ := zqd hX hY f1 f2 s1 k1 s2 k2
   exact ⟨S1 ++ S2, rfl, by simp, c1, c2⟩
  unfold t6
  refine aF (fun hc => ?_) (fun hc => ?_)
  ·simp only [Bool.and_eq_true, decide_eq_true_eq] at hc
   have nx : X2 ≠ [] := fun h => by subst h; simp at h2; omega
   have ny : Y2 ≠ [] := fun h => by subst h; simp at h4; omega
   have := ih (P ++ S1) X2 Y2 R mid e b (by omega) (by rw [List.length_append]; omega) (by omega) h4 nx ny hhi (hr.of fun x hx => by
    simp only [List.mem_append] at hx ⊢
    rcases hx with (hx | hx) | hx | hx | hx
    ·exact .inl hx
    ·rcases List.mem_append.1 (k1.mem.2 hx) with hx | hx
     ·exact .inr (.inl hx)
     ·exact .inr (.inr (.inr (.inl hx)))
    ·exact .inr (.inr (.inl hx))
    ·exact .inr (.inr (.inr (.inr (.inl hx))))
    ·exact .inr (.inr (.inr (.inr (.inr hx))))) x2 y2 n2
   rw [show P ++ (S1 ++ (X2 ++ (Y2 ++ R))) = (P ++ S1) ++ (X2 ++ (Y2 ++ R)) by simp]
   refine this.mono ?_
   rintro r h' ⟨S2, rfl, rfl, s2, k2⟩
   refine ⟨_, ⟨rfl, rfl⟩, ⟨trivial, ⟨rfl, rfl, hl1 ?_⟩, trivial⟩, ?_⟩
   ·have := k2.len
    simp only [List.length_append] at this ⊢; omega
   ·have := fin S2 s2 k2
    rw [<- List.append_assoc P] at this
    exact this
  ·simp only [Bool.and_eq_true, decide_eq_true_eq] at hc
   have hz : X2 = [] ∨ Y2 = [] := by
    rcases Nat.eq_zero_or_pos X2.length with h | h
    ·exact .inl (List.length_eq_zero_iff.1 h)
    ·exact .inr (List.length_eq_zero_iff.1 (by omega))
   have s2 : Srtd key (X2 ++ Y2) := by
    rcases hz with h | h
    ·subst h; exact y2
    ·subst h; simpa using x2
   have := fin (X2 ++ Y2) s2 (.refl _)
   rw [List.append_assoc X2 Y2] at this
   exact this
 have t2 : t7 lo hi nl T a s mid e b (iY key nl T P ((X1 ++ X2) ++ (Y1 ++ Y2)) R) (aA (P ++ (X1 ++ (Y1 ++ (X2 ++ (Y2 ++ R)))))) := by
  unfold t7
  refine aF (fun hc => ?_) (fun hc => ?_)
  ·simp only [Bool.and_eq_true, decide_eq_true_eq] at hc
   have nx : X1 ≠ [] := fun h => by subst h; simp at h1; omega
   have ny : Y1 ≠ [] := fun h => by subst h; simp at h5; omega
   refine (ih P X1 Y1 (X2 ++ (Y2 ++ R)) a s mid ha hP h1 h5 nx ny (by omega) (hr.of fun x hx => by
    simp only [List.mem_append] at hx ⊢
    rcases hx with hx | hx | hx | hx | hx | hx
    ·exact .inl hx
    ·exact .inr (.inl hx)
    ·exact .inr (.inr (.inr (.inl hx)))
    ·exact .inr (.inr (.inl hx))
    ·exact .inr (.inr (.inr (.inr (.inl hx))))
    ·exact .inr (.inr (.inr (.inr (.inr hx))))) x1 y1 n1).mono ?_
   rintro r h' ⟨S1, rfl, rfl, s1, k1⟩
   refine ⟨_, ⟨rfl, rfl⟩, ⟨trivial, ⟨rfl, rfl, hl1 ?_⟩, trivial⟩, t3 S1 s1 k1⟩
   have := k1.len
   simp only [List.length_append] at this ⊢; omega
  ·simp only [Bool.and_eq_true, decide_eq_true_eq] at hc
   have hz : X1 = [] ∨ Y1 = [] := by
    rcases Nat.eq_zero_or_pos X1.length with h | h
    ·exact .inl (List.length_eq_zero_iff.1 h)
    ·exact .inr (List.length_eq_zero_iff.1 (by omega))
   have s2 : Srtd key (X1 ++ Y1) := by
    rcases hz with h | h
    ·subst h; exact y1
    ·subst h; simpa using x1
   have := t3 (X1 ++ Y1) s2 (.refl _)
   rw [List.append_assoc X1 Y1] at this
   exact this
 unfold zS
 refine aF (fun hc => ?_) (fun hc => ?_)
 ·simp only [Bool.and_eq_true, decide_eq_true_eq] at hc
  have nx : X2 ≠ [] := fun h => by subst h; simp at h2; omega
  have ny : Y1 ≠ [] := fun h => by subst h; simp at h3; omega
  have := zqc (T := T) lo hi nl (P ++ X1) X2 Y1 (Y2 ++ R) s m e (by omega) (by rw [List.length_append]; omega) h2 h3 nx ny (by omega) hlen
  rw [show P ++ (X1 ++ (X2 ++ (Y1 ++ (Y2 ++ R)))) = (P ++ X1) ++ (X2 ++ (Y1 ++ (Y2 ++ R))) by simp]
  refine this.mono ?_
  rintro r h' ⟨rfl, rfl⟩
  refine ⟨_, ⟨rfl, rfl⟩, ⟨trivial, ⟨rfl, rfl, hl1 ?_⟩, trivial⟩, ?_⟩
  ·simp only [List.length_append]; omega
  ·rw [List.append_assoc P]; exact t2
 ·simp only [Bool.and_eq_true, decide_eq_true_eq] at hc
  have hz : X2 = [] ∨ Y1 = [] := by
   rcases Nat.eq_zero_or_pos X2.length with h | h
   ·exact .inl (List.length_eq_zero_iff.1 h)
   ·exact .inr (List.length_eq_zero_iff.1 (by omega))
  have e : P ++ (X1 ++ (X2 ++ (Y1 ++ (Y2 ++ R)))) = P ++ (X1 ++ (Y1 ++ (X2 ++ (Y2 ++ R)))) := by
   rcases hz with h | h <;> subst h <;> simp
  rw [e]; exact t2
end
end Go.Eng



namespace Go.Eng
open Go Go.Proofs Go.Eng.Rows Go.Eng.Srt
section
variable {key : Int -> Int} {T : PV}
theorem zg1 (hc : iX T key) (lo hi : Nat) (nl : Bool) (hlen : hi < 1000000000000) : ∀ N : Nat, zg0 lo hi nl T key N := by
 intro N
 induction N with
 | zero =>
   intro P X Y R a m b ha hP hm hb hx hy hhi hr hX hY hN
   omega
 | succ N ih =>
   intro P X Y R a m b ha hP hm hb hx hy hhi hr hX hY hN
   have hxl := List.length_pos_iff.2 hx
   have hyl := List.length_pos_iff.2 hy
   by_cases hx1 : X.length = 1
   ·obtain ⟨x, rfl⟩ := List.length_eq_one_iff.1 hx1
    exact zqe hc lo hi nl P Y R x a m b ha hP (by simpa using hm) hb hhi hr hlen hY
   by_cases hy1 : Y.length = 1
   ·obtain ⟨y, rfl⟩ := List.length_eq_one_iff.1 hy1
    exact zqf hc lo hi nl P X R y a m b ha hP hm hx1 (by simpa using hb) hhi hr hlen hX
   obtain ⟨mid, hmid⟩ : ∃ mid, mid = (a + b) / 2 := ⟨_, rfl⟩
   have hat : ∀ h : Int, a <= h -> h < m -> (P ++ (X ++ (Y ++ R)))[lo + h.toNat]? = some (X.getD (h - a).toNat 0) := fun h h1 h2 => by
    rw [List.getElem?_append_right (by omega), show lo + h.toNat - P.length = (h - a).toNat by omega, List.getElem?_append_left (by omega)]
    exact qD (by omega)
   have hbt : ∀ h : Int, m <= h -> h < b -> (P ++ (X ++ (Y ++ R)))[lo + h.toNat]? = some (Y.getD (h - m).toNat 0) := fun h h1 h2 => by
    rw [<- List.append_assoc, List.getElem?_append_right (by rw [List.length_append]; omega), show lo + h.toNat - (P ++ X).length = (h - m).toNat by rw [List.length_append]; omega, List.getElem?_append_left (by omega)]
    exact qD (by omega)
   obtain ⟨s0, hs0⟩ : ∃ s0, s0 = if m > mid then mid + m - b else a := ⟨_, rfl⟩
   obtain ⟨r0, hr0⟩ : ∃ r0, r0 = if m > mid then mid else m := ⟨_, rfl⟩
   have rng : a <= s0 /\ s0 <= r0 /\ r0 <= m /\ mid + m - s0 <= b /\ m <= mid + m - r0 := by
    rw [hs0, hr0]; split <;> omega
   refine xI _ _ _ _ _ _ _ _
    (fun _ _ _ => True) (fun _ _ _ => 0) (fun _ _ _ => True) (fun _ _ _ => 0) (fun _ _ _ => True) (fun _ _ _ => 0) (fun _ _ _ => True) (fun _ _ _ => 0)
    (fun i j s => s = aA (P ++ (X ++ (Y ++ R))) /\ s0 <= i /\ i <= j /\ j <= r0 /\ (∀ c, s0 <= c -> c < i -> ¬ key (Y.getD (mid - 1 - c).toNat 0) < key (X.getD (c - a).toNat 0)) /\ (∀ c, j <= c -> c < r0 -> key (Y.getD (mid - 1 - c).toNat 0) < key (X.getD (c - a).toNat 0))) (fun i j _ => (j - i).toNat) ?_
   unfold tD
   have w1 : i64.wrap (m - a) = X.length := by rw [aD (by omega) (by omega)]; omega
   have w2 : i64.wrap (b - m) = Y.length := by rw [aD (by omega) (by omega)]; omega
   have w3 : i64.wrap (mid + m) = mid + m := aD (by omega) (by omega)
   have w4 : i64.wrap (mid + m - b) = mid + m - b := aD (by omega) (by omega)
   have w5 : i64.wrap (mid + m - 1) = mid + m - 1 := aD (by omega) (by omega)
   rw [w1, w2, qE ha (by omega) (by omega), <- hmid, w3, w4, w5]
   -- what the loop is, and what follows it
   have body : ∀ (x20 x21 : Int) (s : List (List PV)), (s = aA (P ++ (X ++ (Y ++ R))) /\ s0 <= x20 /\ x20 <= x21 /\ x21 <= r0 /\ (∀ c, s0 <= c -> c < x20 -> ¬ key (Y.getD (mid - 1 - c).toNat 0) < key (X.getD (c - a).toNat 0)) /\ (∀ c, x21 <= c -> c < r0 -> key (Y.getD (mid - 1 - c).toNat 0) < key (X.getD (c - a).toNat 0))) ->
    (x20 < x21 -> ∃ h, h = (x20 + x21) / 2 /\ i64.wrap (mid + m - 1 - h) = mid + m - 1 - h /\ i64.wrap (h + 1) = h + 1 /\ (0 <= mid + m - 1 - h /\ mid + m - 1 - h < (hi : Int) - lo /\ (s.getD (lo + (mid + m - 1 - h).toNat) []).length = 1) /\ (0 <= h /\ h < (hi : Int) - lo /\ (s.getD (lo + h.toNat) []).length = 1) /\
     ∃ n n1, (List.drop 0 (s.getD (lo + (mid + m - 1 - h).toNat) [])).head? = some (PV.int .i32 n) /\ (List.drop 0 (s.getD (lo + h.toNat) [])).head? = some (PV.int .i32 n1) /\ (-2147483648 <= n /\ n <= 2147483647) /\ (-2147483648 <= n1 /\ n1 <= 2147483647) /\
     (¬ key n < key n1 -> (s = aA (P ++ (X ++ (Y ++ R))) /\ s0 <= h + 1 /\ h + 1 <= x21 /\ x21 <= r0 /\ (∀ c, s0 <= c -> c < h + 1 -> ¬ key (Y.getD (mid - 1 - c).toNat 0) < key (X.getD (c - a).toNat 0)) /\ (∀ c, x21 <= c -> c < r0 -> key (Y.getD (mid - 1 - c).toNat 0) < key (X.getD (c - a).toNat 0))) /\ (x21 - (h + 1)).toNat < (x21 - x20).toNat) /\
     (key n < key n1 -> (s = aA (P ++ (X ++ (Y ++ R))) /\ s0 <= x20 /\ x20 <= h /\ h <= r0 /\ (∀ c, s0 <= c -> c < x20 -> ¬ key (Y.getD (mid - 1 - c).toNat 0) < key (X.getD (c - a).toNat 0)) /\ (∀ c, h <= c -> c < r0 -> key (Y.getD (mid - 1 - c).toNat 0) < key (X.getD (c - a).toNat 0))) /\ (h - x20).toNat < (x21 - x20).toNat)) /\
    (¬ x20 < x21 -> i64.wrap (mid + m - x20) = mid + m - x20 /\ zS lo hi nl T a x20 m mid (mid + m - x20) b (iY key nl T P (X ++ Y) R) s) := by
    rintro i j _ ⟨rfl, i0, hij, hjr, hge, hlt⟩
    refine ⟨fun hc1 => ?_, fun hc1 => ?_⟩
    ·obtain ⟨h, hh⟩ : ∃ h, h = (i + j) / 2 := ⟨_, rfl⟩
     have b1 : i <= h /\ h < j := by omega
     have gx := hat h (by omega) (by omega)
     have gy := hbt (mid + m - 1 - h) (by omega) (by omega)
     rw [show (mid + m - 1 - h - m).toNat = (mid - 1 - h).toNat by omega] at gy
     refine ⟨h, hh, aD (by omega) (by omega), aD (by omega) (by omega), ⟨by omega, by omega, by rw [dB gy]; rfl⟩, ⟨by omega, by omega, by rw [dB gx]; rfl⟩, _, _, by rw [dB gy]; rfl, by rw [dB gx]; rfl, kY hr gy, kY hr gx, fun hk => ?_, fun hk => ?_⟩
     ·refine ⟨⟨rfl, by omega, by omega, hjr, fun c c1 c2 => ?_, hlt⟩, by omega⟩
      have u := hX.get (i := (c - a).toNat) (j := (h - a).toNat) (by omega) (by omega)
      have v := hY.get (i := (mid - 1 - h).toNat) (j := (mid - 1 - c).toNat) (by omega) (by omega)
      omega
     ·refine ⟨⟨rfl, i0, by omega, by omega, hge, fun c c1 c2 => ?_⟩, by omega⟩
      have u := hX.get (i := (h - a).toNat) (j := (c - a).toNat) (by omega) (by omega)
      have v := hY.get (i := (mid - 1 - c).toNat) (j := (mid - 1 - h).toNat) (by omega) (by omega)
      omega
    ·have hij2 : i = j := by omega
     subst hij2
     refine ⟨aD (by omega) (by omega), ?_⟩
     have l1 : (X.take (i - a).toNat).length = (i - a).toNat := by rw [List.length_take]; omega
     have l2 : (X.drop (i - a).toNat).length = X.length - (i - a).toNat := List.length_drop
     have l3 : (Y.take (mid - i).toNat).length = (mid - i).toNat := by rw [List.length_take]; omega
     have l4 : (Y.drop (mid - i).toNat).length = Y.length - (mid - i).toNat := List.length_drop
     have eX : X.take (i - a).toNat ++ X.drop (i - a).toNat = X := List.take_append_drop _ _
     have eY : Y.take (mid - i).toNat ++ Y.drop (mid - i).toNat = Y := List.take_append_drop _ _
     have tk : ∀ (L : List Int) (k q : Nat), q < k -> (L.take k).getD q 0 = L.getD q 0 := fun L k q h => by simp only [List.getD]; rw [List.getElem?_take_of_lt h]
     have dk : ∀ (L : List Int) (k q : Nat), (L.drop k).getD q 0 = L.getD (k + q) 0 := fun L k q => by simp only [List.getD, List.getElem?_drop]
     have f1 : ∀ x ∈ X.drop (i - a).toNat, ∀ y ∈ Y.take (mid - i).toNat, key y < key x := fun x hx y hy => by
      obtain ⟨q, hq, rfl⟩ := kZ hx
      obtain ⟨p, hp, rfl⟩ := kZ hy
      rw [l2] at hq
      rw [l3] at hp
      rw [tk _ _ _ hp, dk]
      have hir : i < r0 := by rw [hr0]; split <;> omega
      have k0 := hlt i (Int.le_refl _) hir
      have u := hX.get (i := (i - a).toNat) (j := (i - a).toNat + q) (by omega) (by omega)
      have v := hY.get (i := p) (j := (mid - 1 - i).toNat) (by omega) (by omega)
      omega
     have f2 : ∀ x ∈ X.take (i - a).toNat, ∀ y ∈ Y.drop (mid - i).toNat, key x <= key y := fun x hx y hy => by
      obtain ⟨q, hq, rfl⟩ := kZ hx
      obtain ⟨p, hp, rfl⟩ := kZ hy
      rw [l1] at hq
      rw [l4] at hp
      rw [tk _ _ _ hq, dk]
      have his : s0 <= i - 1 := by rw [hs0]; split <;> omega
      have k0 := hge (i - 1) his (by omega)
      rw [show (mid - 1 - (i - 1)).toNat = (mid - i).toNat by omega] at k0
      have u := hX.get (i := q) (j := (i - 1 - a).toNat) (by omega) (by omega)
      have v := hY.get (i := (mid - i).toNat) (j := (mid - i).toNat + p) (by omega) (by omega)
      omega
     have := zqg lo hi nl (N := N) ih hlen P (X.take (i - a).toNat) (X.drop (i - a).toNat) (Y.take (mid - i).toNat) (Y.drop (mid - i).toNat) R a i m mid (mid + m - i) b ha hP (by omega) (by omega) (by omega) (by omega) (by omega) hhi
      (by rw [<- List.append_assoc (Y.take _), eY, <- List.append_assoc (X.take _), eX]; exact hr) (by rw [eX]; exact hX) (by rw [eY]; exact hY) f1 f2 (by omega) (by omega)
     rw [<- List.append_assoc (Y.take _) _ R, eY, <- List.append_assoc (X.take _) _ (Y ++ R), eX] at this
     exact this
   refine bC (by simp; omega) (bC (by simp; omega) ?_)
   refine aF (fun hm2 => ?_) (fun hm2 => ?_)
   ·simp only [decide_eq_true_eq] at hm2
    rw [if_pos hm2] at hs0 hr0
    refine ⟨⟨rfl, rfl, by omega, by omega, by omega, fun c c1 c2 => by omega, fun c c1 c2 => by omega⟩, ?_⟩
    rintro i j s hJ
    obtain ⟨b1, b2⟩ := body i j s hJ
    refine aF (fun hc1 => ?_) (fun hc1 => ?_)
    ·simp only [decide_eq_true_eq] at hc1
     obtain ⟨h, hh, e1, e2, e3, e4, n, n1, g1, g2, r1, r2, k1, k2⟩ := b1 hc1
     rw [qE (by omega) (by omega) (by omega), <- hh, e1, e2]
     refine ⟨e3, n, g1, e4, n1, g2, ?_⟩
     refine (hc n n1 r1 r2).mono ?_
     rintro _ ⟨n2, rfl, hn2⟩
     refine ⟨n2, rfl, rfl, aF (fun hl => ?_) (fun hl => ?_)⟩
     ·simp only [Bool.not_eq_true', decide_eq_false_iff_not] at hl
      obtain ⟨q1, q2⟩ := k1 fun h => hl (hn2.2 h)
      exact ⟨rfl, q1, q2⟩
     ·simp only [Bool.not_eq_true', decide_eq_false_iff_not, Decidable.not_not] at hl
      obtain ⟨q1, q2⟩ := k2 (hn2.1 hl)
      exact ⟨rfl, q1, q2⟩
    ·simp only [decide_eq_true_eq] at hc1
     obtain ⟨e1, e2⟩ := b2 hc1
     rw [e1]
     exact e2
   ·simp only [decide_eq_true_eq] at hm2
    rw [if_neg hm2] at hs0 hr0
    refine ⟨⟨rfl, rfl, by omega, by omega, by omega, fun c c1 c2 => by omega, fun c c1 c2 => by omega⟩, ?_⟩
    rintro i j s hJ
    obtain ⟨b1, b2⟩ := body i j s hJ
    refine aF (fun hc1 => ?_) (fun hc1 => ?_)
    ·simp only [decide_eq_true_eq] at hc1
     obtain ⟨h, hh, e1, e2, e3, e4, n, n1, g1, g2, r1, r2, k1, k2⟩ := b1 hc1
     rw [qE (by omega) (by omega) (by omega), <- hh, e1, e2]
     refine ⟨e3, n, g1, e4, n1, g2, ?_⟩
     refine (hc n n1 r1 r2).mono ?_
     rintro _ ⟨n2, rfl, hn2⟩
     refine ⟨n2, rfl, rfl, aF (fun hl => ?_) (fun hl => ?_)⟩
     ·simp only [Bool.not_eq_true', decide_eq_false_iff_not] at hl
      obtain ⟨q1, q2⟩ := k1 fun h => hl (hn2.2 h)
      exact ⟨rfl, q1, q2⟩
     ·simp only [Bool.not_eq_true', decide_eq_false_iff_not, Decidable.not_not] at hl
      obtain ⟨q1, q2⟩ := k2 (hn2.1 hl)
      exact ⟨rfl, q1, q2⟩
    ·simp only [decide_eq_true_eq] at hc1
     obtain ⟨e1, e2⟩ := b2 hc1
     rw [e1]
     exact e2
end
end Go.Eng



namespace Go.Eng
open Go Go.Proofs Go.Eng.Rows Go.Eng.Srt
section
variable {key : Int -> Int} {T : PV}
def mI (key : Int -> Int) (k : Nat) (Bs : List (List Int)) : Prop := ∀ B ∈ Bs, B.length = k /\ Srtd key B
theorem zT {k : Nat} : ∀ {Bs : List (List Int)}, mI key k Bs -> Bs.flatten.length = k * Bs.length
 | [], _ => by simp
 | B :: Bs, h => by
   rw [List.flatten_cons, List.length_append, (h B List.mem_cons_self).1, zT (Bs := Bs) fun C hC => h C (List.mem_cons_of_mem _ hC), List.length_cons, Nat.mul_add]; omega
theorem t8 (Bs : List (List Int)) : Bs = [] ∨ (∃ X, Bs = [X]) ∨ ∃ X Y Bs', Bs = X :: Y :: Bs' := by
 match Bs with
 | [] => exact .inl rfl
 | [X] => exact .inr (.inl ⟨X, rfl⟩)
 | X :: Y :: Bs' => exact .inr (.inr ⟨X, Y, Bs', rfl⟩)
theorem zg2 {k : Nat} {Bs : List (List Int)} {B : List Int} (h : mI key k Bs) (hl : B.length = k) (hs : Srtd key B) : mI key k (Bs ++ [B]) := fun C hC => by
 rcases List.mem_append.1 hC with hC | hC
 ·exact h C hC
 ·simp only [List.mem_singleton] at hC; subst hC; exact ⟨hl, hs⟩
theorem zU {P S R S' : List Int} (h : R32 (P ++ (S ++ R))) (k : Stab key S S') : R32 (P ++ (S' ++ R)) := h.of fun x hx => by
 simp only [List.mem_append] at hx ⊢
 rcases hx with hx | hx | hx
 ·exact .inl hx
 ·exact .inr (.inl (k.mem.2 hx))
 ·exact .inr (.inr hx)
theorem zqh (hc : iX T key) (lo hi : Nat) (nl : Bool) (P S R : List Int) (hP : P.length = lo) (hS : hi = lo + S.length) (hr : R32 (P ++ (S ++ R))) (hlen : hi < 1000000000000) :
 ACall Tryz.prog 158 [.sub 0 lo hi, .pv (.int .i64 ((hi - lo : Nat) : Int)), .fn 141 [.box 1 0]] (iZ nl T (aA (P ++ (S ++ R)))) (iY key nl T P S R) := by
 have hl1 : ∀ {u v : List Int}, u.length = v.length -> (aA u).length = (aA v).length := fun h => by simp [h]
 obtain ⟨n, hn⟩ : ∃ n : Int, n = ((hi - lo : Nat) : Int) := ⟨_, rfl⟩
 rw [<- hn]
 have hnS : n = S.length := by omega
 refine zmm _ _ _ _ _ _
  (fun a b s => b = a + 20 /\ 0 <= a /\ ∃ Bs C, s = aA (P ++ (Bs.flatten ++ C ++ R)) /\ mI key 20 Bs /\ (Bs.flatten.length : Int) = a /\ Stab key S (Bs.flatten ++ C)) (fun a _ _ => (n + 1 - a).toNat)
  (fun k s => 0 < k /\ ∃ Bs C, s = aA (P ++ (Bs.flatten ++ C ++ R)) /\ mI key k.toNat Bs /\ Srtd key C /\ (C.length : Int) < k /\ Stab key S (Bs.flatten ++ C)) (fun k _ => (n - k).toNat)
  (fun k _ _ _ k' a b s => k = k' /\ b = a + 2 * k /\ 0 <= a /\ ∃ B2 Bs C, s = aA (P ++ (B2.flatten ++ (Bs.flatten ++ C) ++ R)) /\ mI key (2 * k).toNat B2 /\ mI key k.toNat Bs /\ Srtd key C /\ (C.length : Int) < k /\ (B2.flatten.length : Int) = a /\ Stab key S (B2.flatten ++ (Bs.flatten ++ C))) (fun k a _ _ => (n + 1 - a).toNat) ?_
 unfold zd4
 refine ⟨⟨rfl, rfl, Int.le_refl _, [], S, by simp, fun B hB => (by cases hB), rfl, by simpa using Stab.refl S⟩, ?_⟩
 rintro a b _ ⟨rfl, a0, Bs, C, rfl, hBs, hBl, hst⟩
 have hsl := hst.len
 rw [List.length_append] at hsl
 refine aF (fun hc1 => ?_) (fun hc1 => ?_)
 ·simp only [decide_eq_true_eq] at hc1
  have wa : i64.wrap (a + 20 + 20) = a + 20 + 20 := aD (by omega) (by omega)
  rw [wa]
  have hC : C.take 20 ++ C.drop 20 = C := List.take_append_drop _ _
  have hCl : (C.take 20).length = 20 := by rw [List.length_take]; omega
  have e1 : P ++ (Bs.flatten ++ C ++ R) = (P ++ Bs.flatten) ++ C.take 20 ++ (C.drop 20 ++ R) := by
   rw [show Bs.flatten ++ C ++ R = Bs.flatten ++ ((C.take 20 ++ C.drop 20) ++ R) by rw [hC]; simp]
   simp only [List.append_assoc]
  have := zgy hc lo hi nl (P ++ Bs.flatten) (C.take 20) (C.drop 20 ++ R) a (a + 20) a0 (by rw [List.length_append]; omega) (by omega) (by omega) (by rw [<- e1]; exact zU hr hst) hlen
  rw [e1]
  refine this.mono ?_
  rintro r h' ⟨S1, rfl, rfl, s1, k1⟩
  have k1l := k1.len
  refine ⟨_, ⟨rfl, rfl⟩, ⟨trivial, ⟨rfl, rfl, hl1 (by simp only [List.length_append]; omega)⟩, trivial⟩, rfl, ⟨rfl, by omega, Bs ++ [S1], C.drop 20, by simp, zg2 hBs (by omega) s1, by simp only [List.flatten_append, List.flatten_cons, List.flatten_nil, List.append_nil, List.length_append]; omega, ?_⟩, by dsimp only; omega⟩
  refine hst.trans ?_
  have := (Stab.refl (key := key) Bs.flatten).app (k1.app (Stab.refl (C.drop 20)))
  rw [hC] at this
  simpa using this
 ·simp only [decide_eq_true_eq] at hc1
  have e1 : P ++ (Bs.flatten ++ C ++ R) = (P ++ Bs.flatten) ++ C ++ R := by simp
  have := zgy hc lo hi nl (P ++ Bs.flatten) C R a n a0 (by rw [List.length_append]; omega) (by omega) (by omega) (by rw [<- e1]; exact zU hr hst) hlen
  rw [e1]
  refine this.mono ?_
  rintro r h' ⟨C1, rfl, rfl, s1, k1⟩
  have k1l := k1.len
  refine ⟨_, ⟨rfl, rfl⟩, ⟨trivial, ⟨rfl, rfl, hl1 (by simp only [List.length_append]; omega)⟩, trivial⟩, ⟨rfl, by omega, Bs, C1, by simp, hBs, s1, by omega, hst.trans ((Stab.refl _).app k1)⟩, ?_⟩
  clear hBs hBl hst hsl hc1 e1 this s1 k1 k1l
  rintro k _ ⟨k0, Bs, C, rfl, hBs, hCs, hCk, hst⟩
  have hsl := hst.len
  rw [List.length_append] at hsl
  have hbl := zT hBs
  refine aF (fun hc2 => ?_) (fun hc2 => ?_)
  ·simp only [decide_eq_true_eq] at hc2
   have w2 : i64.wrap (2 * k) = 2 * k := aD (by omega) (by omega)
   have w3 : i64.wrap (k * 2) = 2 * k := by rw [aD (by omega) (by omega)]; omega
   rw [w2]
   refine ⟨⟨rfl, rfl, by omega, Int.le_refl _, [], Bs, C, by simp, fun B hB => (by cases hB), hBs, hCs, hCk, rfl, by simpa using hst⟩, ?_⟩
   clear hBs hCs hCk hst hsl hbl
   rintro _ a b _ ⟨rfl, rfl, a0, B2, Bs, C, rfl, hB2, hBs, hCs, hCk, hBl, hst⟩
   have hsl := hst.len
   rw [List.length_append, List.length_append] at hsl
   have hbl := zT hBs
   have hRs : R32 (P ++ (B2.flatten ++ (Bs.flatten ++ C) ++ R)) := zU hr hst
   rw [w2, w3]
   have hkn : (k.toNat : Int) = k := by omega
   refine aF (fun hc3 => ?_) (fun hc3 => ?_)
   ·simp only [decide_eq_true_eq] at hc3
    have w4 : i64.wrap (a + k) = a + k := aD (by omega) (by omega)
    have w5 : i64.wrap (a + 2 * k + 2 * k) = a + 2 * k + 2 * k := aD (by omega) (by omega)
    rw [w4, w5]
    obtain ⟨X, Y, Bs', rfl⟩ : ∃ X Y Bs', Bs = X :: Y :: Bs' := by
     rcases t8 Bs with rfl | ⟨X, rfl⟩ | h
     ·simp only [List.flatten_nil, List.length_nil] at hsl; omega
     ·have h1 := (hBs X (by simp)).1
      simp only [List.flatten_cons, List.flatten_nil, List.append_nil] at hsl; omega
     ·exact h
    obtain ⟨hXl, hXs⟩ := hBs X (by simp)
    obtain ⟨hYl, hYs⟩ := hBs Y (by simp)
    have nx : X ≠ [] := fun h => by subst h; simp at hXl; omega
    have ny : Y ≠ [] := fun h => by subst h; simp at hYl; omega
    have e1 : P ++ (B2.flatten ++ ((X :: Y :: Bs').flatten ++ C) ++ R) = (P ++ B2.flatten) ++ (X ++ (Y ++ (Bs'.flatten ++ C ++ R))) := by simp
    have := zg1 hc lo hi nl hlen (2 * k + 1).toNat (P ++ B2.flatten) X Y (Bs'.flatten ++ C ++ R) a (a + k) (a + 2 * k) a0 (by rw [List.length_append]; omega) (by omega) (by omega) nx ny (by omega) (by rw [<- e1]; exact hRs) hXs hYs (by omega)
    rw [e1]
    refine this.mono ?_
    rintro r h' ⟨S1, rfl, rfl, s1, k1⟩
    have k1l := k1.len
    rw [List.length_append] at k1l
    refine ⟨_, ⟨rfl, rfl⟩, ⟨trivial, ⟨rfl, rfl, hl1 (by simp only [List.length_append]; omega)⟩, trivial⟩, rfl, ⟨rfl, rfl, by omega, B2 ++ [S1], Bs', C, by simp, zg2 hB2 (by omega) s1, fun B hB => hBs B (by simp [hB]), hCs, hCk, by simp only [List.flatten_append, List.flatten_cons, List.flatten_nil, List.append_nil, List.length_append]; omega, ?_⟩, by dsimp only; omega⟩
    refine hst.trans ?_
    have := (Stab.refl (key := key) B2.flatten).app (k1.app (Stab.refl (Bs'.flatten ++ C)))
    simpa using this
   ·simp only [decide_eq_true_eq] at hc3
    have w4 : i64.wrap (a + k) = a + k := aD (by omega) (by omega)
    rw [w4]
    refine aF (fun hc4 => ?_) (fun hc4 => ?_)
    ·simp only [decide_eq_true_eq] at hc4
     obtain ⟨X, rfl⟩ : ∃ X, Bs = [X] := by
      rcases t8 Bs with rfl | h | ⟨X, Y, Bs', rfl⟩
      ·simp only [List.flatten_nil, List.length_nil] at hsl; omega
      ·exact h
      ·have h1 := (hBs X (by simp)).1
       have h2 := (hBs Y (by simp)).1
       simp only [List.flatten_cons, List.length_append] at hsl
       omega
     obtain ⟨hXl, hXs⟩ := hBs X (by simp)
     have nx : X ≠ [] := fun h => by subst h; simp at hXl; omega
     simp only [List.flatten_cons, List.flatten_nil, List.append_nil] at hsl hst
     have ny : C ≠ [] := fun h => by subst h; simp only [List.length_nil] at hsl; omega
     have e1 : P ++ (B2.flatten ++ ([X].flatten ++ C) ++ R) = (P ++ B2.flatten) ++ (X ++ (C ++ R)) := by simp
     have := zg1 hc lo hi nl hlen (2 * k + 1).toNat (P ++ B2.flatten) X C R a (a + k) n a0 (by rw [List.length_append]; omega) (by omega) (by omega) nx ny (by omega) (by rw [<- e1]; exact hRs) hXs hCs (by omega)
     rw [e1]
     refine this.mono ?_
     rintro r h' ⟨S1, rfl, rfl, s1, k1⟩
     have k1l := k1.len
     rw [List.length_append] at k1l
     exact ⟨_, ⟨rfl, rfl⟩, ⟨trivial, ⟨rfl, rfl, hl1 (by simp only [List.length_append]; omega)⟩, trivial⟩, rfl, ⟨by omega, B2, S1, by simp, hB2, s1, by omega, hst.trans ((Stab.refl _).app k1)⟩, by dsimp only; omega⟩
    ·simp only [decide_eq_true_eq] at hc4
     have hCs2 : Srtd key (Bs.flatten ++ C) /\ ((Bs.flatten ++ C).length : Int) < 2 * k := by
      rcases t8 Bs with rfl | ⟨X, rfl⟩ | ⟨X, Y, Bs', rfl⟩
      ·exact ⟨by simpa using hCs, by simp; omega⟩
      ·have h1 := hBs X (by simp)
       simp only [List.flatten_cons, List.flatten_nil, List.append_nil] at hsl ⊢
       have hC0 : C = [] := List.length_eq_zero_iff.1 (by omega)
       subst hC0
       exact ⟨by simpa using h1.2, by simp; omega⟩
      ·exfalso
       have h1 := (hBs X (by simp)).1
       have h2 := (hBs Y (by simp)).1
       simp only [List.flatten_cons, List.length_append] at hsl
       omega
     exact ⟨rfl, ⟨by omega, B2, Bs.flatten ++ C, by simp, hB2, hCs2.1, hCs2.2, hst⟩, by dsimp only; omega⟩
  ·simp only [decide_eq_true_eq] at hc2
   have hz : Srtd key (Bs.flatten ++ C) := by
    rcases t8 Bs with rfl | ⟨X, rfl⟩ | ⟨X, Y, Bs', rfl⟩
    ·simpa using hCs
    ·have h1 := hBs X (by simp)
     simp only [List.flatten_cons, List.flatten_nil, List.append_nil] at hsl ⊢
     have hC0 : C = [] := List.length_eq_zero_iff.1 (by omega)
     subst hC0
     simpa using h1.2
    ·exfalso
     have h1 := (hBs X (by simp)).1
     have h2 := (hBs Y (by simp)).1
     simp only [List.flatten_cons, List.length_append] at hsl
     omega
   exact ⟨Bs.flatten ++ C, rfl, rfl, hz, hst⟩
theorem zqi (hc : iX T key) (lo hi : Nat) (nl : Bool) (P S R : List Int) (hP : P.length = lo) (hS : hi = lo + S.length) (hr : R32 (P ++ (S ++ R))) (hlen : hi < 1000000000000) :
 ACall Tryz.prog 140 [.sub 0 lo hi, .fn 141 [.box 1 0]] (iZ nl T (aA (P ++ (S ++ R)))) (iY key nl T P S R) := by
 refine zmn _ _ _ _ _ ?_
 unfold zd5
 refine (zqh hc lo hi nl P S R hP hS hr hlen).mono ?_
 rintro r h' ⟨S1, rfl, rfl, s1, k1⟩
 exact ⟨_, ⟨rfl, rfl⟩, ⟨trivial, ⟨rfl, rfl, by have := k1.len; simp; omega⟩, trivial⟩, S1, rfl, rfl, s1, k1⟩
end
end Go.Eng



namespace Go.Eng
open Go Go.Proofs Go.Eng.Rows Go.Eng.Srt
section
variable {Z : World -> (Nat -> Prop) -> (Nat -> Pl) -> Hp -> Prop} {key : Int -> Int} {nl : Bool} {T : PV} {l : Nat}
def YQ (key : Int -> Int) (L : List Int) (f i : Nat) (L' : List Int) : Prop := ∃ S', L' = L.take f ++ (S' ++ L.drop i) /\ Srtd key S' /\ Stab key ((L.take i).drop f) S'
def zV (Z : World -> (Nat -> Prop) -> (Nat -> Pl) -> Hp -> Prop) (key : Int -> Int) (nl : Bool) (T : PV) (l N0 : Nat) : Prop :=
 ∀ (w : World) (I : Nat -> Prop) (G : Nat -> Pl) (L : List Int) (f i : Nat), HRel w I G (aL nl T (aA L)) -> Z w I G (aL nl T (aA L)) -> f + 1 < i -> i <= L.length -> R32 L -> L.length < 1000000000000 -> L.length = N0 ->
  ∃ fn tmps assign body, (Instr.yield l #[.int .i64 f, .int .i64 i]).run Tryz.prog w = .ok (.round l fn tmps assign body) w /\ RoundIn Fence.wide 0 Tryz.prog l fn tmps assign body w fun e w' =>
   e = .returned (.bool true) /\ ∃ L' I' G', YQ key L f i L' /\ HRel w' I' G' (aL nl T (aA L')) /\ Keeps w I w' I' /\ Like G G' (aL nl T (aA L)) (aL nl T (aA L')) /\ Z w' I' G' (aL nl T (aA L'))
def o8 (ops : Array Oper) : Oper := ops.toList.getD 8 default
theorem e6a (y : Value) (es : List (List PV)) (i f : Int) (K : Env -> Hp -> Prop) : cD Tryz.prog (fun _ => none) 39 (cK (dM Tryz.f157)).toList ((cK (dM Tryz.f157)).toList.take 8) (eM y i f) (aL nl T es) K =
 K ((35, LV.spec 32 true (.pv (.int .i64 i))) :: (34, LV.spec 32 true (.pv (.int .i64 f))) :: (33, LV.spec 32 true (.pv (.raw y))) :: (32, .pv (.bool (decide (i64.wrap (i - f) > (1 : Int))))) :: (31, .pv (.bool (decide (i64.wrap (i - f) > (1 : Int))))) ::
  (30, .pv (.int .i64 (i64.wrap (i - f)))) :: (29, .pv (.int .i64 f)) :: (28, .pv (.int .i64 i)) :: eM y i f) (aL nl T es) := by kernel_rfl
theorem e6b (y : Value) (es : List (List PV)) (i f : Int) (K : Env -> Hp -> Prop) : cD Tryz.prog (fun _ => none) 39 (cK (dM Tryz.f157)).toList ((cK (dM Tryz.f157)).toList.drop 9) ((36, .pv (.bool true)) :: (32, .pv (.bool true)) :: eM y i f) (aL nl T es) K =
 K ((38, .pv (.bool false)) :: (37, .spec 32 true (.pv (.bool false))) :: (36, .pv (.bool true)) :: (32, .pv (.bool true)) :: eM y i f) (aL nl T es) := by kernel_rfl
theorem e6c (y : Value) (es : List (List PV)) (i f : Int) (K : Env -> Hp -> Prop) : cD Tryz.prog (fun _ => none) 39 (cK (dM Tryz.f157)).toList ((cK (dM Tryz.f157)).toList.drop 9) ((32, .pv (.bool false)) :: eM y i f) (aL nl T es) K =
 K ((38, .pv (.bool false)) :: (37, .pv .unit) :: (32, .pv (.bool false)) :: (32, .pv (.bool false)) :: eM y i f) (aL nl T es) := by kernel_rfl
theorem zqj : dM Tryz.f157 = .region 6 (cK (dM Tryz.f157)) false := by kernel_rfl
theorem zqk : (cK (dM Tryz.f157)).size = 11 /\ iU (cK (dM Tryz.f157)).toList = true /\ (cK (dM Tryz.f157)).toList.length = 11 /\ (cK (dM Tryz.f157))[8]? = some (o8 (cK (dM Tryz.f157))) /\
 (o8 (cK (dM Tryz.f157))).dst = some 36 /\ (o8 (cK (dM Tryz.f157))).guard = some (4, true) /\ (o8 (cK (dM Tryz.f157))).op = .call { callee := .value (.tmp 33), args := #[.tmp 34, .tmp 35], argTypes := #[3, 3] } /\
 ((cK (dM Tryz.f157))[4]?).bind (·.dst) = some 32 :=
 ⟨by kernel_rfl, by kernel_rfl, by kernel_rfl, by kernel_rfl, by kernel_rfl, by kernel_rfl, by kernel_rfl, by kernel_rfl⟩
theorem zql {F : Fence} {n : Nat} {P : Program} {ops : Array Oper} {Q : Exit -> Act -> World -> Prop} {i : Nat} {rest : List Nat} {a : Act} {w : World} {o : Oper} (ho : ops[i]? = some o)
 (h : if Region.wanted o (yielded ops a.tmps) then o.wpIn F n P a w (wpOpsIn F n P ops Q rest) Q else (∀ f, o.about P w a.eval = some f -> F.fn f) /\ wpOpsIn F n P ops Q rest (a.put o.dst undef) w) : wpOpsIn F n P ops Q (i :: rest) a w := by
 simp only [wpOpsIn, ho]; exact h
theorem zqm {w : World} {I : Nat -> Prop} {G : Nat -> Pl} {h : Hp} {tm : Array Value} {s : Nat} {b : Bool} (hr : LRel w I G h (.pv (.bool b)) (tm.getD s undef)) : tm[s]? = some (.bool b) := by
 have := hr.bool_eq
 rw [Array.getD_eq_getD_getElem?] at this
 cases hx : tm[s]? with
 | none => rw [hx] at this; simp [undef] at this
 | some v => rw [hx] at this; simpa using this
theorem LRel.raw_eq {w : World} {I : Nat -> Prop} {G : Nat -> Pl} {h : Hp} {v cv : Value} (hr : LRel w I G h (.pv (.raw v)) cv) : cv = v := by cases hr with | pv _ _ h1 => cases h1; rfl
theorem zqn {N0 : Nat} (hY : zV Z key nl T l N0) (hZ : ∀ w I G h w' I' G' h', Z w I G h -> HRel w I G h -> HRel w' I' G' h' -> TrN 5 w I G h w' I' G' h' -> Z w' I' G' h') (L : List Int) (f i : Nat) (hf : f <= i) (hi : i <= L.length) (hr : R32 L) (hL : L.length < 1000000000000) (hN : L.length = N0) :
 CodeZ Z Tryz.prog 39 (dM Tryz.f157) (eM (.func (.yield l) #[] #[]) i f) (aL nl T (aA L)) fun x e h => ∃ L', x = .normal /\ (if f + 1 < i then YQ key L f i L' else L' = L) /\ e = (38, .pv (.bool false)) :: eM (.func (.yield l) #[] #[]) i f /\ h = aL nl T (aA L') := by
 intro w I G a Qx hs hz hq
 obtain ⟨q1, q2, q3, q4, q5, q6, q7, q8⟩ := zqk
 rw [zqj]
 have ea := e6a (nl := nl) (T := T) (.func (.yield l) #[] #[]) (aA L) i f
 have eb := fun es => e6b (nl := nl) (T := T) (.func (.yield l) #[] #[]) es i f
 have ec := e6c (nl := nl) (T := T) (.func (.yield l) #[] #[]) (aA L) i f
 generalize cK (dM Tryz.f157) = O at *
 generalize o8 O = o at *
 have ww : i64.wrap ((i : Int) - f) = (i : Int) - f := aD (by omega) (by omega)
 rw [ww] at ea
 refine wp_mono (Q := fun x a' w' => x = .normal /\ ∃ L' I' G', (if f + 1 < i then YQ key L f i L' else L' = L) /\ SRel w' I' G' ((38, .pv (.bool false)) :: eM (.func (.yield l) #[] #[]) i f) (aL nl T (aA L')) 39 a' /\ a'.defers = a.defers /\ Z w' I' G' (aL nl T (aA L'))) ((wpIn_wide (n := 0)).1 (wpIn_region (F := wd none) ?_)) ?_
 rotate_left
 ·rintro x a' w' ⟨rfl, L', I', G', h1, h2, h3, h4⟩
  exact hq .normal _ _ w' I' G' a' ⟨L', rfl, h1, rfl, rfl⟩ h2 h3 h4
 rw [q1, show List.range 11 = List.range' 0 8 ++ (8 :: List.range' 9 2) from rfl]
 refine sV ?_
 rw [show (8 : Nat) = (O.toList.take 8).length by simp [q3]]
 have hsuf : ∀ j, j < (O.toList.drop 9).length -> (O.toList.drop 9)[j]? = O[9 + j]? := fun j _ => by rw [List.getElem?_drop]; simp
 have hl2 : (O.toList.drop 9).length = 2 := by simp [q3]
 refine xH (ro := none) q2 (fun j hj => ?_) (by rw [ea]; exact ⟨rfl, rfl⟩ : cD Tryz.prog (fun _ => none) 39 O.toList (O.toList.take 8) _ _ (fun e' h' => e' = _ /\ h' = aL nl T (aA L))) hs (fun a w h => nomatch h.1) ?_
 ·rw [List.getElem?_take, if_pos (by simp only [List.length_take] at hj; omega)]; simp
 rintro _ _ w1 I1 G1 a1 ⟨rfl, rfl⟩ hs1 hd1 ht1
 rw [show (O.toList.take 8).length = 8 by simp [q3]]
 have hz1 := hZ _ _ _ _ _ _ _ _ hz hs.hh hs1.hh ht1.toN
 have h32 := zqm (hs1.he 32 _ rfl)
 have hyl : yielded O a1.tmps 4 = some (decide ((i : Int) - f > 1)) := by
  unfold yielded
  rw [q8]; simp [h32]
 have hwd : Region.wanted o (yielded O a1.tmps) = decide ((i : Int) - f > 1) := by unfold Region.wanted; rw [q6]; simp [hyl]
 show wpOpsIn (wd none) 0 Tryz.prog O _ (8 :: List.range' 9 2) a1 w1
 refine zql q4 ?_
 rw [hwd]
 have hdst : iA 39 o = true := by unfold iA; rw [q5]; rfl
 by_cases hc : f + 1 < i
 ·have hd' : decide ((i : Int) - f > 1) = true := by simp; omega
  rw [hd'] at hs1 h32 ⊢
  rw [if_pos rfl]
  refine ⟨fun _ _ => trivial, ?_⟩
  have h32' : a1.tmps.getD 32 undef = .bool true := (hs1.he 32 _ rfl).bool_eq
  have v33 := ((hs1.he 33 _ rfl).1 h32').raw_eq
  have v34 := ((hs1.he 34 _ rfl).1 h32').int_eq
  have v35 := ((hs1.he 35 _ rfl).1 h32').int_eq
  obtain ⟨fn, tmps, assign, body, hy, hR⟩ := hY w1 I1 G1 L f i hs1.hh hz1 hc hi hr hL hN
  have hrun : (o.semAt none a1.eval).run Tryz.prog w1 = .ok (.round l fn tmps assign body) w1 := by
   rw [Oper.semAt_none]
   unfold execOp
   rw [q7]
   have e33 : a1.eval (.tmp 33) = .func (.yield l) #[] #[] := v33
   have e34 : a1.eval (.tmp 34) = .int .i64 f := v34
   have e35 : a1.eval (.tmp 35) = .int .i64 i := v35
   have hres : resolve a1.eval { callee := .value (.tmp 33), args := #[.tmp 34, .tmp 35], argTypes := #[3, 3] } o.type = pure { target := .fn (.yield l) #[], args := #[.int .i64 f, .int .i64 i] } := by
    simp [resolve, e33, e34, e35, Deferred.ofValue]
   simp only [hres, pure_bind]
   exact hy
  rw [hrun]
  refine ⟨(fun x => by cases x), hR.mono ?_⟩
  rintro e w2 ⟨rfl, L', I2, G2, y1, y2, y3, y4, y5⟩
  have hs2 : SRel w2 I2 G2 ((36, .pv (.bool true)) :: (32, .pv (.bool true)) :: eM (.func (.yield l) #[] #[]) i f) (aL nl T (aA L')) 39 (a1.put o.dst (.bool true)) := by
   have s1 : SRel w1 I1 G1 ((32, .pv (.bool true)) :: eM (.func (.yield l) #[] #[]) i f) (aL nl T (aA L)) 39 a1 := hs1.le (LeE.le ⟨rfl, rfl, rfl, rfl, rfl, rfl, trivial⟩)
   obtain ⟨p1, p2⟩ := kE (v := .pv (.bool true)) hdst s1.hn y2 (s1.he.mono y3 y4) (.pv _ _ (.bool true))
   have : put o (.pv (.bool true)) ((32, .pv (.bool true)) :: eM (.func (.yield l) #[] #[]) i f) = (36, .pv (.bool true)) :: (32, .pv (.bool true)) :: eM (.func (.yield l) #[] #[]) i f := by unfold put; rw [q5]; rfl
   rwa [this] at p1
  have := xH (ro := none) (n := 0) (k := 9) q2 hsuf (by rw [eb]; exact ⟨rfl, rfl⟩ : cD Tryz.prog (fun _ => none) 39 O.toList (O.toList.drop 9) _ _ (fun e' h' => e' = _ /\ h' = aL nl T (aA L'))) hs2 (Q := fun x a' w' => x = .normal /\ ∃ L' I' G', (if f + 1 < i then YQ key L f i L' else L' = L) /\ SRel w' I' G' ((38, .pv (.bool false)) :: eM (.func (.yield l) #[] #[]) i f) (aL nl T (aA L')) 39 a' /\ a'.defers = a.defers /\ Z w' I' G' (aL nl T (aA L'))) (fun a w h => nomatch h.1) (by
   rintro _ _ w3 I3 G3 a3 ⟨rfl, rfl⟩ hs3 hd3 ht3
   refine ⟨rfl, L', I3, G3, by rw [if_pos hc]; exact y1, hs3.le (LeE.le ⟨rfl, rfl, rfl, rfl, rfl, rfl, trivial⟩), hd3.trans ((by unfold Act.put; cases o.dst <;> rfl : (a1.put o.dst (.bool true)).defers = a1.defers).trans hd1), hZ _ _ _ _ _ _ _ _ y5 hs2.hh hs3.hh ht3.toN⟩)
  rw [hl2] at this
  exact this
 ·have hd' : decide ((i : Int) - f > 1) = false := by simp; omega
  rw [hd'] at hs1 h32 ⊢
  rw [if_neg (by simp)]
  refine ⟨fun _ _ => trivial, ?_⟩
  have hlt : 36 < a1.tmps.size := by rw [hs1.hn]; omega
  have hs2 : SRel w1 I1 G1 ((32, .pv (.bool false)) :: eM (.func (.yield l) #[] #[]) i f) (aL nl T (aA L)) 39 (a1.put o.dst undef) := by
   have s1 : SRel w1 I1 G1 ((32, .pv (.bool false)) :: eM (.func (.yield l) #[] #[]) i f) (aL nl T (aA L)) 39 a1 := hs1.le (LeE.le ⟨rfl, rfl, rfl, rfl, rfl, rfl, trivial⟩)
   obtain ⟨p1, p2⟩ := kE (v := .bot) (cv := undef) hdst s1.hn s1.hh s1.he (.bot _)
   have : put o .bot ((32, .pv (.bool false)) :: eM (.func (.yield l) #[] #[]) i f) = (36, .bot) :: (32, .pv (.bool false)) :: eM (.func (.yield l) #[] #[]) i f := by unfold put; rw [q5]; rfl
   rw [this] at p1
   exact p1.le (LeE.le ⟨rfl, rfl, rfl, rfl, rfl, rfl, trivial⟩)
  have := xH (ro := none) (n := 0) (k := 9) q2 hsuf (by rw [ec]; exact ⟨rfl, rfl⟩ : cD Tryz.prog (fun _ => none) 39 O.toList (O.toList.drop 9) _ _ (fun e' h' => e' = _ /\ h' = aL nl T (aA L))) hs2 (Q := fun x a' w' => x = .normal /\ ∃ L' I' G', (if f + 1 < i then YQ key L f i L' else L' = L) /\ SRel w' I' G' ((38, .pv (.bool false)) :: eM (.func (.yield l) #[] #[]) i f) (aL nl T (aA L')) 39 a' /\ a'.defers = a.defers /\ Z w' I' G' (aL nl T (aA L'))) (fun a w h => nomatch h.1) (by
   rintro _ _ w3 I3 G3 a3 ⟨rfl, rfl⟩ hs3 hd3 ht3
   exact ⟨rfl, L, I3, G3, by rw [if_neg hc], hs3.le (LeE.le ⟨rfl, rfl, rfl, rfl, rfl, rfl, trivial⟩), hd3.trans ((by unfold Act.put; cases o.dst <;> rfl : (a1.put o.dst undef).defers = a1.defers).trans hd1), hZ _ _ _ _ _ _ _ _ hz1 hs2.hh hs3.hh ht3.toN⟩)
  rw [hl2] at this
  exact this
end
end Go.Eng



namespace Go.Eng.Srt
open Go Go.Eng
section
variable (key : Int -> Int)
def d6 (x y : Int) : Bool := decide (key x ≠ 0) && decide (key x < key y)
def qF (x : Int) : List Int -> List Int
 | [] => [x]
 | y :: r => if d6 key x y = true then y :: qF x r else x :: y :: r
def ins (l : List Int) (x : Int) : List Int := (qF key x l.reverse).reverse
def bF (l : List Int) : List Int := l.foldl (ins key) []
inductive Eqv : List Int -> List Int -> Prop
 | refl (a : List Int) : Eqv a a
 | swap (u v w : List Int) (x y : Int) (hx : key x ≠ 0) (hy : key y ≠ 0) (hxy : key x ≠ key y) (h : Eqv (u ++ y :: x :: v) w) : Eqv (u ++ x :: y :: v) w
def cC : List Int -> Prop
 | x :: y :: r => (key y ≠ 0 -> key x <= key y) /\ cC (y :: r)
 | _ => True
end
variable {key : Int -> Int}
theorem mJ {x y : Int} : d6 key x y = true ↔ key x ≠ 0 /\ key x < key y := by simp [d6]
theorem mK {x y : Int} : d6 key x y = false ↔ key x = 0 ∨ key y <= key x := by
 simp only [d6, Bool.and_eq_false_imp, decide_eq_true_eq, decide_eq_false_iff_not]
 constructor
 ·intro h; by_cases h0 : key x = 0
  ·exact .inl h0
  ·exact .inr (by have := h h0; omega)
 ·rintro (h | h) h0
  ·exact absurd h h0
  ·omega
theorem zg3 {x : Int} : ∀ {B A : List Int}, (∀ y ∈ B, d6 key x y = true) -> (A = [] ∨ ∃ z A', A = z :: A' /\ d6 key x z = false) -> qF key x (B ++ A) = B ++ x :: A
 | [], A, _, h => by
   rcases h with rfl | ⟨z, A', rfl, h⟩
   ·rfl
   ·simp [qF, h]
 | y :: B, A, hB, h => by
   rw [List.cons_append, qF, if_pos (hB y List.mem_cons_self), zg3 (fun z hz => hB z (List.mem_cons_of_mem _ hz)) h]; rfl
theorem iH {x : Int} {A B : List Int} (h1 : ∀ y ∈ B, d6 key x y = true) (h2 : A = [] ∨ ∃ A' z, A = A' ++ [z] /\ d6 key x z = false) : ins key (A ++ B) x = A ++ x :: B := by
 unfold ins
 rw [List.reverse_append, zg3 (fun y hy => h1 y (List.mem_reverse.1 hy)) (h2.elim (fun e => .inl (by rw [e]; rfl)) fun ⟨A', z, e, h⟩ => .inr ⟨z, A'.reverse, by rw [e]; simp, h⟩)]
 simp
theorem qG (l : List Int) (x : Int) : ∃ A B, l = A ++ B /\ (∀ y ∈ B, d6 key x y = true) /\ (A = [] ∨ ∃ A' z, A = A' ++ [z] /\ d6 key x z = false) := by
 have : ∀ r : List Int, ∃ B A, r = B ++ A /\ (∀ y ∈ B, d6 key x y = true) /\ (A = [] ∨ ∃ z A', A = z :: A' /\ d6 key x z = false) := by
  intro r
  induction r with
  | nil => exact ⟨[], [], rfl, (fun y hy => by cases hy), .inl rfl⟩
  | cons y r ih =>
    cases hp : d6 key x y with
    | true =>
      obtain ⟨B, A, e, h1, h2⟩ := ih
      exact ⟨y :: B, A, by rw [e]; rfl, fun z hz => by rcases List.mem_cons.1 hz with rfl | hz; exact hp; exact h1 z hz, h2⟩
    | false => exact ⟨[], y :: r, rfl, (fun y hy => by cases hy), .inr ⟨y, r, rfl, hp⟩⟩
 obtain ⟨B, A, e, h1, h2⟩ := this l.reverse
 refine ⟨A.reverse, B.reverse, by rw [<- List.reverse_append, <- e]; simp, fun y hy => h1 y (List.mem_reverse.1 hy), h2.elim (fun e => .inl (by rw [e]; rfl)) fun ⟨z, A', e, h⟩ => .inr ⟨A'.reverse, z, by rw [e]; simp, h⟩⟩
theorem zg4 {l : List Int} {x y : Int} (hx : key x ≠ 0) (hxy : key x < key y) : ins key (ins key l y) x = ins key (ins key l x) y := by
 obtain ⟨B1, B2, rfl, b1, b2⟩ := qG (key := key) l y
 obtain ⟨C1, C2, rfl, c1, c2⟩ := qG (key := key) B1 x
 have px : ∀ z ∈ B2, d6 key x z = true := fun z hz => mJ.2 ⟨hx, by have := (mJ.1 (b1 z hz)).2; omega⟩
 rw [iH b1 b2]
 have e1 : C1 ++ C2 ++ y :: B2 = C1 ++ (C2 ++ y :: B2) := by simp
 have e2 : C1 ++ C2 ++ B2 = C1 ++ (C2 ++ B2) := by simp
 rw [e1, iH (B := C2 ++ y :: B2) (fun z hz => ?_) c2, e2, iH (B := C2 ++ B2) (fun z hz => ?_) c2]
 ·have e3 : C1 ++ x :: (C2 ++ B2) = (C1 ++ x :: C2) ++ B2 := by simp
  rw [e3, iH b1 (.inr ?_)]
  ·simp
  ·rcases C2.eq_nil_or_concat with rfl | ⟨D, z, rfl⟩
   ·exact ⟨C1, x, rfl, mK.2 (.inr (by omega))⟩
   ·refine ⟨C1 ++ x :: D, z, by simp, ?_⟩
    rcases b2 with e | ⟨A', z', e, h⟩
    ·simp at e
    ·have : z = z' := by
      have := congrArg List.getLast? e
      simp at this; exact this
     rw [this]; exact h
 ·rcases List.mem_append.1 hz with hz | hz
  ·exact c1 z hz
  ·exact px z hz
 ·rcases List.mem_append.1 hz with hz | hz
  ·exact c1 z hz
  ·rcases List.mem_cons.1 hz with rfl | hz
   ·exact mJ.2 ⟨hx, hxy⟩
   ·exact px z hz
theorem zqo {l : List Int} {x y : Int} (hx : key x ≠ 0) (hy : key y ≠ 0) (hxy : key x ≠ key y) : ins key (ins key l x) y = ins key (ins key l y) x := by
 rcases Int.lt_or_gt_of_ne hxy with h | h
 ·exact (zg4 hx h).symm
 ·exact zg4 hy h
theorem uA (l : List Int) (x : Int) : bF key (l ++ [x]) = ins key (bF key l) x := by simp [bF]
theorem Eqv.trans {a b c : List Int} (h : Eqv key a b) (k : Eqv key b c) : Eqv key a c := by
 induction h with
 | refl a => exact k
 | swap u v w x y hx hy hxy h ih => exact .swap u v c x y hx hy hxy (ih k)
theorem Eqv.app {a b : List Int} (h : Eqv key a b) (p q : List Int) : Eqv key (p ++ (a ++ q)) (p ++ (b ++ q)) := by
 induction h with
 | refl a => exact .refl _
 | swap u v w x y hx hy hxy h ih =>
   have := Eqv.swap (p ++ u) (v ++ q) _ x y hx hy hxy (by simpa using ih)
   simpa using this
theorem Eqv.symm {a b : List Int} (h : Eqv key a b) : Eqv key b a := by
 induction h with
 | refl a => exact .refl _
 | swap u v w x y hx hy hxy h ih => exact ih.trans (.swap u v _ y x hy hx (Ne.symm hxy) (.refl _))
theorem zg5 {a b : List Int} (h : Eqv key a b) : bF key a = bF key b := by
 induction h with
 | refl a => rfl
 | swap u v w x y hx hy hxy h ih =>
   rw [<- ih]
   simp only [bF, List.foldl_append, List.foldl_cons]
   rw [zqo hx hy hxy]
theorem Eqv.len {a b : List Int} (h : Eqv key a b) : a.length = b.length := by
 induction h with
 | refl a => rfl
 | swap u v w x y hx hy hxy h ih => rw [<- ih]; simp
theorem Eqv.mem {a b : List Int} (h : Eqv key a b) {z : Int} : z ∈ a ↔ z ∈ b := by
 induction h with
 | refl a => exact Iff.rfl
 | swap u v w x y hx hy hxy h ih => rw [<- ih]; simp only [List.mem_append, List.mem_cons]; exact or_congr_right ⟨fun h => h.elim (fun e => .inr (.inl e)) (fun h => h.elim .inl fun h => .inr (.inr h)), fun h => h.elim (fun e => .inr (.inl e)) (fun h => h.elim .inl fun h => .inr (.inr h))⟩
theorem Eqv.ahead {x : Int} (hx : key x ≠ 0) : ∀ {B : List Int} (q : List Int), (∀ y ∈ B, key y ≠ 0 /\ key y ≠ key x) -> Eqv key (B ++ x :: q) (x :: (B ++ q))
 | [], q, _ => .refl _
 | y :: B, q, h => by
   have h1 := Eqv.ahead hx (B := B) q fun z hz => h z (List.mem_cons_of_mem _ hz)
   have h2 := h1.app [y] []
   simp only [List.append_nil, List.cons_append, List.nil_append] at h2
   obtain ⟨hy, hyx⟩ := h y List.mem_cons_self
   exact h2.trans (.swap [] (B ++ q) _ y x hy hx hyx (.refl _))
theorem zqp (hk : ∀ x, 0 <= key x) (l : List Int) (x : Int) : Eqv key (l ++ [x]) (ins key l x) := by
 obtain ⟨A, B, rfl, h1, h2⟩ := qG (key := key) l x
 rw [iH h1 h2]
 by_cases hB : B = []
 ·subst hB; simp; exact .refl _
 ·obtain ⟨y, hy⟩ := List.exists_mem_of_ne_nil B hB
  have hx := (mJ.1 (h1 y hy)).1
  have := (Eqv.ahead hx (B := B) [] fun z hz => by have := (mJ.1 (h1 z hz)).2; have := hk x; omega).app A []
  simpa using this
theorem fV {p : List Int -> Prop} (h0 : p []) (h1 : ∀ l x, p l -> p (l ++ [x])) (l : List Int) : p l := by
 have : ∀ r : List Int, p r.reverse := by
  intro r
  induction r with
  | nil => exact h0
  | cons x r ih => rw [List.reverse_cons]; exact h1 _ _ ih
 have := this l.reverse
 rwa [List.reverse_reverse] at this
theorem uB (hk : ∀ x, 0 <= key x) (l : List Int) : Eqv key l (bF key l) := by
 induction l using fV with
 | h0 => exact .refl _
 | h1 l x ih =>
   rw [uA]
   have := ih.app [] [x]
   exact Eqv.trans (by simpa using this) (zqp hk _ x)
theorem jW : ∀ {A B : List Int}, cC key (A ++ B) ↔ cC key A /\ cC key B /\ (∀ z x, A.getLast? = some z -> B.head? = some x -> key x ≠ 0 -> key z <= key x)
 | [], B => by simp [cC]
 | [a], [] => by simp [cC]
 | [a], b :: B => by simp [cC, and_comm]
 | a :: c :: A, B => by
   have := jW (A := c :: A) (B := B)
   simp only [List.cons_append, cC] at this ⊢
   rw [this, List.getLast?_cons_cons, and_assoc]
theorem zqq {l : List Int} {x : Int} (h : cC key l) : cC key (ins key l x) := by
 obtain ⟨A, B, rfl, h1, h2⟩ := qG (key := key) l x
 rw [iH h1 h2]
 obtain ⟨q1, q2, q3⟩ := jW.1 h
 refine jW.2 ⟨q1, ?_, fun z x' hz hx' hx0 => ?_⟩
 ·cases B with
  | nil => trivial
  | cons y B => exact ⟨fun _ => Int.le_of_lt (mJ.1 (h1 y List.mem_cons_self)).2, q2⟩
 ·simp only [List.head?_cons, Option.some.injEq] at hx'
  subst hx'
  rcases h2 with rfl | ⟨A', z', rfl, hp⟩
  ·cases hz
  ·simp at hz; subst hz
   rcases mK.1 hp with h | h
   ·exact absurd h hx0
   ·exact h
theorem zqr (l : List Int) : cC key (bF key l) := by
 induction l using fV with
 | h0 => trivial
 | h1 l x ih => rw [uA]; exact zqq ih
theorem zg6 {l : List Int} (h : cC key l) : bF key l = l := by
 revert h
 induction l using fV with
 | h0 => exact fun _ => rfl
 | h1 l x ih =>
   intro h
   obtain ⟨q1, q2, q3⟩ := jW.1 h
   rw [uA, ih q1]
   have := iH (key := key) (x := x) (A := l) (B := []) (fun y hy => by cases hy) (by
    rcases l.eq_nil_or_concat with rfl | ⟨D, z, rfl⟩
    ·exact .inl rfl
    ·refine .inr ⟨D, z, by simp, mK.2 ?_⟩
     by_cases hx : key x = 0
     ·exact .inl hx
     ·exact .inr (q3 z x (by simp) rfl hx))
   simpa using this
theorem zg7 : ∀ {S' S : List Int}, Stab key S S' -> (∀ x ∈ S, key x ≠ 0) -> Eqv key S S'
 | [], S, h, _ => by have := h.len; cases S with | nil => exact .refl _ | cons => simp at this
 | y :: r, S, h, h0 => by
   have hf := h.2 (key y)
   rw [List.filter_cons, if_pos (by simp)] at hf
   obtain ⟨A, B, rfl, hA, hB⟩ := List.filter_eq_cons_iff.1 hf
   have hy : key y ≠ 0 := h0 y (by simp)
   have hA' : ∀ z ∈ A, key z ≠ key y := fun z hz => by have := hA z hz; simpa using this
   have e1 := Eqv.ahead hy (B := A) B fun z hz => ⟨h0 z (by simp [hz]), hA' z hz⟩
   have hs : Stab key (A ++ B) r := by
    refine ⟨(List.perm_cons y).1 ((List.perm_middle.symm).trans h.1), fun c => ?_⟩
    have := h.2 c
    rw [List.filter_append, List.filter_cons, List.filter_cons] at this
    rw [List.filter_append]
    by_cases hc : key y = c
    ·have hn : A.filter (fun x => decide (key x = c)) = [] := List.filter_eq_nil_iff.2 fun z hz => by simp only [decide_eq_true_eq]; intro e; exact hA' z hz (e.trans hc.symm)
     rw [hn] at this ⊢
     simp only [hc, decide_true, if_true, List.nil_append, List.cons.injEq, true_and] at this
     exact this
    ·simp only [hc, decide_false, Bool.false_eq_true, if_false] at this
     exact this
   have e2 := (zg7 hs fun z hz => h0 z (by rcases List.mem_append.1 hz with hz | hz <;> simp [hz])).app [y] []
   simp only [List.append_nil, List.cons_append, List.nil_append] at e2
   exact e1.trans e2
theorem zg8 : ∀ {S : List Int}, Srtd key S -> cC key S
 | [], _ => trivial
 | [a], _ => trivial
 | a :: b :: S, h => ⟨fun _ => (List.pairwise_cons.1 h).1 b List.mem_cons_self, zg8 (List.pairwise_cons.1 h).2⟩
theorem uC (L : List Int) {i j : Nat} (hij : i <= j) (hj : j <= L.length) : L = L.take i ++ ((L.take j).drop i ++ L.drop j) /\ (L.take i).length = i /\ ((L.take j).drop i).length = j - i := by
 refine ⟨?_, by rw [List.length_take]; omega, by rw [List.length_drop, List.length_take]; omega⟩
 have h1 : L = L.take j ++ L.drop j := (List.take_append_drop j L).symm
 have h2 : L.take j = (L.take j).take i ++ (L.take j).drop i := (List.take_append_drop i _).symm
 rw [List.take_take, Nat.min_eq_left hij] at h2
 rw [<- List.append_assoc, <- h2]; exact h1
theorem zqs (hk : ∀ x, 0 <= key x) {L : List Int} {i j : Nat} (hij : i <= j) (hj : j <= L.length) (hb : i = 0 ∨ key (L.getD (i - 1) 0) = 0) (hnz : ∀ k, i <= k -> k < j -> key (L.getD k 0) ≠ 0) (hend : j = L.length ∨ key (L.getD j 0) = 0)
 (hc : cC key (L.take i)) {S' : List Int} (hs : Srtd key S') (hst : Stab key ((L.take j).drop i) S') :
 Eqv key L (L.take i ++ (S' ++ L.drop j)) /\ cC key ((L.take i ++ (S' ++ L.drop j)).take (j + 1)) /\ (j < L.length -> key ((L.take i ++ (S' ++ L.drop j)).getD j 0) = 0) := by
 obtain ⟨c1, c2, c3⟩ := uC L hij hj
 have hl : S'.length = j - i := by rw [<- hst.len]; exact c3
 refine ⟨?_, ?_, fun hlt => ?_⟩
 ·have hm : ∀ x ∈ (L.take j).drop i, key x ≠ 0 := fun x hx => by
   obtain ⟨k, hk1, hk2⟩ := List.getElem_of_mem hx
   have := hnz (i + k) (by omega) (by omega)
   rw [List.getElem_drop, List.getElem_take] at hk2
   have hl2 : i + k < L.length := by omega
   simp only [List.getD, List.getElem?_eq_getElem hl2, Option.getD_some, hk2] at this
   exact this
  have := (zg7 hst hm).app (L.take i) (L.drop j)
  rwa [<- c1] at this
 ·rw [List.take_append, c2, List.take_of_length_le (by omega), List.take_append, hl, List.take_of_length_le (by omega : S'.length <= j + 1 - i), show j + 1 - i - (j - i) = 1 by omega]
  have hR : ∀ x, ((L.drop j).take 1).head? = some x -> key x = 0 := fun x hx => by
   rcases hend with e | e
   ·rw [List.drop_eq_nil_of_le (by omega)] at hx; cases hx
   ·rcases Nat.lt_or_ge j L.length with h' | h'
    ·rw [List.drop_eq_getElem_cons h'] at hx
     simp only [List.take_succ_cons, List.head?_cons, Option.some.injEq] at hx
     rw [<- hx]
     simpa [List.getD, List.getElem?_eq_getElem h'] using e
    ·rw [List.drop_eq_nil_of_le h'] at hx; cases hx
  refine jW.2 ⟨hc, jW.2 ⟨zg8 hs, ?_, fun z x _ hx h0 => absurd (hR x hx) h0⟩, fun z x hz hx h0 => ?_⟩
  ·cases L.drop j with
   | nil => trivial
   | cons a r => trivial
  ·have : key z = 0 := by
    rcases hb with rfl | hb
    ·simp at hz
    ·rw [List.getLast?_eq_getElem?, c2] at hz
     by_cases h0 : i = 0
     ·subst h0; simp at hz
     ·rw [List.getElem?_take, if_pos (by omega)] at hz
      simpa [List.getD, hz] using hb
   rw [this]; exact hk x
 ·rcases hend with e | e
  ·omega
  ·rw [<- List.append_assoc]
   simp only [List.getD] at e ⊢
   rw [List.getElem?_append_right (by simp only [List.length_append]; omega), List.length_append, c2, hl, List.getElem?_drop, show j + (j - (i + (j - i))) = j by omega]
   exact e
theorem zqt {S : List Int} (h : S.length <= 1) : Srtd key S := by
 match S, h with
 | [], _ => exact List.Pairwise.nil
 | [a], _ => exact List.pairwise_singleton _ _
end Go.Eng.Srt



namespace Go.Eng
open Go Go.Proofs Go.Eng.Rows Go.Eng.Srt
section
variable {Z : World -> (Nat -> Prop) -> (Nat -> Pl) -> Hp -> Prop} {key : Int -> Int} {nl : Bool} {T : PV} {l : Nat} {y : Value} {es : List (List PV)}
theorem eI0 (Q : Qt) : dL Tryz.prog (fun _ => none) 5 39 lM (fun _ => none) (dN (cM Tryz.f157)) (fE [.pv (.raw y), .box 4 0, .box 3 0] 0) (aL nl T es) Q = Q .normal (eN y 0) (aL nl T es) := by kernel_rfl
theorem eI1 (i : Int) (Q : Qt) : dL Tryz.prog (fun _ => none) 5 39 lM (fun _ => none) (dN (cL Tryz.f157)) (eN y i) (aL nl T es) Q =
 if decide (i < (es.length : Int)) = true then Q .normal [(0, .pv (.raw y)), (1, .box 4 0), (2, .box 3 0), (4, .pv (.int .i64 i)), (9, .pv (.bool (decide (i < (es.length : Int)))))] (aL nl T es)
 else Q (.exit 0) [(0, .pv (.raw y)), (1, .box 4 0), (2, .box 3 0), (4, .pv (.int .i64 i)), (9, .pv (.bool (decide (i < (es.length : Int)))))] (aL nl T es) := by kernel_rfl
theorem eI3 (i : Int) (Q : Qt) : dL Tryz.prog (fun _ => none) 5 39 lM (fun _ => none) (dN (cB Tryz.f157)) (eN y i) (aL nl T es) Q = Q .normal (eM y i i) (aL nl T es) := by kernel_rfl
theorem eI2 (i : Int) (Q : Qt) : dL Tryz.prog (fun _ => none) 5 39 lM (fun _ => none) (cW (cW (cL Tryz.f157))) (eN y i) (aL nl T es) Q = Q .normal (eN y (i64.wrap (i + 1))) (aL nl T es) := by kernel_rfl
def zW (y : Value) (i f : Int) (b : Bool) : Env := [(0, .pv (.raw y)), (1, .box 4 0), (2, .box 3 0), (4, .pv (.int .i64 i)), (5, .pv (.int .i64 f)), (25, .pv (.bool b))]
theorem eI4 (i f : Int) (J : Int -> Prop) (μ : Int -> Nat) (Q : Qt) : dL Tryz.prog (fun _ => none) 5 39 lM (fun zz_ => match zz_ with | 4 => some ⟨Int × Unit, fun s => (eM y s.1 f, aL nl T es), fun _ s => J s.1, fun s => μ s.1, fun e h => (gI e 4, ()), [], [0, 1, 2, 4, 5], [], fun p => ∀ (x4 : Int), p (x4, ()), fun p h s => h s.1⟩ | _ => none) (dN (cW (cB Tryz.f157))) (eM y i f) (aL nl T es) Q =
 ((SameSt (eM y i f, aL nl T es) (eM y i f, aL nl T es) /\ J i) /\ ∀ (x4 : Int), J x4 -> if decide (x4 < (es.length : Int)) = true then aJ es x4 1 /\ ∃ (n : Int), (List.drop 0 (es.getD x4.toNat [])).head? = some (.int .i32 n) /\ PCall Tryz.prog 90 [T, .int .i32 n] fun (v : PV) => ∃ (n1 : Int), v = .int .i64 n1 /\
  if (n1 != (0 : Int)) = true then SameSt (eM y (i64.wrap (x4 + 1)) f, aL nl T es) (eM y (i64.wrap (x4 + 1)) f, aL nl T es) /\ J (i64.wrap (x4 + 1)) /\ μ (i64.wrap (x4 + 1)) < μ x4
  else Q .normal (zW y x4 f (n1 != (0 : Int))) (aL nl T es)
   else Q .normal (zW y x4 f false) (aL nl T es)) := by kernel_rfl
theorem zX : cM Tryz.f157 = .seq (dN (cM Tryz.f157)) (.block 0 (.loop (cL Tryz.f157))) /\
 cL Tryz.f157 = .seq (dN (cL Tryz.f157)) (.seq (.block 1 (cB Tryz.f157)) (cW (cW (cL Tryz.f157)))) /\
 cB Tryz.f157 = .seq (dN (cB Tryz.f157)) (.seq (dN (cW (cB Tryz.f157))) (.seq (dM Tryz.f157) (.cond (.tmp 38) .ret .skip))) := ⟨by kernel_rfl, by kernel_rfl, by kernel_rfl⟩
theorem CodeZ.le {P : Program} {N : Nat} {c : Code} {e e' : Env} {h : Hp} {Q : Qt} (hl : LeE e' e) (hK : CodeZ Z P N c e' h Q) : CodeZ Z P N c e h Q :=
 fun w I G a Qx hs hz hq => hK w I G a Qx (hs.le hl.le) hz hq
theorem zqu (hk : ∀ x, 0 <= key x) (hT : ∀ r : Int, (-2147483648 <= r /\ r <= 2147483647) -> PCall Tryz.prog 90 [T, .int .i32 r] fun v => v = .int .i64 (key r)) 
 (hZ : ∀ w I G h w' I' G' h', Z w I G h -> HRel w I G h -> HRel w' I' G' h' -> TrN 5 w I G h w' I' G' h' -> Z w' I' G' h') (L0 : List Int) (hY : zV Z key nl T l L0.length) (hr : R32 L0) (hL : L0.length < 1000000000000) :
 CodeZ Z Tryz.prog 39 (cM Tryz.f157) (fE [.pv (.raw (.func (.yield l) #[] #[])), .box 4 0, .box 3 0] 0) (aL nl T (aA L0)) fun x e h => x = .normal /\ h = aL nl T (aA (bF key L0)) := by
 obtain ⟨y, hy⟩ : ∃ y : Value, y = .func (.yield l) #[] #[] := ⟨_, rfl⟩
 rw [zX.1, <- hy]
 refine CodeZ.seq (CodeZ.of (n0 := 5) hZ (gM (Eq.mpr (eI0 _) ?_)))
 show CodeZ Z Tryz.prog 39 (.block 0 (.loop (cL Tryz.f157))) (eN y 0) (aL nl T (aA L0)) _
 refine CodeZ.block (CodeZ.loop (σ := Nat × List Int) (fun s => (eN y s.1, aL nl T (aA s.2))) (fun s => s.1 <= L0.length + 1 /\ Eqv key L0 s.2 /\ cC key (s.2.take s.1) /\ (s.1 = 0 ∨ L0.length < s.1 ∨ key (s.2.getD (s.1 - 1) 0) = 0)) (fun s => L0.length + 1 - s.1) (0, L0) (LeE.le ⟨rfl, rfl, rfl, rfl, trivial⟩) rfl ⟨by omega, .refl _, by simp [cC], .inl rfl⟩ ?_)
 rintro ⟨i, L⟩ ⟨hi, hq, hc, hb⟩
 have hlen := hq.len
 have hr' : R32 L := fun x hx => hr x (hq.mem.2 hx)
 dsimp only at hi hq hc hb hlen ⊢
 rw [zX.2.1]
 refine CodeZ.seq (CodeZ.of (n0 := 5) hZ (gM (Eq.mpr (eI1 _ _) ?_)))
 by_cases hlt : i < L.length
 ·rw [if_pos (by simpa using hlt)]
  show CodeZ Z Tryz.prog 39 (.seq (.block 1 (cB Tryz.f157)) (cW (cW (cL Tryz.f157)))) _ _ _
  refine CodeZ.le (e' := eN y i) ⟨rfl, rfl, rfl, rfl, trivial⟩ (CodeZ.seq (CodeZ.block ?_))
  rw [zX.2.2]
  refine CodeZ.seq (CodeZ.of (n0 := 5) hZ (gM (Eq.mpr (eI3 _ _) ?_)))
  show CodeZ Z Tryz.prog 39 (.seq (dN (cW (cB Tryz.f157))) (.seq (dM Tryz.f157) (.cond (.tmp 38) .ret .skip))) (eM y i i) _ _
  refine CodeZ.seq (CodeZ.of (n0 := 5) hZ (gM (Eq.mpr (eI4 _ _ (fun x => ∃ j : Nat, x = j /\ i <= j /\ j <= L.length /\ ∀ k, i <= k -> k < j -> key (L.getD k 0) ≠ 0) (fun x => ((L.length : Int) - x).toNat) _) ?_)))
  refine ⟨⟨rfl, i, rfl, Nat.le_refl _, by omega, fun k h1 h2 => by omega⟩, ?_⟩
  rintro _ ⟨j, rfl, hij, hj, hnz⟩
  -- what follows the row of marks
  have rest : ∀ b, (j = L.length ∨ key (L.getD j 0) = 0) -> CodeZ Z Tryz.prog 39 (.seq (dM Tryz.f157) (.cond (.tmp 38) .ret .skip)) (zW y j i b) (aL nl T (aA L)) fun x e h => match x with
   | .normal => CodeZ Z Tryz.prog 39 (cW (cW (cL Tryz.f157))) e h fun x e h => match x with
     | .normal => ∃ s' : Nat × List Int, (∀ i v, get (eN y s'.1) i = some v -> get e i = some v) /\ h = aL nl T (aA s'.2) /\ (s'.1 <= L0.length + 1 /\ Eqv key L0 s'.2 /\ cC key (s'.2.take s'.1) /\ (s'.1 = 0 ∨ L0.length < s'.1 ∨ key (s'.2.getD (s'.1 - 1) 0) = 0)) /\ L0.length + 1 - s'.1 < L0.length + 1 - i
     | _ => False
   | _ => False := fun b hend => by
   refine CodeZ.le (e' := eM y j i) ⟨rfl, rfl, rfl, rfl, rfl, trivial⟩ (CodeZ.seq ?_)
   rw [hy]
   refine (zqn hY hZ L i j hij hj hr' (by omega) hlen.symm).mono ?_
   rintro _ _ _ ⟨L', rfl, hL', rfl, rfl⟩
   refine CodeZ.cond (t := false) rfl ?_
   simp only [Bool.false_eq_true, if_false]
   refine CodeZ.skip ?_
   rw [<- hy]
   refine CodeZ.le (e' := eN y j) ⟨rfl, rfl, rfl, rfl, trivial⟩ (CodeZ.of (n0 := 5) hZ (gM (Eq.mpr (eI2 _ _) ?_)))
   have wj : i64.wrap ((j : Int) + 1) = ((j + 1 : Nat) : Int) := by rw [aD (by omega) (by omega)]; omega
   rw [wj]
   have hb' : i = 0 ∨ key (L.getD (i - 1) 0) = 0 := by
    rcases hb with h | h | h
    ·exact .inl h
    ·omega
    ·exact .inr h
   obtain ⟨S', hs, hst, rfl⟩ : ∃ S', Srtd key S' /\ Stab key ((L.take j).drop i) S' /\ L' = L.take i ++ (S' ++ L.drop j) := by
    by_cases h1 : i + 1 < j
    ·rw [if_pos h1] at hL'
     obtain ⟨S', e, h2, h3⟩ := hL'
     exact ⟨S', h2, h3, e⟩
    ·rw [if_neg h1] at hL'
     obtain ⟨c1, c2, c3⟩ := uC L hij hj
     exact ⟨_, zqt (by omega), Stab.refl _, hL'.trans c1⟩
   obtain ⟨g1, g2, g3⟩ := zqs hk hij hj hb' hnz hend hc hs hst
   refine ⟨(j + 1, _), LeE.le ⟨rfl, rfl, rfl, rfl, trivial⟩, rfl, ⟨by dsimp only; omega, hq.trans g1, g2, ?_⟩, by dsimp only; omega⟩
   rcases Nat.lt_or_ge j L.length with h | h
   ·exact .inr (.inr (g3 h))
   ·exact .inr (.inl (by dsimp only; omega))
  by_cases hjl : j < L.length
  ·rw [if_pos (by simpa using hjl)]
   refine ⟨bU (enc := fun n => [PV.int .i32 n]) (l := L) (fun _ => rfl) (by omega) (by omega), L.getD j 0, by rw [Int.toNat_natCast, zdj hjl]; rfl, (hT _ (hr' _ (List.mem_of_getElem? (qD hjl)))).mono ?_⟩
   rintro _ rfl
   refine ⟨_, rfl, ?_⟩
   by_cases hz : key (L.getD j 0) = 0
   ·rw [if_neg (by simpa using hz)]
    exact (rest _ (.inr hz)).mono fun x e h hx => by cases x <;> first | exact hx.elim | exact CodeZ.mono hx fun x e h hx => (by cases x <;> first | exact hx | exact hx.elim)
   ·rw [if_pos (by simpa using hz)]
    have wj : i64.wrap ((j : Int) + 1) = ((j + 1 : Nat) : Int) := by rw [aD (by omega) (by omega)]; omega
    rw [wj]
    refine ⟨rfl, ⟨j + 1, rfl, by omega, hjl, fun k h1 h2 => ?_⟩, by omega⟩
    rcases Nat.lt_or_ge k j with h | h
    ·exact hnz k h1 h
    ·have : k = j := by omega
     subst this; exact hz
  ·rw [if_neg (by simpa using hjl)]
   exact (rest _ (.inl (by omega))).mono fun x e h hx => by cases x <;> first | exact hx.elim | exact CodeZ.mono hx fun x e h hx => (by cases x <;> first | exact hx | exact hx.elim)
 ·rw [if_neg (by simpa using hlt)]
  refine ⟨rfl, ?_⟩
  rw [List.take_of_length_le (by omega)] at hc
  rw [zg5 hq, zg6 hc]
end
end Go.Eng



namespace Go.Eng
open Go Go.Proofs Go.Eng.Rows Go.Eng.Srt
section
variable {w w' : World} {I I' : Nat -> Prop} {G G' : Nat -> Pl} {h h' : Hp}
theorem HRel.off (hh : HRel w I G h) {l : Nat} (o : Obj) (hI : ¬ I l) (ho : ¬ aV h G l) : HRel (w.putObj l o) I G h := by
 have hw : ∀ b, b ≠ l -> (w.putObj l o).heap[b]? = w.heap[b]? := fun b hb => World.putObj_heap_other hb
 have hk : Keeps w I (w.putObj l o) I := ⟨fun b hb _ => hw b fun e => hI (e ▸ hb), fun b hb _ => hb⟩
 have blk : ∀ (i : Nat) x, h[i]? = some x -> x.alive (G i) -> (G i).blk ≠ l := fun i x hx ha e => ho ⟨i, x, hx, ha, e⟩
 refine ⟨fun i x hx => ?_, hh.sep, hh.nI, fun b hb => by rw [World.putObj_size]; exact hh.cl b hb⟩
 have := hh.obs i x hx
 cases x with
 | dead => trivial
 | box cs => obtain ⟨vs, ty, e1, e2, e3⟩ := this; exact ⟨vs, ty, by rw [hw _ (blk i _ hx trivial)]; exact e1, e2, fun k v hv => ⟨(e3 k v hv).1.mono hk (.refl _ _), (e3 k v hv).2⟩⟩
 | arr cs => obtain ⟨vs, ty, e1, e2, e3⟩ := this; exact ⟨vs, ty, by rw [hw _ (blk i _ hx trivial)]; exact e1, e2, fun k v hv => ⟨(e3 k v hv).1.mono hk.1 hk.2, (e3 k v hv).2⟩⟩
 | sl ty m n es =>
   cases n with
   | true => exact this
   | false =>
     obtain ⟨e1, e2, e3, e3', e4, e5⟩ := this
     refine ⟨e1, e2, e3, e3', e4, fun hc => ?_⟩
     obtain ⟨vs, f1, f2, f3⟩ := e5 hc
     exact ⟨vs, by rw [hw _ (blk i _ hx ⟨rfl, hc⟩)]; exact f1, f2, fun i' e he k v hv => ⟨(f3 i' e he k v hv).1.mono hk.1 hk.2, (f3 i' e he k v hv).2⟩⟩
 | mp kvs => obtain ⟨es, ck, e1, e2, e3⟩ := this; exact ⟨es, ck, by rw [hw _ (blk i _ hx trivial)]; exact e1, e2, fun k kv hv => ⟨(e3 k kv hv).1.mono hk.1 hk.2, (e3 k kv hv).2.mono hk.1 hk.2⟩⟩
 | iter ty rem cur => exact IterRel.mono this (hw _ (blk i _ hx trivial)) hk
theorem jX (hh : HRel w I G h) {b : Nat} {o : Obj} (ho : w.heap[b]? = some o) (hn : (match o with | .cells .. => true | .map .. => true | .mapIter .. => true | _ => false) = false) : ¬ aV h G b := by
 rintro ⟨i, ob, hi, ha, rfl⟩
 have := hh.obs i ob hi
 cases ob with
 | dead => exact ha
 | box cs => obtain ⟨vs, ty, e1, _⟩ := this; rw [ho] at e1; cases e1; cases hn
 | arr cs => obtain ⟨vs, ty, e1, _⟩ := this; rw [ho] at e1; cases e1; cases hn
 | sl ty m n es =>
   cases n with
   | true => exact absurd ha.1 (by simp)
   | false => obtain ⟨vs, e1, _⟩ := this.2.2.2.2.2 ha.2; rw [ho] at e1; cases e1; cases hn
 | mp kvs => obtain ⟨es, ck, e1, _⟩ := this; rw [ho] at e1; cases e1; cases hn
 | iter ty rem cur => obtain ⟨_, _, _, _, _, _, e1, _⟩ := this; rw [ho] at e1; cases e1; cases hn
theorem Tr.off {own own' : Nat -> Prop} (t : Tr w I own w' I' own') {l : Nat} (hl : w.heap.size <= l) (o : Obj) : Tr w I own (w'.putObj l o) I' own' :=
 ⟨t.os, t.tape, t.output, by rw [World.putObj_size]; exact t.size, fun b hb hn => (World.putObj_heap_other (by omega)).trans (t.keep b hb hn), t.i1, t.i2, t.own2,
  fun a ha => (World.frozen?_of_block (World.putObj_heap_other (by omega))).trans (t.frz a ha), t.drawn⟩
theorem TrN.off {n0 : Nat} (t : TrN n0 w I G h w' I' G' h') {l : Nat} (hl : w.heap.size <= l) (o : Obj) : TrN n0 w I G h (w'.putObj l o) I' G' h' := ⟨t.t.off hl o, t.len, t.stay⟩
theorem qH (hh : HRel w I G h) (t : Tr w I (aV h G) w' I' (aV h' G')) : Keeps w I w' I' :=
 ⟨fun b hb hlt => t.keep b hlt fun ⟨o, ob, h1, h2, e⟩ => hh.nI o ob h1 h2 (e ▸ hb), fun b hb _ => t.i1 b hb⟩
theorem Keeps.trans {w1 w2 : World} {I1 I2 : Nat -> Prop} (h : Keeps w I w1 I1) (hs : w.heap.size <= w1.heap.size) (k : Keeps w1 I1 w2 I2) : Keeps w I w2 I2 :=
 ⟨fun b hb hlt => (k.1 b (h.2 b hb hlt) (Nat.lt_of_lt_of_le hlt hs)).trans (h.1 b hb hlt), fun b hb hlt => k.2 b (h.2 b hb hlt) (Nat.lt_of_lt_of_le hlt hs)⟩
theorem Keeps.off {l : Nat} (hI : ¬ I l) (o : Obj) : Keeps w I (w.putObj l o) I := ⟨fun b hb _ => World.putObj_heap_other fun e => hI (e ▸ hb), fun b hb _ => hb⟩
structure ZR (W0 : World) (I0 : Nat -> Prop) (G0 : Nat -> Pl) (h0 : Hp) (l D : Nat) (rec : Loop) (W : World) (I : Nat -> Prop) (G : Nat -> Pl) (h : Hp) : Prop where
 t : TrN 5 W0 I0 G0 h0 W I G h
 hl : W.heap[l]? = some (.loop rec)
 hD : W.heap[D]? = some (.deferred (some []))
 nl : ¬ I l
 nD : ¬ I D
theorem ZR.step {W0 : World} {I0 : Nat -> Prop} {G0 : Nat -> Pl} {h0 : Hp} {l D : Nat} {rec : Loop} (z : ZR W0 I0 G0 h0 l D rec w I G h) (hh : HRel w I G h) (t : TrN 5 w I G h w' I' G' h') : ZR W0 I0 G0 h0 l D rec w' I' G' h' := by
 have l1 := (Array.getElem?_eq_some_iff.1 z.hl).1
 have l2 := (Array.getElem?_eq_some_iff.1 z.hD).1
 have n1 := jX hh z.hl rfl
 have n2 := jX hh z.hD rfl
 exact ⟨z.t.trans t, (t.t.keep l l1 n1).trans z.hl, (t.t.keep D l2 n2).trans z.hD, fun x => (t.t.i2 l x).elim z.nl (fun x => x.elim n1 fun x => by omega), fun x => (t.t.i2 D x).elim z.nD (fun x => x.elim n2 fun x => by omega)⟩
end
section
variable {key : Int -> Int} {nl : Bool} {T : PV}
theorem zY {G G' : Nat -> Pl} {es es' : List (List PV)} (hl : es.length = es'.length) (hG : ∀ o, o < 5 -> G' o = G o) : Like G G' (aL nl T es) (aL nl T es') := by
 intro o ob ho
 have hlt : o < 5 := (List.getElem?_eq_some_iff.1 ho).1
 refine ⟨?_, fun _ => hG o hlt⟩
 match o, ho with
 | 0, ho => cases ho; exact ⟨_, rfl, trivial⟩
 | 1, ho => cases ho; exact ⟨_, rfl, rfl, rfl, hl⟩
 | 2, ho => cases ho; exact ⟨_, rfl, trivial⟩
 | 3, ho => cases ho; exact ⟨_, rfl, trivial⟩
 | 4, ho => cases ho; exact ⟨_, rfl, trivial⟩
theorem uD {w w' : World} {I I' : Nat -> Prop} {G G' : Nat -> Pl} {es es' : List (List PV)} (t : TrN 5 w I G (aL nl T es) w' I' G' (aL nl T es')) : ∀ o, o < 5 -> G' o = G o := by
 intro o ho
 have hs := t.stay (Nat.le_refl _)
 match o, ho with
 | 0, _ => exact (hs 0 _ (by omega) rfl rfl).1
 | 1, _ => exact (hs 1 _ (by omega) rfl rfl).1
 | 2, _ => exact (hs 2 _ (by omega) rfl rfl).1
 | 3, _ => exact (hs 3 _ (by omega) rfl rfl).1
 | 4, _ => exact (hs 4 _ (by omega) rfl rfl).1
theorem eA3 (es : List (List PV)) (i f : Int) (K : Env -> Hp -> Prop) : cD Tryz.prog (fun _ => none) 22 (cK (dN (fP (cX Tryz.f118)))).toList (cK (dN (fP (cX Tryz.f118)))).toList (eO f i) (aL nl T es) K = K ((6, .pv (.int .i64 f)) :: eO f i) (aL nl T es) := by kernel_rfl
theorem eA4 (es : List (List PV)) (i f : Int) (K : Env -> Hp -> Prop) : cD Tryz.prog (fun _ => none) 22 (cK (cW (fP (cX Tryz.f118)))).toList (cK (cW (fP (cX Tryz.f118)))).toList ((6, .pv (.int .i64 f)) :: eO f i) (aL nl T es) K = K ((7, .pv (.int .i64 i)) :: (6, .pv (.int .i64 f)) :: eO f i) (aL nl T es) := by kernel_rfl
theorem eA5 (es : List (List PV)) (i f : Int) (K : Env -> Hp -> Prop) : cD Tryz.prog xF 22 (cK (iD (fQ (cX Tryz.f118)))).toList (cK (iD (fQ (cX Tryz.f118)))).toList ((7, .pv (.int .i64 i)) :: (6, .pv (.int .i64 f)) :: eO f i) (aL nl T es) K =
 (cR es.length (some f) (some i) none /\ ACall Tryz.prog 140 [.sub 0 f.toNat i.toNat, .fn 141 [.box 1 0]] [.sl (21, 1) false nl es, .box [.pv T]] fun (r : LV) (h' : Hp) => ∃ (t : List (List PV)), (r = .tup [] /\ h' = [.sl (21, 1) false nl t, .box [.pv T]]) /\
  (True /\ (((21, 1) : Nat × Nat) = (21, 1) /\ nl = nl /\ es.length = t.length) /\ True) /\ K ((20, .tup []) :: (19, .fn 141 [.box 0 0]) :: (18, .sub 1 f.toNat i.toNat) :: (17, .pv (.int .i64 i)) :: (16, .pv (.int .i64 f)) :: (15, .own 1) :: (7, .pv (.int .i64 i)) :: (6, .pv (.int .i64 f)) :: eO f i) (aL nl T t)) := by kernel_rfl
theorem zg9 : fP (cX Tryz.f118) = .seq (.region 3 (cK (dN (fP (cX Tryz.f118)))) false) (.region 4 (cK (cW (fP (cX Tryz.f118)))) false) /\ fQ (cX Tryz.f118) = .block 1 (.region 5 (cK (iD (fQ (cX Tryz.f118)))) false) /\
 cX Tryz.f118 = .rangeFunc (.tmp 12) #[13, 14] (fP (cX Tryz.f118)) (fQ (cX Tryz.f118)) /\ iU (cK (dN (fP (cX Tryz.f118)))).toList = true /\ iU (cK (cW (fP (cX Tryz.f118)))).toList = true /\ iU (cK (iD (fQ (cX Tryz.f118)))).toList = true :=
 ⟨by kernel_rfl, by kernel_rfl, by kernel_rfl, by kernel_rfl, by kernel_rfl, by kernel_rfl⟩
theorem zqv (hc : iX T key) {W0 : World} {I0 : Nat -> Prop} {G0 : Nat -> Pl} {L0 : List Int} {a : Act} {v12 : LV} (hs0 : SRel W0 I0 G0 [(2, .box 0 0), (5, .box 2 0), (12, v12)] (aL nl T (aA L0)) 22 a) (rec : Loop)
 (r1 : rec.state = .ready) (r2 : rec.pending = none) (r3 : rec.tmps = a.tmps) (r4 : rec.params = #[13, 14]) (r5 : rec.assign = fP (cX Tryz.f118)) (r6 : rec.body = fQ (cX Tryz.f118)) :
 zV (ZR W0 I0 G0 (aL nl T (aA L0)) (W0.heap.size + 1) W0.heap.size rec) key nl T (W0.heap.size + 1) L0.length := by
 intro w I G L f i hh hz hfi hil hr hLn hN
 obtain ⟨l, hl⟩ : ∃ l, l = W0.heap.size + 1 := ⟨_, rfl⟩
 have hWl : W0.heap.size <= l := by omega
 rw [<- hl] at hz ⊢
 refine ⟨_, _, _, _, run_yield (P := Tryz.prog) hz.hl (by rw [r4]; rfl), roundIn_of_wpIn trivial ?_⟩
 have hlt := (Array.getElem?_eq_some_iff.1 hz.hl).1
 have hel : ∀ L' : List Int, L'.length = L.length -> (aA L0).length = (aA L').length := fun L' h => by simp [hN, h]
 have hs : SRel w I G (eO f i) (aL nl T (aA L)) 22 { tmps := (a.tmps.setIfInBounds 13 (.int .i64 f)).setIfInBounds 14 (.int .i64 i), defers := [] } := by
  have h1 := hs0.he.mono (qH hs0.hh hz.t.t) (zY (hel L rfl) (uD hz.t))
  have h2 := h1.set (d := 13) (v := .pv (.int .i64 f)) (by rw [hs0.hn]; omega) (.pv _ _ (.int .i64 f)) (fun _ _ _ e => by cases e)
  have h3 := h2.set (d := 14) (v := .pv (.int .i64 i)) (by simp [hs0.hn]) (.pv _ _ (.int .i64 i)) (fun _ _ _ e => by cases e)
  exact ⟨hh, fun k v hk => h3 k v ((LeE.le (e' := eO f i) ⟨rfl, rfl, rfl, rfl, trivial⟩) k v hk), by simp [hs0.hn]⟩
 obtain ⟨q1, q2, q3, q4, q5, q6⟩ := zg9
 rw [r5, q1, r4, r3]
 have hfold : ∀ x y : Value, (((#[13, 14] : Array Tmp).zip #[x, y]).foldl (fun tmps (t, a) => tmps.setIfInBounds t a) a.tmps) = (a.tmps.setIfInBounds 13 x).setIfInBounds 14 y := fun x y => by simp
 rw [hfold]
 refine wpIn_seq ?_
 show Code.wpIn (wd (some l)) 0 Tryz.prog _ (Exit.then (Code.wpIn (wd (some l)) 0 Tryz.prog _ _) _) { tmps := (a.tmps.setIfInBounds 13 (.int .i64 f)).setIfInBounds 14 (.int .i64 i), defers := [] } w
 refine xG q4 (by rw [eA3]; exact ⟨rfl, rfl⟩ : cD Tryz.prog (fun _ => none) 22 _ _ _ _ (fun e' h' => e' = _ /\ h' = _)) hs ?_ ?_
 ·exact fun a w h => h
 rintro _ _ w1 I1 G1 a1 ⟨rfl, rfl⟩ hs1 hd1 ht1
 refine xG q5 (by rw [eA4]; exact ⟨rfl, rfl⟩ : cD Tryz.prog (fun _ => none) 22 _ _ _ _ (fun e' h' => e' = _ /\ h' = _)) hs1 ?_ ?_
 ·exact fun a w h => h
 rintro _ _ w2 I2 G2 a2 ⟨rfl, rfl⟩ hs2 hd2 ht2
 have z1 := hz.step hh ht1.toN
 have z2 := z1.step hs1.hh ht2.toN
 refine ⟨_, run_beginRound z2.hl r1, ?_⟩
 have n2 := jX hs2.hh z2.hl rfl
 have l2 := (Array.getElem?_eq_some_iff.1 z2.hl).1
 have hs3 : SRel (w2.putObj l (.loop { rec with state := .busy })) I2 G2 _ _ 22 a2 := ⟨hs2.hh.off _ z2.nl n2, hs2.he.mono (Keeps.off z2.nl _) (.refl _ _), hs2.hn⟩
 have hp3 : (w2.putObj l (.loop { rec with state := .busy })).heap[l]? = some (.loop { rec with state := .busy }) := World.putObj_heap_same l2
 have hb : ∀ {c : Code} {Q a w}, c = fQ (cX Tryz.f118) -> Code.wpIn (wd (some l)) 0 Tryz.prog (.block 1 (.region 5 (cK (iD (fQ (cX Tryz.f118)))) false)) Q a w -> Code.wpIn (wd (some l)) 0 Tryz.prog c Q a w := fun e h => by rw [e, q2]; exact h
 refine hb r6 ?_
 have h5 : cD Tryz.prog xF 22 (cK (iD (fQ (cX Tryz.f118)))).toList (cK (iD (fQ (cX Tryz.f118)))).toList ((7, .pv (.int .i64 i)) :: (6, .pv (.int .i64 f)) :: eO f i) (aL nl T (aA L)) (fun _ h' => ∃ L', YQ key L f i L' /\ h' = aL nl T (aA L')) := by
  rw [eA5, Int.toNat_natCast, Int.toNat_natCast]
  obtain ⟨c1, c2, c3⟩ := uC L (show f <= i by omega) hil
  have e : aA L = aA (L.take f ++ ((L.take i).drop f ++ L.drop i)) := congrArg aA c1
  refine ⟨⟨by simp, by simp; omega, by simp; omega, trivial⟩, ?_⟩
  rw [e]
  refine (zqi hc f i nl (L.take f) ((L.take i).drop f) (L.drop i) c2 (by omega) (by rw [<- c1]; exact hr) (by omega)).mono ?_
  rintro r h' ⟨S', rfl, rfl, s1, k1⟩
  refine ⟨_, ⟨rfl, rfl⟩, ⟨trivial, ⟨rfl, rfl, ?_⟩, trivial⟩, _, ⟨S', rfl, s1, k1⟩, rfl⟩
  have := k1.len
  simp only [aX, List.length_append]; omega
 refine wpIn_block ?_
 show Code.wpIn (wd (some l)) 0 Tryz.prog _ _ _ _
 refine xG (H := xF) (ro := some l) (n := 0) (id := 5) q6 h5 hs3 ?_ ?_
 ·exact fun a w h => h
 rintro e4 _ w4 I4 G4 a4 ⟨L', hYQ, rfl⟩ hs4 hd4 ht4
 have n3 := jX hs3.hh hp3 rfl
 have hl4 : w4.heap[l]? = some (.loop { rec with state := .busy }) := (ht4.t.keep l (by rw [World.putObj_size]; exact l2) n3).trans hp3
 have l4 := (Array.getElem?_eq_some_iff.1 hl4).1
 have nI4 : ∀ b, ¬ I2 b -> ¬ aV (aL nl T (aA L)) G2 b -> b < w2.heap.size -> ¬ I4 b := fun b x y z h => (ht4.t.i2 b h).elim x fun h => h.elim y fun h => by rw [World.putObj_size] at h; omega
 have nl4 := nI4 l z2.nl n2 l2
 have hDne : W0.heap.size ≠ l := by omega
 have nD2 := jX hs2.hh z2.hD rfl
 have lD := (Array.getElem?_eq_some_iff.1 z2.hD).1
 have hrec : ({ { rec with state := .busy } with state := if (none : Option Code).isNone then .ready else .done, pending := none } : Loop) = rec := by
  cases rec; simp only at r1 r2; subst r1; subst r2; rfl
 have hrun := run_endRound (P := Tryz.prog) none hl4
 rw [hrec] at hrun
 have hLL : L'.length = L.length := by
  obtain ⟨S', rfl, s1, k1⟩ := hYQ
  obtain ⟨c1, c2, c3⟩ := uC L (show f <= i by omega) hil
  have := k1.len
  rw [List.length_append, List.length_append, c2, <- this, c3, List.length_drop]; omega
 have tB : TrN 5 W0 I0 G0 (aL nl T (aA L0)) (w4.putObj l (.loop rec)) I4 G4 (aL nl T (aA L')) := ((z2.t.off hWl _).trans ht4.toN).off hWl _
 refine ⟨_, _, hrun, rfl, L', I4, G4, hYQ, hs4.hh.off _ nl4 (jX hs4.hh hl4 rfl), ?_, zY (by simp [hLL]) (fun o ho => (uD tB o ho).trans (uD hz.t o ho).symm), ⟨tB, World.putObj_heap_same l4, ?_, nl4, nI4 _ z2.nD nD2 lD⟩⟩
 ·have k1 := (qH hh ht1.t).trans ht1.t.size (qH hs1.hh ht2.t)
  have s2 := Nat.le_trans ht1.t.size ht2.t.size
  have k2 := (k1.trans s2 (Keeps.off z2.nl (.loop { rec with state := .busy }))).trans (by rw [World.putObj_size]; exact s2) (qH hs3.hh ht4.t)
  exact k2.trans (by have := ht4.t.size; rw [World.putObj_size] at this; omega) (Keeps.off nl4 _)
 ·rw [World.putObj_heap_other hDne]
  exact (ht4.t.keep _ (by rw [World.putObj_size]; exact lD) (jX hs3.hh ((World.putObj_heap_other hDne).trans z2.hD) rfl)).trans ((World.putObj_heap_other hDne).trans z2.hD)
end
end Go.Eng



namespace Go.Eng
open Go Go.Proofs
def zha (nl fl : Bool) (es : LL) (R : LV -> Hp -> Prop) : Prop :=
 if (bif true then nl else !nl) = true then R (LV.pv (PV.sl true true [])) [] else fK true [] es 1 4 /\ R (LV.own 0) [Ob.sl (21, 1) false false ([] ++ es)]
theorem zqw (nl fl : Bool) (es : LL) {R : LV -> Hp -> Prop} (h : zha nl fl es R) : ACall Tryz.prog 58 [.pv (.sl nl fl es)] [] R :=
 ACall.ofA Tryz.func58 (by kernel_rfl) (by kernel_rfl) (zl (by kernel_rfl)) (Eq.mpr (by kernel_rfl : pS Tryz.prog (fun _ => none) Tryz.f58 [0, 2, 4] (fun _ => none) (Tryz.f58.body.getD .skip) [.pv (.sl nl fl es)] [] R = _) h)

def zqx (nl : Bool) (ts : List PV) (es : LL) (R : LV -> Hp -> Prop) : Prop :=
 R (LV.fn 157 [LV.box 2 0, LV.box 1 0]) [Ob.sl (21, 1) false nl es, Ob.box [LV.pv (PV.ptr ts)], Ob.box [LV.own 0]]
theorem zqy (nl : Bool) (ts : List PV) (es : LL) {R : LV -> Hp -> Prop} (h : zqx nl ts es R) : ACall Tryz.prog 139 [.pv (.ptr ts), .own 0] [.sl (21, 1) false nl es] R :=
 ACall.of Tryz.func139 (by kernel_rfl) (by kernel_rfl) (zl (by kernel_rfl)) (Eq.mpr (by kernel_rfl : dZ Tryz.prog (fun _ => none) Tryz.f139 [0, 1, 2, 3, 4] (fun _ => none) [0, 1, 2] (Tryz.f139.body.getD .skip) [.pv (.ptr ts), .own 0] [.sl (21, 1) false nl es] R = _) h)

end Go.Eng



namespace Go.Eng
open Go Go.Proofs Go.Eng.Rows Go.Eng.Srt
theorem ACall.nilOwn {P : Program} {f : Nat} {args : List LV} {Q Q' : LV -> Hp -> Prop} {ty : Nat × Nat} (hc : ACall P f args [] Q) (hq : ∀ r h', Q r h' -> Q' r h' ∨ ∃ fl, r = .pv (.sl true fl []) /\ h' = [] /\ Q' (.own 0) [.sl ty false true []]) : ACall P f args [] Q' :=
 ⟨hc.1, fun w I G cargs h1 h2 h3 => (hc.2 w I G cargs h1 h2 h3).mono fun e w' ⟨cv, r, h', I', G', e1, e2, e3, e4, e5⟩ => (hq r h' e2).elim (fun q => ⟨cv, r, h', I', G', e1, q, e3, e4, e5⟩) fun ⟨fl, hr, hh, q⟩ => by
  subst hr; subst hh
  have hcv : cv = .slice none 0 0 := by cases e4 with | pv _ _ h => cases h; rfl
  subst hcv
  have one : ∀ {o : Nat} {ob : Ob}, [Ob.sl ty false true []][o]? = some ob -> ob = .sl ty false true [] := fun {o ob} h => by
   cases o with
   | zero => cases h; rfl
   | succ o => simp at h
  have dead : ∀ {p : Pl}, ¬ (Ob.sl ty false true []).alive p := fun h => by cases h.1
  have noB : ∀ b, ¬ aV [Ob.sl ty false true []] G' b := fun b ⟨o, ob, ho, ha, _⟩ => by rw [one ho] at ha; exact dead ha
  refine ⟨_, .own 0, [.sl ty false true []], I', G', e1, q, ⟨fun o ob ho => by rw [one ho]; rfl, fun o o' ob ob' ho ha => by rw [one ho] at ha; exact (dead ha).elim, fun o ob ho ha => by rw [one ho] at ha; exact (dead ha).elim, e3.cl⟩, .ownNil 0 ty false [] rfl, ?_, by simp, fun o ob' ho => by simp at ho⟩
  have t := e5.t
  exact ⟨t.os, t.tape, t.output, t.size, t.keep, t.i1, t.i2, fun b hb => (noB b hb).elim, t.frz, t.drawn⟩⟩
theorem zqz (nl fl : Bool) (es : List (List PV)) (hn : nl = true -> es = []) (ha : fK true [] es 1 4) : ACall Tryz.prog 58 [.pv (.sl nl fl es)] [] fun r h' => r = .own 0 /\ h' = [.sl (21, 1) false nl es] := by
 refine ACall.nilOwn (ty := (21, 1)) (Q := fun r h' => (nl = true /\ r = .pv (.sl true true []) /\ h' = []) ∨ (nl = false /\ r = .own 0 /\ h' = [.sl (21, 1) false nl es])) (zqw nl fl es ?_) ?_
 ·unfold zha
  cases nl with
  | true => exact .inl ⟨rfl, rfl, rfl⟩
  | false => exact ⟨ha, .inr ⟨rfl, rfl, by simp⟩⟩
 ·rintro r h' (⟨rfl, rfl, rfl⟩ | ⟨rfl, rfl, rfl⟩)
  ·rw [hn rfl]; exact .inr ⟨true, rfl, rfl, rfl, rfl⟩
  ·exact .inl ⟨rfl, rfl⟩
theorem uE {P : Program} {n0 N : Nat} {c : Code} {e E : Env} {h Hh : Hp} (hS : CodeS P n0 N c e h fun x e' h' => x = .normal /\ e' = E /\ h' = Hh) {w : World} {I : Nat -> Prop} {G : Nat -> Pl} {a : Act} (hs : SRel w I G e h N a) {Q : Exit -> Act -> World -> Prop}
 (hq : ∀ w' I' G' a', SRel w' I' G' E Hh N a' -> a'.defers = a.defers -> TrN n0 w I G h w' I' G' Hh -> Q .normal a' w') : c.wp P Q a w :=
 hS w I G a Q hs fun x e' h' w' I' G' a' hk hs' hd ht => by obtain ⟨rfl, rfl, rfl⟩ := hk; exact hq w' I' G' a' hs' hd ht
section
variable {nl fl : Bool} {ts : List PV} {es : List (List PV)}
theorem eB0 (Q : Qt) : dL Tryz.prog (fun _ => none) 0 22 [1, 2, 4] (fun _ => none) (cO0 Tryz.f118) (fE [.pv (.ptr ts), .pv (.sl nl fl es)] 0) [] Q = Q .normal [(1, .pv (.sl nl fl es)), (2, .box 0 0), (4, .pv (.sl true true []))] [.box [.pv (.ptr ts)]] := by kernel_rfl
theorem eB1 (Q : Qt) : dL Tryz.prog zdy 0 22 [2, 5] (fun _ => none) (cO1 Tryz.f118) [(1, .pv (.sl nl fl es)), (2, .box 0 0)] [.box [.pv (.ptr ts)]] Q =
 ACall Tryz.prog 58 [.pv (.sl nl fl es)] [] fun (r : LV) (h' : Hp) => ∃ (_ : Unit), (r = .own 0 /\ h' = [.sl (21, 1) false nl es]) /\ True /\ Q .normal [(2, .box 0 0), (5, .box 2 0)] [.box [.pv (.ptr ts)], .sl (21, 1) false nl es, .box [.own 1]] := by kernel_rfl
theorem eB2 (Q : Qt) : dL Tryz.prog zdy 0 22 [2, 5, 12] (fun _ => none) (cO2 Tryz.f118) [(2, .box 0 0), (5, .box 2 0)] [.box [.pv (.ptr ts)], .sl (21, 1) false nl es, .box [.own 1]] Q =
 ACall Tryz.prog 139 [.pv (.ptr ts), .own 0] [.sl (21, 1) false nl es] fun (r : LV) (h' : Hp) => ∃ (_ : Unit), (r = .fn 157 [.box 2 0, .box 1 0] /\ h' = [.sl (21, 1) false nl es, .box [.pv (.ptr ts)], .box [.own 0]]) /\
  ((((21, 1) : Nat × Nat) = (21, 1) /\ nl = nl /\ es.length = es.length) /\ True) /\ Q .normal [(2, .box 0 0), (5, .box 2 0), (12, .fn 157 [.box 4 0, .box 3 0])] (aL nl (.ptr ts) es) := by kernel_rfl
theorem eB6 (Q : Qt) : dL Tryz.prog (fun _ => none) 5 22 [4] (fun _ => none) (cO6 Tryz.f118) [(2, .box 0 0), (5, .box 2 0)] (aL nl (.ptr ts) es) Q = Q .normal [(4, .own 1)] (aL nl (.ptr ts) es) := by kernel_rfl
theorem zZ : cM Tryz.f118 = .seq (cO0 Tryz.f118) (.seq (cO1 Tryz.f118) (.seq (.seq (cO2 Tryz.f118) (.block 0 (cX Tryz.f118))) (.seq (cO6 Tryz.f118) .ret))) /\ Tryz.f118.body = some (cM Tryz.f118) /\ Tryz.f118.ntmps = 22 /\
 Tryz.f157.body = some (cM Tryz.f157) /\ Tryz.f157.ntmps = 39 /\ Tryz.f118.results = #[.tmp 4] /\ Tryz.f157.results = #[] /\ Tryz.f118.body.isNone = false /\ (Tryz.f118.name == "runtime.NumGoroutine") = false /\ Tryz.f157.body.isNone = false /\ (Tryz.f157.name == "runtime.NumGoroutine") = false :=
 ⟨by kernel_rfl, by kernel_rfl, by kernel_rfl, by kernel_rfl, by kernel_rfl, by kernel_rfl, by kernel_rfl, by kernel_rfl, by kernel_rfl, by kernel_rfl, by kernel_rfl⟩
variable {key : Int -> Int}
theorem Tr.alloc0 {w : World} {I own : Nat -> Prop} (o : Obj) : Tr w I own (w.alloc o) I own :=
 ⟨rfl, rfl, rfl, by simp, fun b hb _ => c5 w o hb, fun _ h => h, fun _ h => .inl h, fun _ h => .inl h, fun a ha => World.frozen?_of_block (c5 w o ha), Nat.le_refl _⟩
theorem KA.alloc0 (w : World) (o : Obj) : KA w (w.alloc o) := ⟨by simp, fun b hb => c5 w o hb⟩
theorem zq0 (hk : ∀ x, 0 <= key x) (hT : ∀ r : Int, (-2147483648 <= r /\ r <= 2147483647) -> PCall Tryz.prog 90 [.ptr ts, .int .i32 r] fun v => v = .int .i64 (key r)) (hc : iX (.ptr ts) key) (L : List Int) (hr : R32 L) (hL : L.length < 1000000000000)
 {w3 : World} {I3 : Nat -> Prop} {G3 : Nat -> Pl} {a3 : Act} {v12 : LV} (hs3 : SRel w3 I3 G3 [(2, .box 0 0), (5, .box 2 0), (12, v12)] (aL nl (.ptr ts) (aA L)) 22 a3) (rec : Loop) (r1 : rec.state = .ready) (r2 : rec.pending = none) (r3 : rec.tmps = a3.tmps) (r4 : rec.params = #[13, 14])
 (r5 : rec.assign = fP (cX Tryz.f118)) (r6 : rec.body = fQ (cX Tryz.f118)) (vs : Array Value) (hvsz : vs.size = 2) (hvs : ∀ (k : Nat) v, [LV.box 4 0, LV.box 3 0][k]? = some v -> LRel w3 I3 G3 (aL nl (.ptr ts) (aA L)) v (vs.getD k undef)) :
 Calls Tryz.prog 157 (#[Value.func (.yield (w3.heap.size + 1)) #[] #[]] ++ vs) ((w3.alloc (.deferred (some []))).alloc (.loop rec)) fun e w4 => (∃ v, e = .returned v) /\ ∃ I4 G4, HRel w4 I4 G4 (aL nl (.ptr ts) (aA (bF key L))) /\
  ZR w3 I3 G3 (aL nl (.ptr ts) (aA L)) (w3.heap.size + 1) w3.heap.size rec w4 I4 G4 (aL nl (.ptr ts) (aA (bF key L))) := by
 obtain ⟨k1, k2, k3, k4, k5, k6, k7, k8, k9, k10, k11⟩ := zZ
 obtain ⟨W1, hW1⟩ : ∃ W1, W1 = (w3.alloc (.deferred (some []))).alloc (.loop rec) := ⟨_, rfl⟩
 rw [<- hW1]
 have tA : Tr w3 I3 (aV (aL nl (.ptr ts) (aA L)) G3) W1 I3 (aV (aL nl (.ptr ts) (aA L)) G3) := by rw [hW1]; exact (Tr.alloc0 _).trans (Tr.alloc0 _)
 have ka : KA w3 W1 := by rw [hW1]; exact (KA.alloc0 _ _).trans (KA.alloc0 _ _)
 have hl1 : W1.heap[w3.heap.size + 1]? = some (.loop rec) := by rw [hW1]; have := World.alloc_heap_new (w3.alloc (.deferred (some []))) (.loop rec); rwa [World.size_alloc] at this
 have hD1 : W1.heap[w3.heap.size]? = some (.deferred (some [])) := by rw [hW1]; exact (c5 _ _ (by simp)).trans (World.alloc_heap_new w3 _)
 have z1 : ZR w3 I3 G3 (aL nl (.ptr ts) (aA L)) (w3.heap.size + 1) w3.heap.size rec W1 I3 G3 (aL nl (.ptr ts) (aA L)) := ⟨(TrH.same tA).toN, hl1, hD1, fun h => by have := hs3.hh.cl _ h; omega, fun h => by have := hs3.hh.cl _ h; omega⟩
 have hRd := zqv hc hs3 rec r1 r2 r3 r4 r5 r6
 have hwalk := zqu hk hT (fun w I G h w' I' G' h' z hh _ t => z.step hh t) L hRd hr hL
 have hsW : SRel W1 I3 G3 (fE [.pv (.raw (Value.func (.yield (w3.heap.size + 1)) #[] #[])), .box 4 0, .box 3 0] 0) (aL nl (.ptr ts) (aA L)) 39 { tmps := (#[Value.func (.yield (w3.heap.size + 1)) #[] #[]] ++ vs) ++ Array.replicate (39 - (#[Value.func (.yield (w3.heap.size + 1)) #[] #[]] ++ vs).size) undef, defers := [] } := by
  obtain ⟨y, hy⟩ : ∃ y, y = Value.func (.yield (w3.heap.size + 1)) #[] #[] := ⟨_, rfl⟩
  rw [<- hy]
  obtain ⟨x0, x1, rfl⟩ : ∃ x0 x1, vs = #[x0, x1] := by
   obtain ⟨l⟩ := vs
   match l, hvsz with
   | [a, b], _ => exact ⟨a, b, rfl⟩
  have hk : Keeps w3 I3 W1 I3 := ⟨fun b _ hb => ka.2 b hb, fun b hb _ => hb⟩
  have h1 := (hvs 0 _ rfl).mono hk (.refl _ _)
  have h2 := (hvs 1 _ rfl).mono hk (.refl _ _)
  have e0 : ∀ r : Array Value, (#[y] ++ #[x0, x1] ++ r).getD 0 undef = y := fun r => by rw [Array.getD_eq_getD_getElem?, Array.getElem?_append_left (by simp)]; rfl
  have e1 : ∀ r : Array Value, (#[y] ++ #[x0, x1] ++ r).getD 1 undef = x0 := fun r => by rw [Array.getD_eq_getD_getElem?, Array.getElem?_append_left (by simp)]; rfl
  have e2 : ∀ r : Array Value, (#[y] ++ #[x0, x1] ++ r).getD 2 undef = x1 := fun r => by rw [Array.getD_eq_getD_getElem?, Array.getElem?_append_left (by simp)]; rfl
  refine ⟨hs3.hh.ka ka, ?_, by simp⟩
  have he : ERel W1 I3 G3 (aL nl (.ptr ts) (aA L)) [(0, .pv (.raw y)), (1, .box 4 0), (2, .box 3 0)] (#[y] ++ #[x0, x1] ++ Array.replicate (39 - (#[y] ++ #[x0, x1]).size) undef) :=
   ((ERel.nil _ _ _ _ _).cons (s := 2) (v := .box 3 0) (by rw [e2]; exact h2)).cons (s := 1) (v := .box 4 0) (by rw [e1]; exact h1) |>.cons (s := 0) (v := .pv (.raw y)) (by rw [e0]; exact .pv _ _ (.raw _))
  exact he
 refine calls_of_wp Tryz.func157 k4 ?_
 rw [k5]
 refine hwalk W1 I3 G3 _ _ hsW z1 ?_
 rintro x e' _ w4 I4 G4 a4 ⟨rfl, rfl⟩ hs4 hd4 z4
 exact ⟨hd4, _, results_none k7 _ _ _, ⟨_, rfl⟩, I4, G4, hs4.hh, z4⟩
theorem zq1 (hk : ∀ x, 0 <= key x) (L : List Int) {w w3 w4 : World} {I I3 I4 : Nat -> Prop} {G G3 G4 : Nat -> Pl} {a3 : Act} {v12 : LV} (hs3 : SRel w3 I3 G3 [(2, .box 0 0), (5, .box 2 0), (12, v12)] (aL nl (.ptr ts) (aA L)) 22 a3) (hd30 : a3.defers = []) {rec : Loop}
 (ht3 : Tr w I (aV [] G) w3 I3 (aV (aL nl (.ptr ts) (aA L)) G3)) (hh4 : HRel w4 I4 G4 (aL nl (.ptr ts) (aA (bF key L)))) (z4 : ZR w3 I3 G3 (aL nl (.ptr ts) (aA L)) (w3.heap.size + 1) w3.heap.size rec w4 I4 G4 (aL nl (.ptr ts) (aA (bF key L)))) :
 (Code.seq (cO6 Tryz.f118) .ret).wp Tryz.prog (bodyPostM Fence.wide 0 Tryz.prog Tryz.f118 fun e w' => ∃ cv r h' I' G', e = .returned cv /\ (∃ v, r = .pv v /\ v = .sl nl false (aA (bF key L))) /\ HRel w' I' G' h' /\ LRel w' I' G' h' r cv /\ TrH w I G [] w' I' G' h')
  { tmps := a3.tmps, defers := [{ target := .collected w3.heap.size, args := #[] }] ++ a3.defers } (w4.putObj (w3.heap.size + 1) (.loop { rec with state := .exhausted })) := by
 obtain ⟨k1, k2, k3, k4, k5, k6, k7, k8, k9, k10, k11⟩ := zZ
 have hll := (uB (key := key) hk L).len
 have n4 := jX hh4 z4.hl rfl
 have l4 := (Array.getElem?_eq_some_iff.1 z4.hl).1
 have z5 : ZR w3 I3 G3 (aL nl (.ptr ts) (aA L)) (w3.heap.size + 1) w3.heap.size { rec with state := .exhausted } (w4.putObj (w3.heap.size + 1) (.loop { rec with state := .exhausted })) I4 G4 (aL nl (.ptr ts) (aA (bF key L))) :=
  ⟨z4.t.off (by omega) _, World.putObj_heap_same l4, (World.putObj_heap_other (by omega)).trans z4.hD, z4.nl, z4.nD⟩
 have hs5 : SRel (w4.putObj (w3.heap.size + 1) (.loop { rec with state := .exhausted })) I4 G4 [(2, .box 0 0), (5, .box 2 0)] (aL nl (.ptr ts) (aA (bF key L))) 22 { tmps := a3.tmps, defers := [{ target := .collected w3.heap.size, args := #[] }] ++ a3.defers } :=
  ⟨hh4.off _ z4.nl n4, fun i v hi => ((hs3.he.mono (qH hs3.hh z4.t.t) (zY (by simp [hll]) (uD z4.t))).mono (Keeps.off z4.nl _) (.refl _ _)) i v ((LeE.le (e' := [(2, .box 0 0), (5, .box 2 0)]) ⟨rfl, rfl, trivial⟩) i v hi), hs3.hn⟩
 refine wp_seq (uE (E := [(4, .own 1)]) (Hh := aL nl (.ptr ts) (aA (bF key L))) (gM (Eq.mpr (eB6 _) ⟨rfl, rfl, rfl⟩)) hs5 fun w6 I6 G6 a6 hs6 hd6 ht6 => ?_)
 have z6 := z5.step hs5.hh ht6
 refine wp_ret ?_
 show LeavesInM Fence.wide 0 Tryz.prog _ a6.tmps _ a6.defers .returning w6
 rw [hd6, hd30]
 refine ⟨by simp, .inl ⟨_, _, rfl, run_takeDeferred z6.hD, ?_⟩⟩
 refine ⟨_, results_tmp k6 _ _ _, ?_⟩
 have hh7 := hs6.hh.off (.deferred none) z6.nD (jX hs6.hh z6.hD rfl)
 have hv7 : LRel (w6.putObj w3.heap.size (.deferred none)) I6 G6 (aL nl (.ptr ts) (aA (bF key L))) (.own 1) (a6.tmps.getD 4 undef) := LRel.mono (hs6.he 4 _ rfl) (Keeps.off z6.nD (.deferred none)) (.refl _ _)
 have hrep := oZ hh7 hv7 (rfl : iN (aL nl (.ptr ts) (aA (bF key L))) (.own 1) = some (.sl nl false (aA (bF key L))))
 have ht := (ht3.trans z6.t.t).off (l := w3.heap.size) ht3.size (.deferred none)
 have hno : ∀ b, ¬ aV [] G b := fun b ⟨o, ob, ho, _⟩ => by simp at ho
 exact ⟨_, _, [], AllB I6 (aL nl (.ptr ts) (aA (bF key L))) G6, G6, rfl, ⟨_, rfl, rfl⟩, HRel.nil G6 (fun b hb => hb.elim (hh7.cl b) hh7.blk_lt), .pv _ _ hrep,
  ⟨⟨ht.os, ht.tape, ht.output, ht.size, ht.keep, fun b hb => .inl (ht.i1 b hb), fun b hb => hb.elim (ht.i2 b) (fun ho => (ht.own2 b ho).elim (fun x => absurd x (hno b)) (fun x => .inr (.inr x))), fun b hb => absurd hb (fun ⟨o, ob, ho, _⟩ => by simp at ho), ht.frz, ht.drawn⟩, Nat.le_refl _, fun o ob ho => by simp at ho⟩⟩
theorem zq2 (hk : ∀ x, 0 <= key x) (hT : ∀ r : Int, (-2147483648 <= r /\ r <= 2147483647) -> PCall Tryz.prog 90 [.ptr ts, .int .i32 r] fun v => v = .int .i64 (key r)) (hc : iX (.ptr ts) key) (L : List Int) (hr : R32 L) (hL : L.length < 1000000000000) :
 PCall Tryz.prog 118 [.ptr ts, .sl nl fl (aA L)] fun v => v = .sl nl false (aA (bF key L)) := by
 obtain ⟨k1, k2, k3, k4, k5, k6, k7, k8, k9, k10, k11⟩ := zZ
 refine ⟨⟨_, Tryz.func118, k8, k9⟩, fun w I G cargs hh hsz hrel => ?_⟩
 simp only [List.length_map, List.length_cons, List.length_nil] at hsz
 have hn : nl = true -> L = [] := fun hn => by
  subst hn
  have h1 := hrel 1 _ rfl
  generalize cargs.getD 1 undef = c1 at h1
  cases h1 with
  | pv _ _ h1 =>
    generalize hes : aA L = es at h1
    cases h1 with
    | slnil => exact List.map_eq_nil_iff.1 hes
 refine (callsIn_wide (n := 0)).1 (callsIn_of_wp_marks Tryz.func118 k2 trivial (wpIn_wide.2 ?_))
 rw [k3]
 have hs : SRel w I G (fE [.pv (.ptr ts), .pv (.sl nl fl (aA L))] 0) [] 22 { tmps := cargs ++ Array.replicate (22 - cargs.size) undef, defers := [] } := by
  refine ⟨hh, fun i v hi => ?_, by simp; omega⟩
  obtain ⟨_, h2⟩ := pR hi
  rw [Nat.sub_zero] at h2
  have hlt : i < cargs.size := by have := (List.getElem?_eq_some_iff.1 h2).1; simp at this; omega
  have := hrel i v h2
  have e1 : (cargs ++ Array.replicate (22 - cargs.size) undef).getD i undef = cargs.getD i undef := by
   rw [Array.getD_eq_getD_getElem?, Array.getD_eq_getD_getElem?, Array.getElem?_append_left hlt]
  simp only [e1]
  exact VRel.of_plain this
 rw [k1]
 -- what begins it
 refine wp_seq (uE (E := [(1, .pv (.sl nl fl (aA L))), (2, .box 0 0), (4, .pv (.sl true true []))]) (Hh := [.box [.pv (.ptr ts)]]) (gM (Eq.mpr (eB0 _) ⟨rfl, rfl, rfl⟩)) hs fun w1 I1 G1 a1 hs1 hd1 ht1 => ?_)
 have hs1' := hs1.le (LeE.le (e' := [(1, .pv (.sl nl fl (aA L))), (2, .box 0 0)]) ⟨rfl, rfl, trivial⟩)
 refine wp_seq (uE (E := [(2, .box 0 0), (5, .box 2 0)]) (Hh := [.box [.pv (.ptr ts)], .sl (21, 1) false nl (aA L), .box [.own 1]]) (gM (Eq.mpr (eB1 _) ((zqz nl fl (aA L) (fun h => by rw [hn h]; rfl) ?_).mono fun r h' hq => ⟨(), hq, trivial, rfl, rfl, rfl⟩))) hs1' fun w2 I2 G2 a2 hs2 hd2 ht2 => ?_)
 ·exact ⟨rfl, .inl rfl, fun e he => (by cases he), fun e he => by obtain ⟨x, _, rfl⟩ := List.mem_map.1 (List.mem_of_mem_head? he); rfl, by simp; omega⟩
 refine wp_seq (wp_seq (uE (E := [(2, .box 0 0), (5, .box 2 0), (12, .fn 157 [.box 4 0, .box 3 0])]) (Hh := aL nl (.ptr ts) (aA L)) (gM (Eq.mpr (eB2 _) (zqy nl ts (aA L) ?_))) hs2 fun w3 I3 G3 a3 hs3 hd3 ht3 => ?_))
 ·exact ⟨(), ⟨rfl, rfl⟩, ⟨⟨rfl, rfl, rfl⟩, trivial⟩, rfl, rfl, rfl⟩
 -- the loop
 have hd30 : a3.defers = [] := hd3.trans (hd2.trans hd1)
 obtain ⟨q1, q2, q3, _, _, _⟩ := zg9
 refine wp_block ?_
 rw [q3]
 obtain ⟨vs, hv12, hvsz, hvs⟩ : ∃ vs : Array Value, a3.tmps.getD 12 undef = .func (.func 157) #[] vs /\ vs.size = 2 /\ ∀ (k : Nat) v, [LV.box 4 0, LV.box 3 0][k]? = some v -> LRel w3 I3 G3 (aL nl (.ptr ts) (aA L)) v (vs.getD k undef) := by
  have := hs3.he 12 _ rfl
  generalize a3.tmps.getD 12 undef = cv at this
  cases this with
  | fn f cs vs h1 h6 => exact ⟨vs, rfl, h1, h6⟩
 refine (wpIn_wide (n := 0)).1 (wpIn_rangeFunc (F := Fence.wide) fun fn _ => ?_)
 obtain ⟨rec, hrec⟩ : ∃ rec : Loop, rec = { state := .ready, pending := none, fn := fn, tmps := a3.tmps, params := #[13, 14], assign := fP (cX Tryz.f118), body := fQ (cX Tryz.f118), defers := w3.heap.size } := ⟨_, rfl⟩
 refine ⟨w3.heap.size + 1, [{ target := .collected w3.heap.size, args := #[] }], (w3.alloc (.deferred (some []))).alloc (.loop rec), { target := .fn (.func 157) vs, args := #[.func (.yield (w3.heap.size + 1)) #[] #[]] }, (w3.alloc (.deferred (some []))).alloc (.loop rec), 157,
  #[.func (.yield (w3.heap.size + 1)) #[] #[]] ++ vs, (w3.alloc (.deferred (some []))).alloc (.loop rec), ?_, ?_, fun _ _ => trivial, ?_, fun x => (by cases x), ?_⟩
 ·rw [hrec]; exact run_enterLoop_outer _ _ _ _ _
 ·have he : a3.eval (.tmp 12) = .func (.func 157) #[] vs := hv12
  simp only [resolve, he]
  simp [go_sem]
 ·simp only [invoke]
  exact vJ ⟨_, Tryz.func157, k10, k11⟩
 refine (callsIn_wide).2 (Calls.mono (zq0 hk hT hc L hr hL hs3 rec (by rw [hrec]) (by rw [hrec]) (by rw [hrec]) (by rw [hrec]) (by rw [hrec]) (by rw [hrec]) vs hvsz hvs) ?_)
 rintro e w4 ⟨⟨v, rfl⟩, I4, G4, hh4, z4⟩
 have hp : rec.pending = none := by rw [hrec]
 refine ⟨none, _, (run_endLoop z4.hl (by rw [hrec]; simp)).trans (congrArg (fun j => Result.ok j _) hp), ?_⟩
 exact zq1 hk L hs3 hd30 ((ht1.t.trans ht2.t).trans ht3.t) hh4 z4
end
end Go.Eng



namespace Go.Eng
open Go Go.Proofs
def zhb (n f : Bool) (es : LL) (k : Int) (R : PV -> Prop) : Prop :=
 if decide ((↑es.length : Int) > k) = true then (cR es.length none (some k) none /\ aM es 1) /\ R (PV.sl n (f && decide (k = (↑es.length : Int))) (List.drop 0 (List.take k.toNat es))) else R (PV.sl n f es)
theorem zq3 (n f : Bool) (es : LL) (k : Int) {R : PV -> Prop} (h : zhb n f es k R) : PCall Tryz.prog 13 [.sl n f es, .int .i64 k] R :=
 PCall.of Tryz.func13 (by kernel_rfl) (by kernel_rfl) (zl (by kernel_rfl)) (Eq.mpr (by kernel_rfl : aQ Tryz.prog (fun _ => none) Tryz.f13 [0, 1, 4, 8] (fun _ => none) (Tryz.f13.body.getD .skip) [.sl n f es, .int .i64 k] R = _) h)

def z7 (n f : Bool) (es : LL) (n2 f2 : Bool) (es2 : LL) (x5 : Int) : Env × Hp := ([(0, LV.pv (PV.sl n f es)), (1, LV.pv (PV.sl n2 f2 es2)), (5, Y6 x5)], [])
def z8 (n f : Bool) (es : LL) (n2 f2 : Bool) (es2 : LL) (J : Int -> Prop) (μ : Int -> Nat) (R : PV -> Prop) : Prop :=
 if ((↑es.length : Int) != (↑es2.length : Int)) = true then R (Zb false) else (aB (z7 n f es n2 f2 es2 (0 : Int)) /\ J (0 : Int)) /\ ∀ (x5 : Int), J x5 -> if decide (x5 < (↑es.length : Int)) = true then aJ es x5 1 /\ ∃ (n1 : Int),
 (es.getD x5.toNat []).head? = some (Z3 n1) /\ aJ es2 x5 1 /\ ∃ n3, (es2.getD x5.toNat []).head? = some (Z3 n3) /\ if (n1 != n3) = true then R (Zb false) else aB (z7 n f es n2 f2 es2 (i64.wrap (x5 + 1))) /\ J
 (i64.wrap (x5 + 1)) /\ μ (i64.wrap (x5 + 1)) < μ x5 else R (Zb true)
theorem zq4 (n f : Bool) (es : LL) (n2 f2 : Bool) (es2 : LL) (J : Int -> Prop) (μ : Int -> Nat) {R : PV -> Prop} (h : z8 n f es n2 f2 es2 J μ R) : PCall Tryz.prog 25 [.sl n f es, .sl n2 f2 es2] R :=
 PCall.of Tryz.func25 (by kernel_rfl) (by kernel_rfl) (zl (by kernel_rfl)) (Eq.mpr (by kernel_rfl : aQ Tryz.prog (fun _ => none) Tryz.f25 [0, 1, 4, 5, 10, 14, 25] (fun zz_ => match zz_ with | 4 => some ⟨Int × Unit, fun s => z7 n f es n2 f2 es2 s.1, fun _ s => J s.1, fun s => μ s.1, fun e h => (((gI e 5), ())), [], [0, 1, 5], [], fun p => ∀ (x5 : Int), p (x5, ()), fun p h s => h s.1⟩ | _ => none) (Tryz.f25.body.getD .skip) [.sl n f es, .sl n2 f2 es2] R = _) h)

def uF (n f : Bool) (es : LL) (n2 f2 : Bool) (ss : LL) (x7 : Int) (n_0 : Bool) (s_0 : LL) (n_1 : Bool) (s_1 : LL) : Env × Hp := ([(0, LV.pv (PV.sl n f es)), (1, LV.pv (PV.sl n2 f2 ss)), (5, LV.own 0), (6, LV.own 1), (7, Y6 x7)], [.sl (21, 1) true n_0 s_0, .sl (3, 1) true n_1 s_1])
def zaa (n f : Bool) (es : LL) (n2 f2 : Bool) (ss : LL) (x7 x8 x9 : Int) (n_0 : Bool) (s_0 : LL) (n_1 : Bool) (s_1 : LL) : Env × Hp := ([(0, LV.pv (PV.sl n f es)), (1, LV.pv (PV.sl n2 f2 ss)), (5, LV.own 0), (6, LV.own 1), (7, Y6 x7), (8, Y6 x8), (9, Y6 x9)], [.sl (21, 1) true n_0 s_0, .sl (3, 1) true n_1 s_1])
def zhc (n f : Bool) (es : LL) (n2 f2 : Bool) (ss : LL) (J : Int -> Bool -> LL -> Bool -> LL -> Prop) (μ : Int -> Bool -> LL -> Bool -> LL -> Nat) (J2 : Int -> Int -> Int -> Bool -> LL -> Bool -> LL -> Int -> Int -> Int -> Bool -> LL -> Bool -> LL -> Prop) (μ2 : Int -> Int -> Int -> Bool -> LL -> Bool -> LL -> Nat) (R : PV -> Prop) : Prop :=
 (aB (uF n f es n2 f2 ss (0 : Int) true [] true []) /\ J (0 : Int) true [] true []) /\ ∀ (x7 : Int) (n_0 : Bool) (s_0 : LL) (n_1 : Bool) (s_1 : LL), J x7 n_0 s_0 n_1 s_1 -> if decide (x7 < (↑ss.length : Int)) = true then aJ ss x7 1 /\
 ∃ n1, (ss.getD x7.toNat []).head? = some (Z3 n1) /\ PCall Tryz.prog 121 [PV.sl n f es, Z3 n1] fun v => ∃ n3, v = Z6 n3 /\ aJ ss x7 1 /\ ∃ n4, (ss.getD x7.toNat []).head? = some (Z3 n4) /\ (aM [[Z3 n4]] 1 /\
 (s_0.length + 1) * 4 <= 140737488355328) /\ (aM [[Z6 n3]] 1 /\ (s_1.length + 1) * 8 <= 140737488355328) /\ (aB (zaa n f es n2 f2 ss x7 n3 (↑s_0.length : Int) (n_0 && false) (s_0 ++ [[Z3 n4]]) (n_1 && false) (s_1 ++ [[Z6 n3]])) /\ J2 x7
 n3 (↑s_0.length : Int) (n_0 && false) (s_0 ++ [[Z3 n4]]) (n_1 && false) (s_1 ++ [[Z6 n3]]) x7 n3 (↑s_0.length : Int) (n_0 && false) (s_0 ++ [[Z3 n4]]) (n_1 && false) (s_1 ++ [[Z6 n3]])) /\ ∀ (x71 x8 x9 : Int) (n_01 : Bool) (s_01 : LL) (n_11
 : Bool) (s_11 : LL), J2 x7 n3 (↑s_0.length : Int) (n_0 && false) (s_0 ++ [[Z3 n4]]) (n_1 && false) (s_1 ++ [[Z6 n3]]) x71 x8 x9 n_01 s_01 n_11 s_11 -> if (decide (x9 > 0) && x8 != 0) = true then aJ s_11 (i64.wrap (x9 - 1)) 1 /\ ∃
 (n5 : Int), (List.drop 0 (s_11.getD (i64.wrap (x9 - 1)).toNat [])).head? = some (Z6 n5) /\ if decide (n5 > x8) = true then aJ s_01 (i64.wrap (x9 - 1)) 1 /\ ∃ n6, (List.drop 0 (s_01.getD (i64.wrap (x9 -
 1)).toNat [])).head? = some (Z3 n6) /\ aJ s_01 x9 1 /\ (1 = 1 /\ 1 <= (s_01.getD x9.toNat []).length) /\ aJ s_11 (i64.wrap (x9 - 1)) 1 /\ ∃ n7, (List.drop 0 (s_11.getD (i64.wrap (x9 - 1)).toNat [])).head? = some (Z6
 n7) /\ aJ s_11 x9 1 /\ (1 = 1 /\ 1 <= (s_11.getD x9.toNat []).length) /\ aJ ss x71 1 /\ ∃ n8, (ss.getD x71.toNat []).head? = some (Z3 n8) /\ aJ (s_01.set x9.toNat (Z3 n6 :: zq (List.drop 1 (s_01.getD
 x9.toNat [])))) (i64.wrap (x9 - 1)) 1 /\ (1 = 1 /\ 1 <= ((s_01.set x9.toNat (Z3 n6 :: zq (List.drop 1 (s_01.getD x9.toNat [])))).getD (i64.wrap (x9 - 1)).toNat []).length) /\ aJ (s_11.set x9.toNat
 (Z6 n7 :: zq (List.drop 1 (s_11.getD x9.toNat [])))) (i64.wrap (x9 - 1)) 1 /\ (1 = 1 /\ 1 <= ((s_11.set x9.toNat (Z6 n7 :: zq (List.drop 1 (s_11.getD x9.toNat [])))).getD
 (i64.wrap (x9 - 1)).toNat []).length) /\ aB (zaa n f es n2 f2 ss x71 x8 (i64.wrap (x9 - 1)) n_01 ((s_01.set x9.toNat (Z3 n6 :: zq (List.drop 1 (s_01.getD x9.toNat [])))).set (i64.wrap
 (x9 - 1)).toNat (Z3 n8 :: zq (List.drop 1 ((s_01.set x9.toNat (Z3 n6 :: zq (List.drop 1 (s_01.getD x9.toNat [])))).getD (i64.wrap (x9 - 1)).toNat [])))) n_11 ((s_11.set x9.toNat
 (Z6 n7 :: zq (List.drop 1 (s_11.getD x9.toNat [])))).set (i64.wrap (x9 - 1)).toNat (Z6 x8 :: zq (List.drop 1 ((s_11.set x9.toNat (Z6 n7 :: zq (List.drop 1
 (s_11.getD x9.toNat [])))).getD (i64.wrap (x9 - 1)).toNat []))))) /\ J2 x7 n3 (↑s_0.length : Int) (n_0 && false) (s_0 ++ [[Z3 n4]]) (n_1 && false) (s_1 ++ [[Z6 n3]]) x71 x8 (i64.wrap (x9 - 1)) n_01 ((s_01.set x9.toNat (Z3 n6
 :: zq (List.drop 1 (s_01.getD x9.toNat [])))).set (i64.wrap (x9 - 1)).toNat (Z3 n8 :: zq (List.drop 1 ((s_01.set x9.toNat (Z3 n6 :: zq (List.drop 1
 (s_01.getD x9.toNat [])))).getD (i64.wrap (x9 - 1)).toNat [])))) n_11 ((s_11.set x9.toNat (Z6 n7 :: zq (List.drop 1 (s_11.getD x9.toNat [])))).set (i64.wrap (x9 - 1)).toNat (Z6 x8 :: List.append._f
 [] PUnit.unit (List.drop 1 ((s_11.set x9.toNat (Z6 n7 :: zq (List.drop 1 (s_11.getD x9.toNat [])))).getD (i64.wrap (x9 - 1)).toNat [])))) /\ μ2 x71 x8 (i64.wrap (x9 - 1)) n_01 ((s_01.set x9.toNat (Z3
 n6 :: zq (List.drop 1 (s_01.getD x9.toNat [])))).set (i64.wrap (x9 - 1)).toNat (Z3 n8 :: zq (List.drop 1 ((s_01.set x9.toNat (Z3 n6 :: zq (List.drop 1
 (s_01.getD x9.toNat [])))).getD (i64.wrap (x9 - 1)).toNat [])))) n_11 ((s_11.set x9.toNat (Z6 n7 :: zq (List.drop 1 (s_11.getD x9.toNat [])))).set (i64.wrap (x9 - 1)).toNat (Z6 x8 :: List.append._f
 [] PUnit.unit (List.drop 1 ((s_11.set x9.toNat (Z6 n7 :: zq (List.drop 1 (s_11.getD x9.toNat [])))).getD (i64.wrap (x9 - 1)).toNat [])))) < μ2 x71 x8 x9 n_01 s_01 n_11 s_11 else aB (uF n f es n2 f2
 ss (i64.wrap (x71 + 1)) n_01 s_01 n_11 s_11) /\ J (i64.wrap (x71 + 1)) n_01 s_01 n_11 s_11 /\ μ (i64.wrap (x71 + 1)) n_01 s_01 n_11 s_11 < μ x7 n_0 s_0 n_1 s_1 else aB (uF n f es n2 f2 ss (i64.wrap (x71
 + 1)) n_01 s_01 n_11 s_11) /\ J (i64.wrap (x71 + 1)) n_01 s_01 n_11 s_11 /\ μ (i64.wrap (x71 + 1)) n_01 s_01 n_11 s_11 < μ x7 n_0 s_0 n_1 s_1 else R (PV.sl n_0 false s_0)
theorem zq5 (n f : Bool) (es : LL) (n2 f2 : Bool) (ss : LL) (J : Int -> Bool -> LL -> Bool -> LL -> Prop) (μ : Int -> Bool -> LL -> Bool -> LL -> Nat) (J2 : Int -> Int -> Int -> Bool -> LL -> Bool -> LL -> Int -> Int -> Int -> Bool -> LL -> Bool -> LL -> Prop) (μ2 : Int -> Int -> Int -> Bool -> LL -> Bool -> LL -> Nat) {R : PV -> Prop} (h : zhc n f es n2 f2 ss J μ J2 μ2 R) : PCall Tryz.prog 104 [.sl n f es, .sl n2 f2 ss] R :=
 PCall.of Tryz.func104 (by kernel_rfl) (by kernel_rfl) (zl (by kernel_rfl)) (Eq.mpr (by kernel_rfl : aQ Tryz.prog (fun _ => none) Tryz.f104 [0, 1, 4, 5, 6, 7, 8, 9, 13, 49] (fun zz_ => match zz_ with | 4 => some ⟨Int × Bool × LL × Bool × LL, fun s => uF n f es n2 f2 ss s.1 s.2.1 s.2.2.1 s.2.2.2.1 s.2.2.2.2, fun _ s => J s.1 s.2.1 s.2.2.1 s.2.2.2.1 s.2.2.2.2, fun s => μ s.1 s.2.1 s.2.2.1 s.2.2.2.1 s.2.2.2.2, fun e h => (gI e 7, oN h 0, oS h 0, oN h 1, oS h 1), [(5, 21, 1), (6, 3, 1)], [0, 1, 5, 6, 7], [], fun p => ∀ (x7 : Int) (n_0 : Bool) (s_0 : LL) (n_1 : Bool) (s_1 : LL), p (x7, n_0, s_0, n_1, s_1), fun p h s => h s.1 s.2.1 s.2.2.1 s.2.2.2.1 s.2.2.2.2⟩ | 10 => some ⟨Int × Int × Int × Bool × LL × Bool × LL, fun s => zaa n f es n2 f2 ss s.1 s.2.1 s.2.2.1 s.2.2.2.1 s.2.2.2.2.1 s.2.2.2.2.2.1 s.2.2.2.2.2.2, fun t s => J2 t.1 t.2.1 t.2.2.1 t.2.2.2.1 t.2.2.2.2.1 t.2.2.2.2.2.1 t.2.2.2.2.2.2 s.1 s.2.1 s.2.2.1 s.2.2.2.1 s.2.2.2.2.1 s.2.2.2.2.2.1 s.2.2.2.2.2.2, fun s => μ2 s.1 s.2.1 s.2.2.1 s.2.2.2.1 s.2.2.2.2.1 s.2.2.2.2.2.1 s.2.2.2.2.2.2, fun e h => (gI e 7, gI e 8, gI e 9, oN h 0, oS h 0, oN h 1, oS h 1), [], [0, 1, 5, 6, 7, 8, 9], [], fun p => ∀ (x7 x8 x9 : Int) (n_0 : Bool) (s_0 : LL) (n_1 : Bool) (s_1 : LL), p (x7, x8, x9, n_0, s_0, n_1, s_1), fun p h s => h s.1 s.2.1 s.2.2.1 s.2.2.2.1 s.2.2.2.2.1 s.2.2.2.2.2.1 s.2.2.2.2.2.2⟩ | _ => none) (Tryz.f104.body.getD .skip) [.sl n f es, .sl n2 f2 ss] R = _) h)

def zab (tc tg tj tf tp : PV) (M S : List (PV × PV)) (n f : Bool) (es : LL) (x12 : Int) (h0_0 : PV) (n_1 : Bool) (s_1 : LL) : Env × Hp := ([(0, LV.pv (PV.ptr [tc, tg, tj, tf, tp, PV.mp M, PV.mp S])), (5, LV.box 0 0), (10, LV.pv (PV.sl n f es)), (11, Y6 ↑es.length), (12, Y6 x12)], [.box [.pv h0_0, LV.own 1], .sl (21, 1) true n_1 s_1])
def zhd (tc tg tj tf tp : PV) (M S : List (PV × PV)) (n f : Bool) (es : LL) (J : Int -> PV -> Bool -> LL -> Prop) (μ : Int -> PV -> Bool -> LL -> Nat) (R : PV -> Prop) : Prop :=
 eD (PV.ptr [tc, tg, tj, tf, tp, PV.mp M, PV.mp S]) = true /\ (aB (zab tc tg tj tf tp M S n f es (0 : Int) (PV.ptr [tc, tg, tj, tf, tp, PV.mp M, PV.mp S]) true []) /\ J (0 : Int) (PV.ptr [tc, tg, tj, tf, tp, PV.mp M, PV.mp S]) true [])
 /\ ∀ (x12 : Int) (h0_0 : PV) (n_1 : Bool) (s_1 : LL), J x12 h0_0 n_1 s_1 -> if decide (x12 < (↑es.length : Int)) = true then aJ es x12 1 /\ ∃ n1, (es.getD x12.toNat []).head? = some (Z3 n1) /\ ACall Tryz.prog 117 [LV.box 0 0, LV.pv
 (Z3 n1), Y6 8] [Ob.box [LV.pv h0_0, LV.own 1], Ob.sl (21, 1) false n_1 s_1] fun (r : LV) (h' : Hp) => ∃ (t : Bool × LL), (r = LV.tup [] /\ h' = [Ob.box [LV.pv h0_0, LV.own 1], Ob.sl (21, 1) true t.fst t.snd]) /\ (True /\ True /\ True) /\ aB
 (zab tc tg tj tf tp M S n f es (i64.wrap (x12 + 1)) h0_0 t.fst t.snd) /\ J (i64.wrap (x12 + 1)) h0_0 t.fst t.snd /\ μ (i64.wrap (x12 + 1)) h0_0 t.fst t.snd < μ x12 h0_0 n_1 s_1 else PCall Tryz.prog 118 [PV.ptr [tc,
 tg, tj, tf, tp, PV.mp M, PV.mp S], PV.sl n_1 false s_1] fun v => ∃ n1 f1 es1, v = PV.sl n1 f1 es1 /\ R (PV.sl n1 f1 es1)
theorem zq6 (tc tg tj tf tp : PV) (M S : List (PV × PV)) (n f : Bool) (es : LL) (J : Int -> PV -> Bool -> LL -> Prop) (μ : Int -> PV -> Bool -> LL -> Nat) {R : PV -> Prop} (h : zhd tc tg tj tf tp M S n f es J μ R) : PCall Tryz.prog 93 [.ptr [tc, tg, tj, tf, tp, .mp M, .mp S], .sl n f es] R :=
 PCall.of Tryz.func93 (by kernel_rfl) (by kernel_rfl) (zl (by kernel_rfl)) (Eq.mpr (by kernel_rfl : aQ Tryz.prog (fun zz_ => match zz_ with | 117 => some ⟨Bool × LL, fun _ hs t => (.tup [], match hs with | [.box (x :: _), .sl ty _ _ _] => [.box [x, .own 1], .sl ty true t.1 t.2] | [.box (x :: _)] => [.box [x, .own 1], .sl (21, 1) true t.1 t.2] | h => h), none⟩ | _ => none) Tryz.f93 [0, 1, 4, 5, 7, 10, 11, 12, 13] (fun zz_ => match zz_ with | 3 => some ⟨Int × PV × Bool × LL, fun s => zab tc tg tj tf tp M S n f es s.1 s.2.1 s.2.2.1 s.2.2.2, fun _ s => J s.1 s.2.1 s.2.2.1 s.2.2.2, fun s => μ s.1 s.2.1 s.2.2.1 s.2.2.2, fun e h => (gI e 12, hP h 0 0, oN h 1, oS h 1), [(1000001, 21, 1)], [0, 5, 10, 11, 12], [], fun p => ∀ (x12 : Int) (h0_0 : PV) (n_1 : Bool) (s_1 : LL), p (x12, h0_0, n_1, s_1), fun p h s => h s.1 s.2.1 s.2.2.1 s.2.2.2⟩ | _ => none) (Tryz.f93.body.getD .skip) [.ptr [tc, tg, tj, tf, tp, .mp M, .mp S], .sl n f es] R = _) h)

def uG (n f : Bool) (es : LL) (n2 f2 : Bool) (ss : LL) (x6 : Int) (n_0 : Bool) (s_0 : LL) : Env × Hp := ([(0, LV.pv (PV.sl n f es)), (1, LV.pv (PV.sl n2 f2 ss)), (5, LV.own 0), (6, Y6 x6)], [.sl (21, 1) true n_0 s_0])
def zhe (n f : Bool) (es : LL) (n2 f2 : Bool) (ss : LL) (J : Int -> Bool -> LL -> Prop) (μ : Int -> Bool -> LL -> Nat) (R : PV -> Prop) : Prop :=
 (aB (uG n f es n2 f2 ss (0 : Int) true []) /\ J (0 : Int) true []) /\ ∀ (x6 : Int) (n_0 : Bool) (s_0 : LL), J x6 n_0 s_0 -> if decide (x6 < (↑ss.length : Int)) = true then aJ ss x6 1 /\ ∃ n1, (ss.getD x6.toNat []).head? = some
 (Z3 n1) /\ ACall Tryz.prog 103 [LV.pv (PV.sl n f es), LV.pv (Z3 n1), Y6 8] [] fun (r : LV) (h' : Hp) => (∃ (t : Bool × LL), (r = LV.own 0 /\ h' = [Ob.sl (21, 1) true t.fst t.snd]) /\ True /\ (aM t.snd 1 /\ (s_0.length + t.snd.length) * 4 <=
 140737488355328) /\ aB (uG n f es n2 f2 ss (i64.wrap (x6 + 1)) (n_0 && t.snd.isEmpty) (s_0 ++ t.snd)) /\ J (i64.wrap (x6 + 1)) (n_0 && t.snd.isEmpty) (s_0 ++ t.snd) /\ μ (i64.wrap (x6 + 1)) (n_0 && t.snd.isEmpty)
 (s_0 ++ t.snd) < μ x6 n_0 s_0) ∨ ∃ t, (r = LV.pv (PV.sl false true t) /\ h' = []) /\ True /\ (aM t 1 /\ (s_0.length + t.length) * 4 <= 140737488355328) /\ aB (uG n f es n2 f2 ss (i64.wrap (x6 + 1)) (n_0 && t.isEmpty) (s_0
 ++ t)) /\ J (i64.wrap (x6 + 1)) (n_0 && t.isEmpty) (s_0 ++ t) /\ μ (i64.wrap (x6 + 1)) (n_0 && t.isEmpty) (s_0 ++ t) < μ x6 n_0 s_0 else PCall Tryz.prog 104 [PV.sl n f es, PV.sl n_0 false s_0] fun v => ∃ n1, ∃
 (f1 : Bool), ∃ es1, v = PV.sl n1 f1 es1 /\ R (PV.sl n1 f1 es1)
theorem zq7 (n f : Bool) (es : LL) (n2 f2 : Bool) (ss : LL) (J : Int -> Bool -> LL -> Prop) (μ : Int -> Bool -> LL -> Nat) {R : PV -> Prop} (h : zhe n f es n2 f2 ss J μ R) : PCall Tryz.prog 73 [.sl n f es, .sl n2 f2 ss] R :=
 PCall.of Tryz.func73 (by kernel_rfl) (by kernel_rfl) (zl (by kernel_rfl)) (Eq.mpr (by kernel_rfl : aQ Tryz.prog (fun zz_ => match zz_ with | 103 => some ⟨Bool × LL, fun _ hs t => (.own hs.length, hs ++ [.sl (21, 1) true t.1 t.2]), some ⟨LL, fun _ hs t => (.pv (.sl false true t), hs)⟩⟩ | _ => none) Tryz.f73 [0, 1, 4, 5, 6, 10] (fun zz_ => match zz_ with | 3 => some ⟨Int × Bool × LL, fun s => uG n f es n2 f2 ss s.1 s.2.1 s.2.2, fun _ s => J s.1 s.2.1 s.2.2, fun s => μ s.1 s.2.1 s.2.2, fun e h => (gI e 6, oN h 0, oS h 0), [(5, 21, 1)], [0, 1, 5, 6], [], fun p => ∀ (x6 : Int) (n_0 : Bool) (s_0 : LL), p (x6, n_0, s_0), fun p h s => h s.1 s.2.1 s.2.2⟩ | _ => none) (Tryz.f73.body.getD .skip) [.sl n f es, .sl n2 f2 ss] R = _) h)

end Go.Eng



namespace Go.Eng.Rows
open Go Go.Eng Go.Eng.Trie
def qI (rows : List Row) : Bool -> Int -> List Int -> Int
 | m, _, [] => if m then 2 else 0
 | m, last, r :: l => if (decide (cY rows r = 1) || (!decide (aC rows 1 r = 0) && decide (aC rows 1 r < last))) then 1 else qI rows (m || decide (cY rows r = 2)) (aC rows 1 r) l
def zq8 (rows : List Row) : Bool := rows.all fun x => !decide (x.kind = 2) || ((decide (1 <= x.a) && decide (x.a <= 1114111)) && (decide (0 <= x.b) && decide (x.b <= 1114111)))
theorem zq9 {rows : List Row} (h : zq8 rows = true) : bP rows := fun x hx hk => by
 have := List.all_eq_true.1 h x hx
 simpa [hk] using this
def zra (rows : List Row) : Bool := rows.all fun x => !decide (x.kind = 2) || (decide (x.fr = x.to) && ((decide (0 <= x.fr) && decide (x.fr <= 1114111)) && decide (first rows 2 x.fr = some (x.a, x.b))))
theorem zhf {rows : List Row} (h : zra rows = true) : cN rows := fun x hx hk => by
 have := List.all_eq_true.1 h x hx
 simpa [hk] using this
def zrb (rows : List Row) : Bool := rows.all fun x => !decide (x.kind = 1) || decide (0 <= x.a)
def fA (rows : List Row) : Prop := ∀ r, 0 <= aC rows 1 r
theorem zrc {rows : List Row} (h : zrb rows = true) : fA rows := fun r => by
 unfold aC
 cases hf : bK rows 1 r with
 | none => exact Int.le_refl _
 | some p =>
   obtain ⟨x, hx, hk, ha, _⟩ := jT hf
   have := List.all_eq_true.1 h x hx
   simp only [hk, decide_true, Bool.not_true, Bool.false_or, decide_eq_true_eq] at this
   simp only; omega
end Go.Eng.Rows



namespace Go.Eng
open Go Go.Proofs Go.Eng.Rows Go.Eng.Trie
theorem iI : bP tab := zq9 (by kernel_rfl)
theorem iJ : cN tab := zhf (by kernel_rfl)
theorem gW : fA tab := zrc (by kernel_rfl)
theorem q1 : qI tab false 0 [101, 769] = 2 := by kernel_rfl
theorem q2 : qI tab false 0 [233] = 0 := by kernel_rfl
theorem q3 : qI tab false 0 [769, 807] = 1 := by kernel_rfl
theorem q4 : qI tab false 0 [8491] = 1 := by kernel_rfl
theorem q5 : cH tab 101 = true := by kernel_rfl
theorem q6 : cH tab 769 = false := by kernel_rfl
theorem q7 : cH tab 4449 = false := by kernel_rfl
end Go.Eng



namespace Go.Eng.Rows
open Go Go.Eng Go.Eng.Trie Go.Eng.Srt
def dV (rows : List Row) (l : List Int) : List Int := bF (aC rows 1) (l.flatMap (aN rows 8))
def bV (rows : List Row) (x : Int) : Bool := !bG x && decide (aH rows x = (0, 0))
def uH (rows : List Row) : Prop := ∀ r, ∀ x ∈ aN rows 8 r, bV rows x = true
def zhg (rows : List Row) : Bool := (rows.all fun x => !decide (x.kind = 2) || (aN rows 8 x.fr).all (bV rows)) && ((List.range 19).all fun n => bV rows (4352 + n)) && ((List.range 21).all fun n => bV rows (4449 + n)) && ((List.range 28).all fun n => bV rows (4519 + n))
theorem zhh {rows : List Row} {r : Int} {p : Int × Int} (h : bK rows 2 r = some p) : ∃ x ∈ rows, x.kind = 2 /\ x.fr <= r /\ r <= x.to := by
 obtain ⟨x, h1, h2, _, _, h3, h4, _⟩ := jT h
 exact ⟨x, h1, h2, h3, h4⟩
theorem zac {p : Int -> Bool} {n : Nat} {b x : Int} (h : ((List.range n).all fun k => p (b + k)) = true) (h1 : b <= x) (h2 : x < b + n) : p x = true := by
 have := List.all_eq_true.1 h (x - b).toNat (List.mem_range.2 (by omega))
 rwa [show b + ((x - b).toNat : Int) = x by omega] at this
theorem zrd {rows : List Row} (h1 : cN rows) (h : zhg rows = true) : uH rows := by
 simp only [zhg, Bool.and_eq_true] at h
 obtain ⟨⟨⟨c1, c2⟩, c3⟩, c4⟩ := h
 intro r x hx
 by_cases hs : bG r = true
 ·rw [gV hs] at hx
  simp only [bG, Bool.and_eq_true, decide_eq_true_eq] at hs
  unfold dO at hx
  have k1 : bV rows (4352 + (r - 44032) / 588) = true := zac c2 (by omega) (by omega)
  have k2 : bV rows (4449 + (r - 44032) / 28 % 21) = true := zac c3 (by omega) (by omega)
  have k3 : bV rows (4519 + (r - 44032) % 28) = true := zac c4 (by omega) (by omega)
  split at hx <;> simp only [List.mem_cons, List.not_mem_nil, or_false] at hx
  ·rcases hx with rfl | rfl
   ·exact k1
   ·exact k2
  ·rcases hx with rfl | rfl | rfl
   ·exact k1
   ·exact k2
   ·exact k3
 ·simp only [Bool.not_eq_true] at hs
  by_cases h0 : aH rows r = (0, 0)
  ·rw [mH hs h0, List.mem_singleton] at hx
   subst hx
   simp [bV, hs, h0]
  ·have : ∃ p, bK rows 2 r = some p := by
    unfold aH at h0
    cases hf : bK rows 2 r with
    | none => rw [hf] at h0; exact absurd rfl h0
    | some p => exact ⟨p, rfl⟩
   obtain ⟨p, hp⟩ := this
   obtain ⟨y, hy, hk, f1, f2⟩ := zhh hp
   obtain ⟨e1, _⟩ := h1 y hy hk
   have hr : y.fr = r := by omega
   have := List.all_eq_true.1 c1 y hy
   simp only [hk, decide_true, Bool.not_true, Bool.false_or, hr] at this
   exact List.all_eq_true.1 this x hx
theorem uI {rows : List Row} {x : Int} (h : bV rows x = true) (d : Nat) : aN rows d x = [x] := by
 simp only [bV, Bool.and_eq_true, Bool.not_eq_true', decide_eq_true_eq] at h
 exact mH h.1 h.2
theorem zhi {rows : List Row} : ∀ {l : List Int}, (∀ x ∈ l, bV rows x = true) -> l.flatMap (aN rows 8) = l
 | [], _ => rfl
 | x :: l, h => by
   rw [List.flatMap_cons, uI (h x List.mem_cons_self), zhi fun y hy => h y (List.mem_cons_of_mem _ hy)]; rfl
section
variable {rows : List Row} (hk : fA rows)
include hk
theorem zhj {l : List Int} {x : Int} : x ∈ dV rows l ↔ ∃ r ∈ l, x ∈ aN rows 8 r := by
 unfold dV
 rw [<- (uB hk _).mem, List.mem_flatMap]
theorem zre (hc : uH rows) (l : List Int) : ∀ x ∈ dV rows l, bV rows x = true := fun x hx => by
 obtain ⟨r, _, h⟩ := (zhj hk).1 hx
 exact hc r x h
theorem zad (hp : bP rows) {l : List Int} (h : ∀ x ∈ l, -2147483648 <= x /\ x <= 2147483647) : ∀ x ∈ dV rows l, -2147483648 <= x /\ x <= 2147483647 := fun x hx => by
 obtain ⟨r, hr, h2⟩ := (zhj hk).1 hx
 rcases qB hp 8 r x h2 with rfl | h3
 ·exact h x hr
 ·omega
theorem zhk (l : List Int) : (dV rows l).length <= 768 * l.length := by
 unfold dV
 rw [<- (uB hk _).len]
 induction l with
 | nil => simp
 | cons x l ih =>
   have := jV rows 8 x
   rw [List.flatMap_cons, List.length_append, List.length_cons]; omega
end
theorem zrf (rows : List Row) (l : List Int) : cC (aC rows 1) (dV rows l) := zqr _
end Go.Eng.Rows



namespace Go.Eng
open Go Go.Proofs Go.Eng.Rows Go.Eng.Trie
theorem zhl {α : Type} (p : α -> Bool) : ∀ {A : List α} (B : List α), (∀ x ∈ A, p x = false) -> (A ++ B).find? p = B.find? p
 | [], B, _ => rfl
 | a :: A, B, h => by
   rw [List.cons_append, List.find?_cons, h a List.mem_cons_self]
   exact zhl p B fun x hx => h x (List.mem_cons_of_mem _ hx)
theorem zhm {α : Type} (p : α -> Bool) : ∀ (A : List α) {B : List α}, (∀ x ∈ B, p x = false) -> (A ++ B).find? p = A.find? p
 | [], B, h => List.find?_eq_none.2 fun x hx => by rw [h x hx]; simp
 | a :: A, B, h => by
   rw [List.cons_append, List.find?_cons, List.find?_cons]
   cases p a with
   | true => rfl
   | false => exact zhm p A h
def noK (k : Int) (l : List Row) : Bool := l.all fun x => !decide (x.kind = k)
theorem zhn {k r : Int} {l : List Row} (h : noK k l = true) : ∀ x ∈ l, x.has k r = false := fun x hx => by
 have := List.all_eq_true.1 h x hx
 simp only [Bool.not_eq_true', decide_eq_false_iff_not] at this
 simp [Row.has, this]
theorem zrg {A B C : List Row} {k : Int} (h1 : noK k A = true) (h2 : noK k C = true) (r : Int) : bK (A ++ (B ++ C)) k r = bK B k r := by
 unfold bK first
 rw [zhl _ _ (zhn h1), zhm _ _ (zhn h2)]
theorem zho : tab = yI ++ (tab73 ++ (yJ ++ yK ++ yL ++ yM ++ yN ++ yO)) := by unfold tab; simp only [List.append_assoc]
theorem zhp : aH tab = aH tab73 := funext fun r => by
 unfold aH; rw [zho, zrg (by kernel_rfl) (by kernel_rfl)]
theorem zrh {A B : List Row} (h : aH A = aH B) : ∀ d, aN A d = aN B d := fun d => by
 induction d with
 | zero => rfl
 | succ d ih => funext r; simp only [aN, h, ih]
theorem zri {A B : List Row} (h : aH A = aH B) : bV A = bV B := funext fun r => by simp only [bV, h]
theorem zae (d : Nat) : aN tab d = aN tab73 d := zrh zhp d
theorem zrj : bV tab = bV tab73 := zri zhp
theorem zhq {x : Row} (hx : x ∈ tab) (hk : x.kind = 2) : x ∈ tab73 := by
 rw [zho] at hx
 have no : ∀ {l : List Row}, noK 2 l = true -> x ∉ l := fun h hx => by
  have := List.all_eq_true.1 h x hx
  simp [hk] at this
 rcases List.mem_append.1 hx with h | h
 ·exact absurd h (no (by kernel_rfl))
 ·rcases List.mem_append.1 h with h | h
  ·exact h
  ·exact absurd h (no (by kernel_rfl))
theorem zrk : cN tab73 := zhf (by kernel_rfl)
end Go.Eng



namespace Go.Eng
open Go Go.Proofs Go.Eng.Rows Go.Eng.Trie
theorem zrl : uH tab := fun r x hx => by
 rw [zrj]
 rw [zae] at hx
 exact zrd zrk (by kernel_rfl) r x hx
end Go.Eng



namespace Go.Eng
open Go Go.Proofs Go.Eng.Rows Go.Eng.Trie Go.Eng.Srt
theorem PCall.ofA {P : Program} {f : Nat} {args : List PV} {Q : LV -> Hp -> Prop} {R : PV -> Prop} (hc : ACall P f (args.map .pv) [] Q) (hq : ∀ r h', Q r h' -> ∃ p, iN h' r = some p /\ R p) : PCall P f args R :=
 ⟨hc.1, fun w I G cargs h1 h2 h3 => (hc.2 w I G cargs h1 h2 h3).mono fun e w' ⟨cv, r, h', I', G', e1, e2, e3, e4, e5⟩ => by
  obtain ⟨p, hp, hR⟩ := hq r h' e2
  have ht := e5.t
  have hno : ∀ b, ¬ aV [] G b := fun b ⟨o, ob, ho, _⟩ => by simp at ho
  exact ⟨cv, .pv p, [], AllB I' h' G', G', e1, ⟨p, rfl, hR⟩, HRel.nil G' (fun b hb => hb.elim (e3.cl b) e3.blk_lt), .pv _ _ (oZ e3 e4 hp),
   ⟨⟨ht.os, ht.tape, ht.output, ht.size, ht.keep, fun b hb => .inl (ht.i1 b hb), fun b hb => hb.elim (ht.i2 b) (fun ho => (ht.own2 b ho).elim (fun x => absurd x (hno b)) (fun x => .inr (.inr x))), fun b hb => absurd hb (fun ⟨o, ob, ho, _⟩ => by simp at ho), ht.frz, ht.drawn⟩, Nat.le_refl _, fun o ob ho => by simp at ho⟩⟩⟩
theorem uJ (n f : Bool) (l : List Int) (k : Nat) (hk : k < 1000) : PCall Tryz.prog 13 [.sl n f (aA l), .int .i64 k] fun v => ∃ n f, v = .sl n f (aA (l.take k)) := by
 refine zq3 _ _ _ _ ?_; unfold zhb
 refine aF (fun hc => ?_) (fun hc => ?_)
 ·simp only [decide_eq_true_eq, aX] at hc
  refine ⟨⟨by unfold cR; simp; omega, cA _⟩, n, _, by rw [show ((k : Int)).toNat = k by omega]; simp only [aA, List.map_take, List.drop_zero]; rfl⟩
 ·simp only [decide_eq_true_eq, aX] at hc
  rw [List.take_of_length_le (by omega)]
  exact ⟨_, _, rfl⟩
theorem zrm (n f n2 f2 : Bool) (l m : List Int) (hl : l.length < 1000000000000) : z8 n f (aA l) n2 f2 (aA m) (fun i => 0 <= i /\ i <= l.length /\ l.take i.toNat = m.take i.toNat) (fun i => l.length - i.toNat) fun v => v = .bool (decide (l = m)) := by
 unfold z8
 refine aF (fun hc => ?_) (fun hc => ?_)
 ·simp only [aX, bne_iff_ne, ne_eq] at hc
  have : l ≠ m := fun e => hc (by rw [e])
  simp [this]
 ·simp only [aX, bne_iff_ne, ne_eq, Decidable.not_not] at hc
  have hlm : l.length = m.length := by omega
  refine ⟨⟨rfl, Int.le_refl _, by omega, rfl⟩, ?_⟩
  rintro i ⟨i0, i1, he⟩
  refine aF (fun h => ?_) (fun h => ?_)
  ·simp only [decide_eq_true_eq, aX] at h
   have hi : i.toNat < l.length := by omega
   have hj : i.toNat < m.length := by omega
   obtain ⟨g1, g2⟩ := eL i0 hi
   obtain ⟨k1, k2⟩ := eL i0 hj
   have hw : i64.wrap (i + 1) = i + 1 := aD (by omega) (by omega)
   refine ⟨g1, l[i.toNat], by rw [g2]; rfl, k1, m[i.toNat], by rw [k2]; rfl, aF (fun hc2 => ?_) (fun hc2 => ?_)⟩
   ·simp only [bne_iff_ne, ne_eq] at hc2
    have : l ≠ m := fun e => hc2 (by subst e; rfl)
    simp [this]
   ·simp only [bne_iff_ne, ne_eq, Decidable.not_not] at hc2
    rw [hw]
    exact ⟨rfl, ⟨by omega, by omega, by rw [show (i + 1).toNat = i.toNat + 1 by omega, c9 hi, c9 hj, he, hc2]⟩, by dsimp only; omega⟩
  ·simp only [decide_eq_true_eq, aX] at h
   rw [List.take_of_length_le (by omega), List.take_of_length_le (by omega)] at he
   simp [he]
theorem zrn (n f n2 f2 : Bool) (l m : List Int) (hl : l.length < 1000000000000) : PCall Tryz.prog 25 [.sl n f (aA l), .sl n2 f2 (aA m)] fun v => v = .bool (decide (l = m)) :=
 zq4 _ _ _ _ _ _ _ _ (zrm n f n2 f2 l m hl)
section
variable {rows : List Row}
end
end Go.Eng



namespace Go.Eng
open Go Go.Proofs Go.Eng.Rows Go.Eng.Trie Go.Eng.Srt
section
variable {rows : List Row}
theorem set1 {es : List (List PV)} {k : Nat} {v x : PV} (h : es.getD k [] = [x]) : es.set k (v :: zq (List.drop 1 (es.getD k []))) = es.set k [v] := by rw [h]; rfl
theorem zaf (A : List Int) (x : Int) (B : List Int) : (aA (A ++ x :: B)).getD A.length [] = [.int .i32 x] := by
 rw [zdj (by simp)]; simp
theorem zag (A : List Int) (x : Int) (B : List Int) : (aW (A ++ x :: B)).getD A.length [] = [.int .i64 x] := by
 simp [aW]
theorem zro (hk : fA rows) (n f n2 f2 : Bool) (L : List Int) (hrl : rows.length < 1000000) (hL : L.length < 1000000000) (hr : R32 L) :
 PCall Tryz.prog 104 [.sl n f (aY rows), .sl n2 f2 (aA L)] fun v => ∃ n f, v = .sl n f (aA (bF (aC rows 1) L)) := by
 have olen : ∀ l, (bF (aC rows 1) l).length = l.length := fun l => ((uB (key := aC rows 1) hk l).len).symm
 refine zq5 _ _ _ _ _ _
  (fun i _ s0 _ s1 => 0 <= i /\ i <= L.length /\ s0 = aA (bF (aC rows 1) (L.take i.toNat)) /\ s1 = aW ((bF (aC rows 1) (L.take i.toNat)).map (aC rows 1))) (fun i _ _ _ _ => L.length - i.toNat)
  (fun i0 _ _ _ _ _ _ i c k _ s0 _ s1 => i = i0 /\ 0 <= i /\ i.toNat < L.length /\ ∃ x A B, L[i.toNat]? = some x /\ c = aC rows 1 x /\ k = (A.length : Nat) /\ bF (aC rows 1) (L.take i.toNat) = A ++ B /\ (∀ y ∈ B, d6 (aC rows 1) x y = true) /\ s0 = aA (A ++ x :: B) /\ s1 = aW ((A ++ x :: B).map (aC rows 1))) (fun _ _ k _ _ _ _ => k.toNat) ?_
 unfold zhc
 refine ⟨⟨rfl, Int.le_refl _, by omega, by simp [bF, aA], by simp [bF, aW]⟩, ?_⟩
 rintro i n0 _ n1 _ ⟨i0, i1, rfl, rfl⟩
 refine aF (fun hc => ?_) (fun hc => ?_)
 ·simp only [decide_eq_true_eq, aX] at hc
  have hi : i.toNat < L.length := by omega
  obtain ⟨g1, g2⟩ := eL i0 hi
  have hx := hr _ (List.getElem_mem hi)
  have hw : i64.wrap (i + 1) = i + 1 := aD (by omega) (by omega)
  have hol := olen (L.take i.toNat)
  rw [List.length_take] at hol
  refine ⟨g1, L[i.toNat], by rw [g2]; rfl, ?_⟩
  refine (nP n f _ hrl hx).mono ?_
  rintro _ rfl
  refine ⟨_, rfl, g1, L[i.toNat], by rw [g2]; rfl, ⟨cA [_], by rw [aX]; omega⟩, ⟨sU (enc := fun n => [PV.int .i64 n]) (fun _ => rfl) [_], by rw [iW, List.length_map]; omega⟩, ⟨rfl, ?_⟩, ?_⟩
  ·refine ⟨rfl, i0, hi, L[i.toNat], bF (aC rows 1) (L.take i.toNat), [], List.getElem?_eq_getElem hi, rfl, by simp, by simp, fun y hy => (by cases hy), by simp [aA], by simp [aW]⟩
  ·rintro i' c k n01 _ n11 _ ⟨rfl, _, _, x, A, B, hxi, rfl, rfl, hord, hB, rfl, rfl⟩
   have hwi : i64.wrap (i' + 1) = i' + 1 := aD (by omega) (by omega)
   have hAB : A.length + B.length = min i'.toNat L.length := by rw [<- hol, hord, List.length_append]
   have hxe : L[i'.toNat] = x := (List.getElem?_eq_some_iff.1 hxi).2
   -- the end of the walk back
   have done : (A = [] ∨ ∃ A' z, A = A' ++ [z] /\ d6 (aC rows 1) x z = false) -> 0 <= i' + 1 /\ i' + 1 <= L.length /\ aA (A ++ x :: B) = aA (bF (aC rows 1) (L.take (i' + 1).toNat)) /\ aW ((A ++ x :: B).map (aC rows 1)) = aW ((bF (aC rows 1) (L.take (i' + 1).toNat)).map (aC rows 1)) := fun h => by
    have : bF (aC rows 1) (L.take (i' + 1).toNat) = A ++ x :: B := by
     rw [show (i' + 1).toNat = i'.toNat + 1 by omega, c9 hi, uA, hord, hxe, iH hB h]
    rw [this]
    exact ⟨by omega, by omega, rfl, rfl⟩
   have hmu : L.length - (i' + 1).toNat < L.length - i'.toNat := by omega
   refine aF (fun h1 => ?_) (fun h1 => ?_)
   ·simp only [Bool.and_eq_true, decide_eq_true_eq, bne_iff_ne, ne_eq] at h1
    obtain ⟨A', z, rfl⟩ : ∃ A' z, A = A' ++ [z] := by
     rcases A.eq_nil_or_concat with rfl | ⟨D, z, rfl⟩
     ·simp at h1
     ·exact ⟨D, z, by simp⟩
    have lA : (A' ++ [z]).length = A'.length + 1 := by simp
    rw [lA] at hAB
    have hwk : i64.wrap ((((A' ++ [z]).length : Nat) : Int) - 1) = (A'.length : Nat) := by rw [lA, aD (by omega) (by omega)]; omega
    have e0 : (A' ++ [z]) ++ x :: B = A' ++ z :: (x :: B) := by simp
    rw [hwk, e0]
    simp only [List.map_append, List.map_cons, Int.toNat_natCast]
    rw [lA]
    generalize hk2 : aC rows 1 = key at *
    have i1 : aJ (aA (A' ++ z :: x :: B)) ((A'.length : Nat) : Int) 1 := bU (enc := fun n => [PV.int .i32 n]) (fun _ => rfl) (by omega) (by simp; omega)
    have i2 : aJ (aA (A' ++ z :: x :: B)) ((A'.length + 1 : Nat) : Int) 1 := bU (enc := fun n => [PV.int .i32 n]) (fun _ => rfl) (by omega) (by simp; omega)
    have j1 : aJ (aW (A'.map key ++ key z :: key x :: B.map key)) ((A'.length : Nat) : Int) 1 := bU l9 (by omega) (by simp; omega)
    have j2 : aJ (aW (A'.map key ++ key z :: key x :: B.map key)) ((A'.length + 1 : Nat) : Int) 1 := bU l9 (by omega) (by simp; omega)
    have i3 : aJ (aA (A' ++ z :: z :: B)) ((A'.length : Nat) : Int) 1 := bU (enc := fun n => [PV.int .i32 n]) (fun _ => rfl) (by omega) (by simp; omega)
    have j3 : aJ (aW (A'.map key ++ key z :: key z :: B.map key)) ((A'.length : Nat) : Int) 1 := bU l9 (by omega) (by simp; omega)
    have gz := zaf A' z (x :: B)
    have gx : (aA (A' ++ z :: x :: B)).getD (A'.length + 1) [] = [.int .i32 x] := by have := zaf (A' ++ [z]) x B; simpa using this
    have hz : (aW (A'.map key ++ key z :: key x :: B.map key)).getD A'.length [] = [.int .i64 (key z)] := by have := zag (A'.map key) (key z) (key x :: B.map key); simpa using this
    have hx2 : (aW (A'.map key ++ key z :: key x :: B.map key)).getD (A'.length + 1) [] = [.int .i64 (key x)] := by have := zag (A'.map key ++ [key z]) (key x) (B.map key); simpa using this
    have gz2 := zaf A' z (z :: B)
    have hz2 : (aW (A'.map key ++ key z :: key z :: B.map key)).getD A'.length [] = [.int .i64 (key z)] := by have := zag (A'.map key) (key z) (key z :: B.map key); simpa using this
    have s1 : (aA (A' ++ z :: x :: B)).set (A'.length + 1) [.int .i32 z] = aA (A' ++ z :: z :: B) := by
     have := qC (A' ++ [z]) B x z
     have e : (aA (A' ++ z :: x :: B)).set (A'.length + 1) [.int .i32 z] = aA ((A' ++ z :: x :: B).set (A'.length + 1) z) := by simp [aA, List.map_set]
     rw [e]; simp at this ⊢
    have s2 : (aA (A' ++ z :: z :: B)).set A'.length [.int .i32 x] = aA (A' ++ x :: z :: B) := by simp [aA]
    have t1 : (aW (A'.map key ++ key z :: key x :: B.map key)).set (A'.length + 1) [.int .i64 (key z)] = aW (A'.map key ++ key z :: key z :: B.map key) := by simp [aW]
    have t2 : (aW (A'.map key ++ key z :: key z :: B.map key)).set A'.length [.int .i64 (key x)] = aW (A'.map key ++ key x :: key z :: B.map key) := by simp [aW]
    refine ⟨j1, key z, by rw [hz]; rfl, aF (fun h2 => ?_) (fun h2 => ?_)⟩
    ·simp only [decide_eq_true_eq] at h2
     refine ⟨i1, z, by rw [gz]; rfl, i2, ⟨trivial, by rw [gx]; exact Nat.le_refl _⟩, j1, key z, by rw [hz]; rfl, j2, ⟨trivial, by rw [hx2]; exact Nat.le_refl _⟩, g1, x, by rw [g2, hxe]; rfl, ?_⟩
     rw [set1 gx, set1 hx2, s1, t1, set1 gz2, set1 hz2, s2, t2]
     refine ⟨i3, ⟨trivial, by rw [gz2]; exact Nat.le_refl _⟩, j3, ⟨trivial, by rw [hz2]; exact Nat.le_refl _⟩, rfl, ⟨trivial, i0, hi, x, A', z :: B, hxi, rfl, rfl, by rw [hord]; simp, fun y hy => ?_, rfl, by simp⟩, by simp⟩
     rcases List.mem_cons.1 hy with rfl | hy
     ·exact mJ.2 ⟨h1.2, h2⟩
     ·exact hB y hy
    ·simp only [decide_eq_true_eq] at h2
     rw [hwi]
     obtain ⟨d1, d2, d3, d4⟩ := done (.inr ⟨A', z, rfl, mK.2 (.inr (by omega))⟩)
     refine ⟨rfl, ⟨d1, d2, ?_, ?_⟩, hmu⟩
     ·rw [<- d3, e0]
     ·rw [<- d4]; simp
   ·have hA : A = [] ∨ aC rows 1 x = 0 := by
     simp only [Bool.and_eq_true, decide_eq_true_eq, bne_iff_ne, ne_eq, not_and, Decidable.not_not] at h1
     by_cases hA : A = []
     ·exact .inl hA
     ·exact .inr (h1 (by have := List.length_pos_iff.2 hA; omega))
    rw [hwi]
    refine ⟨rfl, done ?_, hmu⟩
    rcases hA with h | h
    ·exact .inl h
    ·rcases A.eq_nil_or_concat with rfl | ⟨D, z, rfl⟩
     ·exact .inl rfl
     ·exact .inr ⟨D, z, by simp, mK.2 (.inl h)⟩
 ·simp only [decide_eq_true_eq, aX] at hc
  rw [List.take_of_length_le (by omega)]
  exact ⟨_, _, rfl⟩
end
end Go.Eng



namespace Go.Eng
open Go Go.Proofs Go.Eng.Rows Go.Eng.Trie Go.Eng.Srt
theorem nR : tab.length < 1000000 := by have := zob; omega
theorem zah (n f : Bool) : PCall Tryz.prog 16 [.sl n f (aY tab)] (gU tab) := zp3 n f tab nR iI
theorem R32.take {l : List Int} (h : R32 l) (k : Nat) : R32 (l.take k) := fun x hx => h x (List.mem_of_mem_take hx)
section
variable {rows : List Row} {v : PV}
theorem zrp {ts : List PV} {key : Int -> Int} (hT : ∀ r : Int, (-2147483648 <= r /\ r <= 2147483647) -> PCall Tryz.prog 90 [.ptr ts, .int .i32 r] fun v => v = .int .i64 (key r)) : iX (.ptr ts) key := by
 intro a b ha hb
 refine zmi _ _ _ ?_; unfold zd0
 refine .inl ⟨ts, rfl, .inl ⟨ts, rfl, ?_⟩⟩
 refine (hT a ha).mono ?_
 rintro _ rfl
 refine ⟨_, rfl, ?_⟩
 refine (hT b hb).mono ?_
 rintro _ rfl
 refine ⟨_, rfl, ?_⟩
 refine (p61 _ _).mono ?_
 rintro _ rfl
 refine ⟨_, rfl, _, rfl, ?_⟩
 unfold cmpS; split <;> (try split) <;> omega
theorem zrq (hk : fA rows) (hv : gU rows v) (n f : Bool) (L : List Int) (hr : R32 L) (hL : L.length < 1000000000000) : PCall Tryz.prog 118 [v, .sl n f (aA L)] fun x => ∃ n f, x = .sl n f (aA (bF (aC rows 1) L)) := by
 obtain ⟨tc, tg, tj, tf, tp, made, sec, rfl, ht, hm⟩ := hv
 have hT : ∀ r : Int, (-2147483648 <= r /\ r <= 2147483647) -> PCall Tryz.prog 90 [.ptr [tc, tg, tj, tf, tp, .mp (dK made), .mp (eK sec)], .int .i32 r] fun v => v = .int .i64 (aC rows 1 r) := fun r hr => p7 _ _ ht hr
 exact (zq2 hk hT (zrp hT) L hr hL).mono fun x hx => ⟨_, _, hx⟩
theorem zhr (hp : bP rows) {l : List Int} (h : R32 l) : R32 (l.flatMap (aN rows 8)) := fun x hx => by
 obtain ⟨r, hr, h2⟩ := List.mem_flatMap.1 hx
 rcases qB hp 8 r x h2 with rfl | h3
 ·exact h x hr
 ·omega
theorem uK (rows : List Row) (l : List Int) : (l.flatMap (aN rows 8)).length <= 768 * l.length := by
 induction l with
 | nil => simp
 | cons x l ih =>
   have := jV rows 8 x
   rw [List.flatMap_cons, List.length_append, List.length_cons]; omega
theorem zhs (rows : List Row) {l : List Int} {i : Nat} (hi : i < l.length) : (l.take (i + 1)).flatMap (aN rows 8) = (l.take i).flatMap (aN rows 8) ++ aN rows 8 l[i] := by
 rw [c9 hi, List.flatMap_append]; simp
theorem zrr (hp : bP rows) (hk : fA rows) (hv : gU rows v) (n f : Bool) (L : List Int) (hr : R32 L) (hL : L.length < 1000000) : PCall Tryz.prog 93 [v, .sl n f (aA L)] fun x => ∃ n f, x = .sl n f (aA (dV rows L)) := by
 have hv' := hv
 obtain ⟨tc, tg, tj, tf, tp, made, sec, rfl, ht, hm⟩ := hv
 refine zq6 _ _ _ _ _ _ _ _ _ _ (fun i h0 _ s => h0 = .ptr [tc, tg, tj, tf, tp, .mp (dK made), .mp (eK sec)] /\ 0 <= i /\ i <= L.length /\ s = aA ((L.take i.toNat).flatMap (aN rows 8))) (fun i _ _ _ => L.length - i.toNat) ?_
 unfold zhd
 refine ⟨rfl, ⟨rfl, rfl, Int.le_refl _, by omega, rfl⟩, ?_⟩
 rintro i h0 n1 _ ⟨rfl, i0, i1, rfl⟩
 refine aF (fun hc => ?_) (fun hc => ?_)
 ·simp only [decide_eq_true_eq, aX] at hc
  have hi : i.toNat < L.length := by omega
  obtain ⟨g1, g2⟩ := eL i0 hi
  have hx := hr _ (List.getElem_mem hi)
  have hw : i64.wrap (i + 1) = i + 1 := aD (by omega) (by omega)
  have hfl := uK rows (L.take i.toNat)
  rw [List.length_take] at hfl
  refine ⟨g1, L[i.toNat], by rw [g2]; rfl, ?_⟩
  refine (zgv _ _ hp ht 8 _ n1 _ (by omega) hx (by omega)).mono ?_
  rintro r h' ⟨nl, rfl, rfl⟩
  rw [hw]
  exact ⟨(nl, _), ⟨rfl, rfl⟩, ⟨trivial, trivial, trivial⟩, rfl, ⟨rfl, by omega, by omega, by rw [show (i + 1).toNat = i.toNat + 1 by omega, zhs rows hi]; rfl⟩, by dsimp only; omega⟩
 ·simp only [decide_eq_true_eq, aX] at hc
  rw [List.take_of_length_le (by omega)]
  have hfl := uK rows L
  refine (zrq hk hv' n1 false _ (zhr hp hr) (by omega)).mono ?_
  rintro _ ⟨n2, f2, rfl⟩
  exact ⟨_, _, _, rfl, _, _, rfl⟩
theorem zrs (hp : bP rows) (hk : fA rows) (n f n2 f2 : Bool) (hrl : rows.length < 1000000) (L : List Int) (hr : R32 L) (hL : L.length < 1000000) : PCall Tryz.prog 73 [.sl n f (aY rows), .sl n2 f2 (aA L)] fun x => ∃ n f, x = .sl n f (aA (dV rows L)) := by
 refine zq7 _ _ _ _ _ _ (fun i _ s => 0 <= i /\ i <= L.length /\ s = aA ((L.take i.toNat).flatMap (aN rows 8))) (fun i _ _ => L.length - i.toNat) ?_
 unfold zhe
 refine ⟨⟨rfl, Int.le_refl _, by omega, rfl⟩, ?_⟩
 rintro i n1 _ ⟨i0, i1, rfl⟩
 refine aF (fun hc => ?_) (fun hc => ?_)
 ·simp only [decide_eq_true_eq, aX] at hc
  have hi : i.toNat < L.length := by omega
  obtain ⟨g1, g2⟩ := eL i0 hi
  have hx := hr _ (List.getElem_mem hi)
  have hw : i64.wrap (i + 1) = i + 1 := aD (by omega) (by omega)
  have hfl := uK rows (L.take i.toNat)
  rw [List.length_take] at hfl
  have hf1 := jV rows 8 L[i.toNat]
  have he : aA ((L.take i.toNat).flatMap (aN rows 8)) ++ aA (aN rows 8 L[i.toNat]) = aA ((L.take (i + 1).toNat).flatMap (aN rows 8)) := by
   rw [show (i + 1).toNat = i.toNat + 1 by omega, zhs rows hi, fG]
  refine ⟨g1, L[i.toNat], by rw [g2]; rfl, ?_⟩
  rw [hw]
  refine (zgu hp n f hrl 8 _ (by omega) hx).mono ?_
  rintro r h' (⟨nl, rfl, rfl⟩ | ⟨rfl, rfl⟩)
  ·exact .inl ⟨(nl, _), ⟨rfl, rfl⟩, trivial, ⟨cA _, by simp only [aX, List.length_map]; omega⟩, rfl, ⟨by omega, by omega, he⟩, by dsimp only; omega⟩
  ·exact .inr ⟨_, ⟨rfl, rfl⟩, trivial, ⟨cA _, by rw [aX, aX]; omega⟩, rfl, ⟨by omega, by omega, he⟩, by dsimp only; omega⟩
 ·simp only [decide_eq_true_eq, aX] at hc
  rw [List.take_of_length_le (by omega)]
  have hfl := uK rows L
  refine (zro hk n f n1 false _ hrl (by omega) (zhr hp hr)).mono ?_
  rintro _ ⟨n2, f2, rfl⟩
  exact ⟨_, _, _, rfl, _, _, rfl⟩
theorem zht (hk : fA rows) {l : List Int} (h : l.length < 1000000) : (dV rows l).length < 1000000000000 := by
 have := zhk hk l; omega
end
end Go.Eng



namespace Go.Eng.Rows
open Go Go.Eng Go.Eng.Trie Go.Eng.Srt
def dP (a b : Int) : Option Int :=
 if (4352 <= a /\ a < 4371) /\ 4449 <= b /\ b < 4470 then some (44032 + ((a - 4352) * 21 + (b - 4449)) * 28)
 else if (bG a = true /\ (a - 44032) % 28 = 0) /\ 4519 < b /\ b < 4547 then some (a + (b - 4519)) else none
def dQ (rows : List Row) (a b : Int) (x : Row) : Bool := decide (x.kind = 2) && (decide (x.a = a) && (decide (x.b = b) && (!decide (b = 0) && !dA rows x.fr)))
def cmpS (rows : List Row) (a b : Int) (o : Option Int) (x : Row) : Option Int :=
 if dQ rows a b x then (match o with | none => some x.fr | some r => if x.fr < r then some x.fr else some r) else o
def jY (rows : List Row) (a b : Int) : Option Int := rows.foldl (cmpS rows a b) none
def dX (rows : List Row) (a b : Int) : Option Int := match dP a b with | some r => some r | none => jY rows a b
theorem zhu (rows : List Row) (a b : Int) (l : List Row) : match l.foldl (cmpS rows a b) none with
 | none => ∀ x ∈ l, dQ rows a b x = false
 | some r => (∃ x ∈ l, dQ rows a b x = true /\ x.fr = r) /\ ∀ x ∈ l, dQ rows a b x = true -> r <= x.fr := by
 have : ∀ (m : List Row), match m.reverse.foldl (cmpS rows a b) none with
  | none => ∀ x ∈ m, dQ rows a b x = false
  | some r => (∃ x ∈ m, dQ rows a b x = true /\ x.fr = r) /\ ∀ x ∈ m, dQ rows a b x = true -> r <= x.fr := by
  intro m
  induction m with
  | nil => intro x hx; cases hx
  | cons y m ih =>
    rw [List.reverse_cons, List.foldl_append, List.foldl_cons, List.foldl_nil]
    generalize m.reverse.foldl (cmpS rows a b) none = o at ih
    unfold cmpS
    cases hc : dQ rows a b y with
    | false =>
      simp only [Bool.false_eq_true, if_false]
      cases o with
      | none => intro x hx; rcases List.mem_cons.1 hx with rfl | hx; exact hc; exact ih x hx
      | some r =>
        obtain ⟨⟨x, h1, h2⟩, h3⟩ := ih
        exact ⟨⟨x, List.mem_cons_of_mem _ h1, h2⟩, fun z hz hz2 => by rcases List.mem_cons.1 hz with rfl | hz; rw [hc] at hz2; cases hz2; exact h3 z hz hz2⟩
    | true =>
      simp only [if_true]
      cases o with
      | none =>
        refine ⟨⟨y, List.mem_cons_self, hc, rfl⟩, fun z hz hz2 => ?_⟩
        rcases List.mem_cons.1 hz with rfl | hz
        ·exact Int.le_refl _
        ·have := ih z hz; rw [this] at hz2; cases hz2
      | some r =>
        obtain ⟨⟨x, h1, h2, h4⟩, h3⟩ := ih
        by_cases hlt : y.fr < r
        ·simp only [hlt, if_true]
         refine ⟨⟨y, List.mem_cons_self, hc, rfl⟩, fun z hz hz2 => ?_⟩
         rcases List.mem_cons.1 hz with rfl | hz
         ·exact Int.le_refl _
         ·have := h3 z hz hz2; omega
        ·simp only [hlt, if_false]
         refine ⟨⟨x, List.mem_cons_of_mem _ h1, h2, h4⟩, fun z hz hz2 => ?_⟩
         rcases List.mem_cons.1 hz with rfl | hz
         ·omega
         ·exact h3 z hz hz2
 have h := this l.reverse
 rw [List.reverse_reverse] at h
 generalize l.foldl (cmpS rows a b) none = o at h ⊢
 cases o with
 | none => intro x hx; exact h x (List.mem_reverse.2 hx)
 | some r => exact ⟨by obtain ⟨⟨x, h1, h2⟩, _⟩ := h; exact ⟨x, List.mem_reverse.1 h1, h2⟩, fun x hx => h.2 x (List.mem_reverse.2 hx)⟩
theorem uL {rows : List Row} (h1 : cN rows) {x : Row} (hx : x ∈ rows) (hk : x.kind = 2) : aH rows x.fr = (x.a, x.b) /\ 0 <= x.fr /\ x.fr <= 1114111 := by
 obtain ⟨e1, e2, e3⟩ := h1 x hx hk
 have hf : bK rows 2 x.fr = some (x.a, x.b) := by unfold bK; rw [if_pos e2]; exact e3
 exact ⟨by unfold aH; rw [hf], e2⟩
theorem zhv {rows : List Row} (h1 : cN rows) {r : Int} (h : aH rows r ≠ (0, 0)) : ∃ x ∈ rows, x.kind = 2 /\ x.fr = r /\ aH rows r = (x.a, x.b) := by
 cases hf : bK rows 2 r with
 | none => exact absurd (by unfold aH; rw [hf]) h
 | some p =>
   obtain ⟨y, hy, hk, f1, f2⟩ := zhh hf
   obtain ⟨e1, _⟩ := h1 y hy hk
   have hr : y.fr = r := by omega
   have := (uL h1 hy hk).1
   rw [hr] at this
   exact ⟨y, hy, hk, hr, this⟩
theorem uM {rows : List Row} (h1 : cN rows) {a b r : Int} (h : jY rows a b = some r) : aH rows r = (a, b) /\ b ≠ 0 /\ dA rows r = false /\ (0 <= r /\ r <= 1114111) /\ ∃ x ∈ rows, x.kind = 2 /\ x.fr = r := by
 have := zhu rows a b rows
 unfold jY at h
 rw [h] at this
 obtain ⟨⟨x, hx, hc, rfl⟩, _⟩ := this
 simp only [dQ, Bool.and_eq_true, decide_eq_true_eq, Bool.not_eq_true', decide_eq_false_iff_not] at hc
 obtain ⟨hk, ha, hb, h0, ho⟩ := hc
 obtain ⟨hp, hr⟩ := uL h1 hx hk
 exact ⟨by rw [hp, ha, hb], h0, ho, hr, x, hx, hk, rfl⟩
theorem zrt {rows : List Row} (hp : bP rows) (h1 : cN rows) {made : List ((Int × Int) × Int)} {sec : List (Int × Bool)} (hm : MadeOK rows (fun r => 0 <= r /\ r <= 1114111) made sec) (a b : Int) :
 (if b = 0 then none else bH (a, b) made) = jY rows a b := by
 have hc := zhu rows a b rows
 have good : ∀ x ∈ rows, dQ rows a b x = true -> b ≠ 0 /\ (0 <= x.fr /\ x.fr <= 1114111) /\ iE rows x.fr /\ aH rows x.fr = (a, b) := fun x hx hc => by
  simp only [dQ, Bool.and_eq_true, decide_eq_true_eq, Bool.not_eq_true', decide_eq_false_iff_not] at hc
  obtain ⟨hk, ha, hb, h0, ho⟩ := hc
  obtain ⟨e, hr⟩ := uL h1 hx hk
  refine ⟨h0, hr, ⟨?_, ho⟩, by rw [e, ha, hb]⟩
  rw [e]; intro q; exact h0 (hb.symm.trans (Prod.mk.inj q).2)
 have back : ∀ r, b ≠ 0 -> iE rows r -> aH rows r = (a, b) -> ∃ x ∈ rows, dQ rows a b x = true /\ x.fr = r := fun r h0 hg hpr => by
  obtain ⟨x, hx, hk, hfr, hq⟩ := zhv h1 hg.1
  have ho := hg.2
  rw [hq] at hpr
  cases hpr
  refine ⟨x, hx, ?_, hfr⟩
  simp only [dQ, Bool.and_eq_true, decide_eq_true_eq, Bool.not_eq_true', decide_eq_false_iff_not]
  exact ⟨hk, trivial, trivial, h0, by rw [hfr]; exact ho⟩
 unfold jY
 generalize rows.foldl (cmpS rows a b) none = o at hc ⊢
 split
 ·rename_i h0
  cases o with
  | none => rfl
  | some r => obtain ⟨⟨x, hx, hb, _⟩, _⟩ := hc; exact absurd h0 (good x hx hb).1
 ·rename_i h0
  cases hg : bH (a, b) made with
  | none =>
    cases o with
    | none => rfl
    | some r =>
      obtain ⟨⟨x, hx, hb, _⟩, _⟩ := hc
      obtain ⟨_, g1, g2, g3⟩ := good x hx hb
      exact absurd g3 (hm.m2 _ hg _ g1 g2)
  | some r =>
    obtain ⟨d1, d2, d3, d4⟩ := hm.m1 _ _ hg
    obtain ⟨x, hx, hb, hfr⟩ := back r h0 d2 d3
    cases o with
    | none => have := hc x hx; rw [this] at hb; cases hb
    | some s =>
      obtain ⟨⟨y, hy, hyb, rfl⟩, hl⟩ := hc
      obtain ⟨_, g1, g2, g3⟩ := good y hy hyb
      have k1 := hl x hx hb
      have k2 := d4 _ g1 g2 g3
      rw [hfr] at k1
      exact congrArg some (Int.le_antisymm k2 k1)
theorem zai {a b r : Int} (h : dP a b = some r) : bG r = true := by
 unfold dP at h
 split at h
 ·rename_i hc; cases h; simp only [bG, Bool.and_eq_true, decide_eq_true_eq]; omega
 ·split at h
  ·rename_i hc; cases h; simp only [bG, Bool.and_eq_true, decide_eq_true_eq] at hc ⊢; omega
  ·cases h
theorem zru {rows : List Row} (h1 : cN rows) {a b r : Int} (h : dX rows a b = some r) : 0 <= r /\ r <= 1114111 := by
 unfold dX at h
 split at h
 ·rename_i s hj; cases h; have := zai hj; simp only [bG, Bool.and_eq_true, decide_eq_true_eq] at this; omega
 ·exact (uM h1 h).2.2.2.1
structure CSt where
 P : List Int
 s : Option Int
 M : List Int
def dC (key : Int -> Int) (M : List Int) : Int := match M.getLast? with | some m => key m | none => 0
def CSt.out (st : CSt) : List Int := st.P ++ (st.s.toList ++ st.M)
def bX (key : Int -> Int) (st : CSt) (r : Int) : CSt := if key r = 0 then ⟨st.out, some r, []⟩ else ⟨st.P, st.s, st.M ++ [r]⟩
def bL (rows : List Row) (st : CSt) (r : Int) : CSt := match st.s with
 | none => bX (aC rows 1) st r
 | some a => if st.M = [] ∨ dC (aC rows 1) st.M < aC rows 1 r then (match dX rows a r with
   | some c => ⟨st.P, some c, st.M⟩
   | none => bX (aC rows 1) st r) else bX (aC rows 1) st r
def bB (rows : List Row) (l : List Int) : CSt := l.foldl (bL rows) ⟨[], none, []⟩
def dR (rows : List Row) (l : List Int) : List Int := (bB rows l).out
theorem fH (rows : List Row) (l : List Int) (r : Int) : bB rows (l ++ [r]) = bL rows (bB rows l) r := by simp [bB]
theorem lB (key : Int -> Int) (st : CSt) (r : Int) : (bX key st r).out = st.out ++ [r] := by
 unfold bX; split <;> simp [CSt.out]
theorem nS (rows : List Row) (st : CSt) (r : Int) : bL rows st r = bX (aC rows 1) st r ∨ ∃ a c, st.s = some a /\ dX rows a r = some c /\ (st.M = [] ∨ dC (aC rows 1) st.M < aC rows 1 r) /\ bL rows st r = ⟨st.P, some c, st.M⟩ := by
 unfold bL
 split
 ·exact .inl rfl
 ·rename_i a ha
  split
  ·rename_i hf
   cases hc : dX rows a r with
   | none => exact .inl rfl
   | some c => exact .inr ⟨a, c, ha, hc, hf, rfl⟩
  ·exact .inl rfl
theorem zaj (rows : List Row) (l : List Int) : (dR rows l).length <= l.length := by
 unfold dR
 induction l using fV with
 | h0 => simp [bB, CSt.out]
 | h1 l r ih =>
   rw [fH, List.length_append, List.length_singleton]
   rcases nS rows (bB rows l) r with e | ⟨a, c, hs, _, _, e⟩
   ·rw [e, lB, List.length_append, List.length_singleton]; omega
   ·rw [e]; simp only [CSt.out, hs, Option.toList, List.length_append, List.length_cons] at ih ⊢; omega
theorem zak {rows : List Row} (h1 : cN rows) (l : List Int) : ∀ x ∈ dR rows l, x ∈ l ∨ (0 <= x /\ x <= 1114111) := by
 unfold dR
 induction l using fV with
 | h0 => intro x hx; simp [bB, CSt.out] at hx
 | h1 l r ih =>
   rw [fH]
   rcases nS rows (bB rows l) r with e | ⟨a, c, hs, hc, _, e⟩
   ·rw [e, lB]
    intro x hx
    rcases List.mem_append.1 hx with hx | hx
    ·exact (ih x hx).imp (fun h => List.mem_append.2 (.inl h)) id
    ·exact .inl (List.mem_append.2 (.inr hx))
   ·rw [e]
    intro x hx
    simp only [CSt.out, Option.toList, List.mem_append, List.mem_cons, List.not_mem_nil, or_false] at hx ih
    rcases hx with hx | rfl | hx
    ·exact (ih x (.inl hx)).imp (fun h => List.mem_append.2 (.inl h)) id
    ·exact .inr (zru h1 hc)
    ·exact (ih x (.inr (.inr hx))).imp (fun h => List.mem_append.2 (.inl h)) id
structure TabC (rows : List Row) : Prop where
 one : cN rows
 closed : uH rows
 cls : fA rows
 syl : ∀ x ∈ rows, x.kind = 2 -> bG x.fr = false
 deep : ∀ x ∈ rows, x.kind = 2 -> aN rows 7 x.fr = aN rows 8 x.fr
theorem TabC.full7 {rows : List Row} (h : TabC rows) (r : Int) : aN rows 7 r = aN rows 8 r := by
 by_cases hs : bG r = true
 ·rw [gV hs, gV hs]
 ·simp only [Bool.not_eq_true] at hs
  by_cases h0 : aH rows r = (0, 0)
  ·rw [mH hs h0, mH hs h0]
  ·obtain ⟨x, hx, hk, rfl, _⟩ := zhv h.one h0
   exact h.deep x hx hk
theorem TabC.join {rows : List Row} (h : TabC rows) {a b c : Int} (ha : bV rows a = true ∨ bG a = true) (hj : dP a b = some c) : aN rows 8 c = aN rows 8 a ++ [b] := by
 rw [gV (zai hj)]
 unfold dP at hj
 split at hj
 ·rename_i hc
  cases hj
  have hr : bV rows a = true := by
   rcases ha with ha | ha
   ·exact ha
   ·simp only [bG, Bool.and_eq_true, decide_eq_true_eq] at ha; omega
  rw [uI hr]
  unfold dO
  rw [if_pos (by omega)]
  simp only [List.cons_append, List.nil_append, List.cons.injEq, and_true]
  omega
 ·split at hj
  ·rename_i hc
   cases hj
   obtain ⟨⟨hs, h0⟩, h1, h2⟩ := hc
   rw [gV hs]
   simp only [bG, Bool.and_eq_true, decide_eq_true_eq] at hs
   unfold dO
   rw [if_neg (by omega), if_pos h0]
   simp only [List.cons_append, List.nil_append, List.cons.injEq, and_true]
   omega
  ·cases hj
theorem TabC.lead {rows : List Row} (h : TabC rows) {a : Int} (ha : 4352 <= a /\ a < 4371) : bV rows a = true := by
 have hx := h.closed (44032 + (a - 4352) * 588) a
 refine hx ?_
 have hs : bG (44032 + (a - 4352) * 588) = true := by simp only [bG, Bool.and_eq_true, decide_eq_true_eq]; omega
 rw [gV hs]
 unfold dO
 rw [if_pos (by omega), show 4352 + (44032 + (a - 4352) * 588 - 44032) / 588 = a by omega]
 exact List.mem_cons_self
theorem TabC.pair {rows : List Row} (h : TabC rows) {a b c : Int} (hb : bV rows b = true) (hc : dX rows a b = some c) : aN rows 8 c = aN rows 8 a ++ [b] := by
 unfold dX at hc
 split at hc
 ·rename_i s hj
  cases hc
  refine h.join ?_ hj
  unfold dP at hj
  split at hj
  ·rename_i hq; exact .inl (h.lead hq.1)
  ·split at hj
   ·rename_i hq; exact .inr hq.1.1
   ·cases hj
 ·obtain ⟨hp, h0, _, _, x, hx, hk, rfl⟩ := uM h.one hc
  have hs := h.syl x hx hk
  have hn : aH rows x.fr ≠ (0, 0) := by rw [hp]; intro e; cases e; exact h0 rfl
  rw [show (8 : Nat) = 7 + 1 from rfl]
  rw [aN, if_neg (by rw [hs]; simp), if_neg hn, hp]
  simp only
  rw [if_neg h0, h.full7, uI hb]
theorem qJ (key : Int -> Int) (M : List Int) (r : Int) : dC key (M ++ [r]) = key r := by simp [dC]
structure InvC (rows : List Row) (st : CSt) (p : List Int) : Prop where
 e : Eqv (aC rows 1) (st.out.flatMap (aN rows 8)) p
 m : ∀ m ∈ st.M, aC rows 1 m ≠ 0 /\ bV rows m = true /\ aC rows 1 m <= dC (aC rows 1) st.M
 q : st.M ≠ [] -> ∃ p' q, p = p' ++ [q] /\ dC (aC rows 1) st.M <= aC rows 1 q
theorem InvC.app {rows : List Row} {st : CSt} {p : List Int} (h : InvC rows st p) {r : Int} (hr : bV rows r = true) (hc : cC (aC rows 1) (p ++ [r])) : InvC rows (bX (aC rows 1) st r) (p ++ [r]) := by
 have he : Eqv (aC rows 1) ((bX (aC rows 1) st r).out.flatMap (aN rows 8)) (p ++ [r]) := by
  rw [lB, List.flatMap_append, List.flatMap_singleton, uI hr]
  simpa using h.e.app [] [r]
 refine ⟨he, ?_, ?_⟩
 ·unfold bX
  split
  ·intro m hm; cases hm
  ·rename_i h0
   intro m hm
   simp only at hm ⊢
   rw [qJ]
   rcases List.mem_append.1 hm with hm | hm
   ·obtain ⟨k1, k2, k3⟩ := h.m m hm
    refine ⟨k1, k2, ?_⟩
    obtain ⟨p', q, rfl, hq⟩ := h.q (List.ne_nil_of_mem hm)
    have := (jW.1 hc).2.2 q r (by simp) rfl h0
    omega
   ·rw [List.mem_singleton] at hm; subst hm; exact ⟨h0, hr, Int.le_refl _⟩
 ·unfold bX
  split
  ·intro hn; exact absurd rfl hn
  ·intro _; exact ⟨p, r, rfl, by simp only; rw [qJ]; exact Int.le_refl _⟩
theorem InvC.step {rows : List Row} (ht : TabC rows) {st : CSt} {p : List Int} (h : InvC rows st p) {r : Int} (hr : bV rows r = true) (hc : cC (aC rows 1) (p ++ [r])) : InvC rows (bL rows st r) (p ++ [r]) := by
 rcases nS rows st r with e | ⟨a, c, hs, hpc, hf, e⟩
 ·rw [e]; exact h.app hr hc
 ·rw [e]
  have hM : st.M.flatMap (aN rows 8) = st.M := zhi fun m hm => (h.m m hm).2.1
  have he := h.e
  simp only [CSt.out, hs, Option.toList, List.flatMap_append, List.flatMap_singleton, hM] at he
  have hlt : st.M ≠ [] -> dC (aC rows 1) st.M < aC rows 1 r := fun hn => hf.elim (fun e => absurd e hn) id
  refine ⟨?_, h.m, fun hn => ⟨p, r, rfl, Int.le_of_lt (hlt hn)⟩⟩
  simp only [CSt.out, Option.toList, List.flatMap_append, List.flatMap_singleton, hM, ht.pair hr hpc]
  refine Eqv.trans ?_ (by simpa using he.app [] [r])
  by_cases hn : st.M = []
  ·rw [hn]; simp; exact .refl _
  ·have h3 : dC (aC rows 1) st.M < aC rows 1 r := hlt hn
   have hr0 : aC rows 1 r ≠ 0 := by
    intro e0
    obtain ⟨m, hm⟩ := List.exists_mem_of_ne_nil _ hn
    obtain ⟨k1, _, k3⟩ := h.m m hm
    have := ht.cls m; omega
   have := (Eqv.ahead (key := aC rows 1) hr0 (B := st.M) [] fun m hm => ⟨(h.m m hm).1, by have := (h.m m hm).2.2; omega⟩).symm.app (st.P.flatMap (aN rows 8) ++ aN rows 8 a) []
   simpa using this
theorem zhw {rows : List Row} (ht : TabC rows) {l : List Int} (hr : ∀ x ∈ l, bV rows x = true) (hc : cC (aC rows 1) l) : InvC rows (bB rows l) l := by
 revert hr hc
 induction l using fV with
 | h0 => intro _ _; exact ⟨.refl _, (fun m hm => by cases hm), fun hn => absurd rfl hn⟩
 | h1 l r ih =>
   intro hr hc
   rw [fH]
   exact (ih (fun x hx => hr x (by simp [hx])) (jW.1 hc).1).step ht (hr r (by simp)) hc
theorem zrv {rows : List Row} (ht : TabC rows) {l : List Int} (hr : ∀ x ∈ l, bV rows x = true) (hc : cC (aC rows 1) l) : dV rows (dR rows l) = l := by
 show bF (aC rows 1) ((bB rows l).out.flatMap (aN rows 8)) = l
 rw [zg5 (zhw ht hr hc).e, zg6 hc]
def bM (rows : List Row) (l : List Int) : List Int := dR rows (dV rows l)
def zrw (rows : List Row) : Bool := rows.all fun x => !decide (x.kind = 2) || (!bG x.fr && decide (aN rows 7 x.fr = aN rows 8 x.fr))
end Go.Eng.Rows



namespace Go.Eng
open Go Go.Proofs Go.Eng.Rows Go.Eng.Trie
theorem zhx : zrw tab73 = true := by kernel_rfl
theorem zrx : TabC tab where
 one := iJ
 closed := zrl
 cls := gW
 syl := fun x hx hk => by
  have := List.all_eq_true.1 zhx x (zhq hx hk)
  simp only [hk, decide_true, Bool.not_true, Bool.false_or, Bool.and_eq_true, Bool.not_eq_true'] at this
  exact this.1
 deep := fun x hx hk => by
  have := List.all_eq_true.1 zhx x (zhq hx hk)
  simp only [hk, decide_true, Bool.not_true, Bool.false_or, Bool.and_eq_true, decide_eq_true_eq] at this
  rw [zae, zae]; exact this.2
end Go.Eng



namespace Go.Eng.Rows
open Go Go.Eng Go.Eng.Trie Go.Eng.Srt
def Comp (rows : List Row) (s : List Int) : Prop := ∃ d, (∀ x ∈ d, bV rows x = true) /\ cC (aC rows 1) d /\ dR rows d = s
section
variable {rows : List Row}
theorem zhy (ht : TabC rows) (l : List Int) : Comp rows (bM rows l) := ⟨dV rows l, zre ht.cls ht.closed l, zrf rows l, rfl⟩
theorem Comp.fix (ht : TabC rows) {s : List Int} (h : Comp rows s) : bM rows s = s := by
 obtain ⟨d, h1, h2, rfl⟩ := h
 show dR rows (dV rows (dR rows d)) = _
 rw [zrv ht h1 h2]
def fW (rows : List Row) (s : Option Int) (M : List Int) (r : Int) : Option Int := match s with
 | none => none
 | some a => if M = [] ∨ dC (aC rows 1) M < aC rows 1 r then dX rows a r else none
theorem gY (st : CSt) (r : Int) : bL rows st r = match fW rows st.s st.M r with | some c => ⟨st.P, some c, st.M⟩ | none => bX (aC rows 1) st r := by
 unfold bL fW
 cases st.s with
 | none => rfl
 | some a =>
   simp only
   split
   ·rfl
   ·rfl
theorem uN {s : Option Int} {M : List Int} {r c : Int} (h : fW rows s M r = some c) : ∃ a, s = some a /\ dX rows a r = some c /\ (M = [] ∨ dC (aC rows 1) M < aC rows 1 r) := by
 unfold fW at h
 cases s with
 | none => cases h
 | some a =>
   simp only at h
   split at h
   ·rename_i hf; exact ⟨a, rfl, h, hf⟩
   ·cases h
theorem jZ {d : List Int} {x : Int} : cC (aC rows 1) (d ++ [x]) ↔ cC (aC rows 1) d /\ (∀ z, d.getLast? = some z -> aC rows 1 x ≠ 0 -> aC rows 1 z <= aC rows 1 x) := by
 rw [jW]
 constructor
 ·rintro ⟨h1, _, h3⟩; exact ⟨h1, fun z hz hx => h3 z x hz rfl hx⟩
 ·rintro ⟨h1, h3⟩; exact ⟨h1, trivial, fun z x' hz hx' h0 => by simp at hx'; subst hx'; exact h3 z hz h0⟩
theorem zal {d : List Int} {r x : Int} (h : cC (aC rows 1) (d ++ [r] ++ [x])) (hx : aC rows 1 x ≠ 0) : aC rows 1 r <= aC rows 1 x := (jZ.1 h).2 r (by simp) hx
def Wit (rows : List Row) (d : List Int) (st : CSt) : Prop := ∃ e, (∀ x ∈ e, bV rows x = true) /\ bB rows e = st /\ (st.out = [] -> e = []) /\ cC (aC rows 1) e /\ ∀ x, cC (aC rows 1) (d ++ [x]) -> cC (aC rows 1) (e ++ [x])
theorem Wit.snoc {d : List Int} {st : CSt} (h : Wit rows d st) {r : Int} (hr : bV rows r = true) (hc : cC (aC rows 1) (d ++ [r])) (hn : (bL rows st r).out ≠ []) : Wit rows (d ++ [r]) (bL rows st r) := by
 obtain ⟨e, h1, h2, h3, h4, h5⟩ := h
 refine ⟨e ++ [r], fun x hx => ?_, by rw [fH, h2], fun hq => absurd hq hn, h5 r hc, fun x hx => ?_⟩
 ·rcases List.mem_append.1 hx with hx | hx
  ·exact h1 x hx
  ·rw [List.mem_singleton] at hx; subst hx; exact hr
 ·exact jZ.2 ⟨h5 r hc, fun z hz h0 => by simp at hz; subst hz; exact zal hx h0⟩
theorem zam {key : Int -> Int} {M : List Int} (h : M ≠ []) : ∃ m ∈ M, dC key M = key m := by
 rcases M.eq_nil_or_concat with rfl | ⟨D, z, rfl⟩
 ·exact absurd rfl h
 ·exact ⟨z, by simp, by simp [dC]⟩
theorem zhz {d : List Int} (h : (bB rows d).out = []) : d = [] := by
 revert h
 induction d using fV with
 | h0 => exact fun _ => rfl
 | h1 d r ih =>
   rw [fH, gY]
   intro h
   split at h
   ·simp [CSt.out] at h
   ·rw [lB] at h; simp at h
theorem qK {d : List Int} (h : (bB rows d).s = none) : (bB rows d).P = [] := by
 revert h
 induction d using fV with
 | h0 => exact fun _ => rfl
 | h1 d r ih =>
   rw [fH, gY]
   split
   ·intro h; cases h
   ·unfold bX
    split
    ·intro h; cases h
    ·exact ih
theorem zry (ht : TabC rows) {d : List Int} (hr : ∀ x ∈ d, bV rows x = true) (hc : cC (aC rows 1) d) (hn : (bB rows d).M ≠ []) :
 Wit rows d ⟨(bB rows d).P, (bB rows d).s, (bB rows d).M.dropLast⟩ := by
 revert hr hc hn
 induction d using fV with
 | h0 => intro _ _ hn; exact absurd rfl hn
 | h1 d r ih =>
   intro hr hc
   have hr1 : ∀ x ∈ d, bV rows x = true := fun x hx => hr x (by simp [hx])
   have hc1 := (jZ.1 hc).1
   have hinv := zhw ht hr1 hc1
   have hrr := hr r (by simp)
   rw [fH]
   have ih := ih hr1 hc1
   have hon := zhz (rows := rows) (d := d)
   generalize hsd : bB rows d = st at *
   rw [gY]
   cases hd : fW rows st.s st.M r with
   | none =>
     simp only
     unfold bX
     split
     ·intro hn; exact absurd rfl hn
     ·rename_i h0
      intro _
      simp only [List.dropLast_concat]
      refine ⟨d, hr1, hsd, fun h => hon h, hc1, fun x hx => jZ.2 ⟨hc1, fun z hz hx0 => ?_⟩⟩
      have := (jZ.1 hc).2 z hz h0
      have := zal hx hx0
      omega
   | some c =>
     simp only
     intro hn
     obtain ⟨a, hs, hp, hf⟩ := uN hd
     have hlt := hf.elim (fun e => absurd e hn) id
     have hw := (ih hn).snoc hrr hc
     have he : bL rows ⟨st.P, st.s, st.M.dropLast⟩ r = ⟨st.P, some c, st.M.dropLast⟩ := by
      rw [gY]
      have : fW rows st.s st.M.dropLast r = some c := by
       unfold fW
       rw [hs]
       simp only
       rw [if_pos, hp]
       by_cases hdl : st.M.dropLast = []
       ·exact .inl hdl
       ·obtain ⟨m, hm, e⟩ := zam (key := aC rows 1) hdl
        have := (hinv.m m (List.dropLast_subset _ hm)).2.2
        exact .inr (by omega)
      simp only [this]
     rw [he] at hw
     exact hw (by simp [CSt.out])
def eP (st : CSt) : CSt := match st.s, st.P with
 | none, P => ⟨P, none, st.M.tail⟩
 | some _, [] => ⟨[], none, st.M⟩
 | some c, _ :: P => ⟨P, some c, st.M⟩
theorem zrz {st : CSt} (h : st.s = none -> st.P = []) : (eP st).out = st.out.tail := by
 obtain ⟨P, s, M⟩ := st
 cases s with
 | none =>
   have hp : P = [] := h rfl
   subst hp
   simp [eP, CSt.out]
 | some c => cases P <;> simp [eP, CSt.out]
theorem zr0 (hk : fA rows) (M : List Int) : 0 <= dC (aC rows 1) M := by
 by_cases h : M = []
 ·subst h; exact Int.le_refl _
 ·obtain ⟨m, _, e⟩ := zam (key := aC rows 1) h
  rw [e]; exact hk m
theorem zr1 (ht : TabC rows) {d : List Int} (hr : ∀ x ∈ d, bV rows x = true) (hc : cC (aC rows 1) d) (hn : d ≠ []) : Wit rows d (eP (bB rows d)) := by
 revert hr hc hn
 induction d using fV with
 | h0 => intro _ _ hn; exact absurd rfl hn
 | h1 d r ih =>
   intro hr hc _
   have hr1 : ∀ x ∈ d, bV rows x = true := fun x hx => hr x (by simp [hx])
   have hc1 := (jZ.1 hc).1
   have hrr := hr r (by simp)
   by_cases hd0 : d = []
   ·subst hd0
    refine ⟨[], fun x hx => (by cases hx), ?_, fun _ => rfl, trivial, fun x _ => trivial⟩
    rw [fH]
    show _ = eP (bX (aC rows 1) ⟨[], none, []⟩ r)
    unfold bX
    split <;> rfl
   ·have ih := ih hr1 hc1 hd0
    have hP := qK (rows := rows) (d := d)
    have hon : (bB rows d).out ≠ [] := fun h => hd0 (zhz h)
    rw [fH]
    generalize bB rows d = st at *
    have key : (eP (bL rows st r) = bL rows (eP st) r /\ (bL rows (eP st) r).out ≠ []) -> Wit rows (d ++ [r]) (eP (bL rows st r)) := fun ⟨h1, h2⟩ => by
     rw [h1]; exact ih.snoc hrr hc h2
    obtain ⟨P, s, M⟩ := st
    cases s with
    | none =>
      obtain rfl : P = [] := hP rfl
      cases M with
      | nil => exact absurd rfl hon
      | cons m M =>
        refine key ?_
        have e1 : bL rows ⟨[], none, m :: M⟩ r = bX (aC rows 1) ⟨[], none, m :: M⟩ r := rfl
        have e2 : bL rows (eP ⟨[], none, m :: M⟩) r = bX (aC rows 1) ⟨[], none, M⟩ r := rfl
        rw [e1, e2, lB]
        refine ⟨?_, by simp⟩
        unfold bX
        split <;> simp [eP, CSt.out]
    | some c =>
      cases P with
      | cons p P =>
        refine key ?_
        have e2 : eP ⟨p :: P, some c, M⟩ = ⟨P, some c, M⟩ := rfl
        rw [e2, gY, gY]
        simp only
        cases fW rows (some c) M r with
        | none => simp only; rw [lB]; refine ⟨?_, by simp⟩; unfold bX; split <;> simp [eP, CSt.out]
        | some c' => exact ⟨rfl, by simp [CSt.out]⟩
      | nil =>
        have e2 : eP ⟨[], some c, M⟩ = ⟨[], none, M⟩ := rfl
        have e3 : bL rows ⟨[], none, M⟩ r = bX (aC rows 1) ⟨[], none, M⟩ r := rfl
        cases hdec : fW rows (some c) M r with
        | none =>
          refine key ?_
          rw [e2, e3, gY]
          simp only [hdec]
          rw [lB]
          refine ⟨?_, by simp⟩
          unfold bX
          split <;> simp [eP, CSt.out]
        | some c' =>
          obtain ⟨a, _, hp, hf⟩ := uN hdec
          have e4 : eP (bL rows ⟨[], some c, M⟩ r) = ⟨[], none, M⟩ := by
           rw [gY]; simp only [hdec]; rfl
          rw [e4]
          rw [e2] at ih
          obtain ⟨e, h1, h2, h3, h4, h5⟩ := ih
          refine ⟨e, h1, h2, h3, h4, fun x hx => jZ.2 ⟨h4, fun z hz hx0 => ?_⟩⟩
          by_cases h0 : aC rows 1 r = 0
          ·have hl := zr0 ht.cls M
           have hM : M = [] := hf.elim id fun h => by omega
           subst hM
           have := h3 rfl
           subst this
           simp at hz
          ·have k1 := (jZ.1 (h5 r hc)).2 z hz h0
           have k2 := zal hx hx0
           omega
theorem zr2 {d : List Int} (hr : ∀ x ∈ d, bV rows x = true) (hc : cC (aC rows 1) d) (hn : (bB rows d).s ≠ none) : ∃ e, (∀ x ∈ e, bV rows x = true) /\ cC (aC rows 1) e /\ (bB rows e).out = (bB rows d).P := by
 revert hr hc hn
 induction d using fV with
 | h0 => intro _ _ hn; exact absurd rfl hn
 | h1 d r ih =>
   intro hr hc
   have hr1 : ∀ x ∈ d, bV rows x = true := fun x hx => hr x (by simp [hx])
   have hc1 := (jZ.1 hc).1
   have ih := ih hr1 hc1
   rw [fH, gY]
   cases hd : fW rows (bB rows d).s (bB rows d).M r with
   | none =>
     simp only
     unfold bX
     split
     ·intro _; exact ⟨d, hr1, hc1, rfl⟩
     ·exact ih
   | some c =>
     obtain ⟨a, hs, _⟩ := uN hd
     intro _
     exact ih (by rw [hs]; simp)
theorem Comp.nil : Comp rows [] := ⟨[], fun x hx => (by cases hx), trivial, rfl⟩
theorem Comp.tail (ht : TabC rows) {s : List Int} (h : Comp rows s) : Comp rows s.tail := by
 obtain ⟨d, h1, h2, rfl⟩ := h
 by_cases hd : d = []
 ·subst hd; exact .nil
 ·obtain ⟨e, k1, k2, _, k4, _⟩ := zr1 ht h1 h2 hd
  exact ⟨e, k1, k4, by unfold dR; rw [k2, zrz qK]⟩
theorem Comp.dropLast (ht : TabC rows) {s : List Int} (h : Comp rows s) : Comp rows s.dropLast := by
 obtain ⟨d, h1, h2, rfl⟩ := h
 unfold dR
 by_cases hM : (bB rows d).M = []
 ·cases hs : (bB rows d).s with
  | none =>
    have : (bB rows d).out = [] := by simp [CSt.out, qK hs, hs, hM]
    rw [this]; exact .nil
  | some c =>
    obtain ⟨e, k1, k2, k3⟩ := zr2 h1 h2 (by rw [hs]; simp)
    refine ⟨e, k1, k2, ?_⟩
    unfold dR
    rw [k3]
    simp [CSt.out, hs, hM]
 ·obtain ⟨e, k1, k2, _, k4, _⟩ := zry ht h1 h2 hM
  refine ⟨e, k1, k4, ?_⟩
  unfold dR
  rw [k2]
  simp only [CSt.out]
  rw [List.dropLast_append_of_ne_nil (by simp [hM]), List.dropLast_append_of_ne_nil hM]
theorem Comp.drop (ht : TabC rows) {s : List Int} (h : Comp rows s) : ∀ k, Comp rows (s.drop k)
 | 0 => h
 | k + 1 => by
   have := (Comp.drop ht h k).tail ht
   rwa [List.tail_drop] at this
theorem Comp.take (ht : TabC rows) {s : List Int} (h : Comp rows s) (k : Nat) : Comp rows (s.take k) := by
 have : ∀ n, Comp rows (s.take (s.length - n)) := by
  intro n
  induction n with
  | zero => rw [Nat.sub_zero, List.take_length]; exact h
  | succ n ih =>
    have := ih.dropLast ht
    rw [List.dropLast_eq_take, List.take_take, List.length_take] at this
    rwa [show min (min (s.length - n) s.length - 1) (s.length - n) = s.length - (n + 1) by omega] at this
 by_cases hk : k <= s.length
 ·have := this (s.length - k)
  rwa [show s.length - (s.length - k) = k by omega] at this
 ·rw [List.take_of_length_le (by omega)]; exact h
end
end Go.Eng.Rows



namespace Go.Eng
open Go Go.Proofs
def zh0 (a b : Int) (R : PV -> Prop) : Prop :=
 if (decide (a >= 4352) && decide (a < 4371) && decide (b >= 4449) && decide (b < 4470)) = true then R (PV.tup [Z3 (i32.wrap ((44032 : Int) + i32.wrap (i32.wrap (i32.wrap (i32.wrap (i32.wrap (a -
 4352) * 21) + b) - 4449) * 28))), Zb true]) else PCall Tryz.prog 156 [Z3 a] fun v => ∃ b1, v = Zb b1 /\ if (b1 && (i32.wrap (a - 44032)).tmod (28 : Int) == 0 && decide (b > 4519) && decide (b < 4547)) = true then R
 (PV.tup [Z3 (i32.wrap (i32.wrap (a + b) - 4519)), Zb true]) else R (PV.tup [Z3 0, Zb false])
theorem zr3 (a b : Int) {R : PV -> Prop} (h : zh0 a b R) : PCall Tryz.prog 142 [.int .i32 a, .int .i32 b] R :=
 PCall.of Tryz.func142 (by kernel_rfl) (by kernel_rfl) (zl (by kernel_rfl)) (Eq.mpr (by kernel_rfl : aQ Tryz.prog (fun _ => none) Tryz.f142 [0, 1, 4, 5, 6, 29] (fun _ => none) (Tryz.f142.body.getD .skip) [.int .i32 a, .int .i32 b] R = _) h)

def zh1 (tc tg tj tf tp : PV) (M S : List (PV × PV)) (a b : Int) (R : PV -> Prop) : Prop :=
 PCall Tryz.prog 142 [Z3 a, Z3 b] fun v => ∃ vs, v = PV.tup vs /\ vs.length = 2 /\ ∃ x, vs.head? = some x /\ ∃ n, x = Z3 n /\ ∃ x1, vs.tail.head? = some x1 /\ ∃ b1, x1 = Zb b1 /\ if b1 = true then R
 (PV.tup [Z3 n, Zb true]) else PCall Tryz.prog 143 [PV.ptr [tc, tg, tj, tf, tp, PV.mp M, PV.mp S], Z3 a, Z3 b] fun v1 => ∃ vs1, v1 = PV.tup vs1 /\ vs1.length = 2 /\ ∃ x2, vs1.head? = some x2 /\ ∃ n1, x2 = Z3 n1
 /\ ∃ x3, vs1.tail.head? = some x3 /\ ∃ b2, x3 = Zb b2 /\ R (PV.tup [Z3 n1, Zb b2])
theorem zr4 (tc tg tj tf tp : PV) (M S : List (PV × PV)) (a b : Int) {R : PV -> Prop} (h : zh1 tc tg tj tf tp M S a b R) : PCall Tryz.prog 119 [.ptr [tc, tg, tj, tf, tp, .mp M, .mp S], .int .i32 a, .int .i32 b] R :=
 PCall.of Tryz.func119 (by kernel_rfl) (by kernel_rfl) (zl (by kernel_rfl)) (Eq.mpr (by kernel_rfl : aQ Tryz.prog (fun _ => none) Tryz.f119 [0, 1, 2, 6, 7, 8, 9, 16] (fun _ => none) (Tryz.f119.body.getD .skip) [.ptr [tc, tg, tj, tf, tp, .mp M, .mp S], .int .i32 a, .int .i32 b] R = _) h)

def mL (tc tg tj tf tp : PV) (M S : List (PV × PV)) (n f : Bool) (es : LL) (x6 x7 x16 : Int) (n_0 : Bool) (s_0 : LL) : Env × Hp := ([(0, LV.pv (PV.ptr [tc, tg, tj, tf, tp, PV.mp M, PV.mp S])), (5, LV.own 0), (6, Y6 x6), (7, Y6 x7), (14, LV.pv (PV.sl n f es)), (15, Y6 ↑es.length), (16, Y6 x16)], [.sl (21, 1) true n_0 s_0])
def zh2 (tc tg tj tf tp : PV) (M S : List (PV × PV)) (n f : Bool) (es : LL) (J : Int -> Int -> Int -> Bool -> LL -> Prop) (μ : Int -> Int -> Int -> Bool -> LL -> Nat) (R : PV -> Prop) : Prop :=
 (aB (mL tc tg tj tf tp M S n f es (-1 : Int) (0 : Int) (0 : Int) true []) /\ J (-1 : Int) (0 : Int) (0 : Int) true []) /\ ∀ (x6 x7 x16 : Int) (n_0 : Bool) (s_0 : LL), J x6 x7 x16 n_0 s_0 -> if decide (x16 < (↑es.length : Int)) = true
 then aJ es x16 1 /\ ∃ n1, (es.getD x16.toNat []).head? = some (Z3 n1) /\ PCall Tryz.prog 90 [PV.ptr [tc, tg, tj, tf, tp, PV.mp M, PV.mp S], Z3 n1] fun v => ∃ n2, v = Z6 n2 /\ if (decide (x6 >= 0) && (x6 ==
 i64.wrap ((↑s_0.length : Int) - 1) || x7 != 0 && decide (x7 < n2))) = true then aJ s_0 x6 1 /\ ∃ n3, (List.drop 0 (s_0.getD x6.toNat [])).head? = some (Z3 n3) /\ PCall Tryz.prog 119 [PV.ptr [tc, tg, tj, tf, tp, PV.mp M,
 PV.mp S], Z3 n3, Z3 n1] fun v1 => ∃ vs, v1 = PV.tup vs /\ vs.length = 2 /\ ∃ x, vs.head? = some x /\ ∃ n4, x = Z3 n4 /\ ∃ x1, vs.tail.head? = some x1 /\ ∃ b, x1 = Zb b /\ if b = true then aJ s_0
 x6 1 /\ (1 = 1 /\ 1 <= (s_0.getD x6.toNat []).length) /\ aB (mL tc tg tj tf tp M S n f es x6 x7 (i64.wrap (x16 + 1)) n_0 (s_0.set x6.toNat (Z3 n4 :: zq (List.drop 1 (s_0.getD x6.toNat []))))) /\ J x6 x7
 (i64.wrap (x16 + 1)) n_0 (s_0.set x6.toNat (Z3 n4 :: zq (List.drop 1 (s_0.getD x6.toNat [])))) /\ μ x6 x7 (i64.wrap (x16 + 1)) n_0 (s_0.set x6.toNat (Z3 n4 :: zq (List.drop
 1 (s_0.getD x6.toNat [])))) < μ x6 x7 x16 n_0 s_0 else if (n2 == 0) = true then (aM [[Z3 n1]] 1 /\ (s_0.length + 1) * 4 <= 140737488355328) /\ aB (mL tc tg tj tf tp M S n f es (↑s_0.length : Int) n2 (i64.wrap (x16 + 1)) (n_0 &&
 false) (s_0 ++ [[Z3 n1]])) /\ J (↑s_0.length : Int) n2 (i64.wrap (x16 + 1)) (n_0 && false) (s_0 ++ [[Z3 n1]]) /\ μ (↑s_0.length : Int) n2 (i64.wrap (x16 + 1)) (n_0 && false) (s_0 ++ [[Z3 n1]]) < μ x6 x7 x16 n_0 s_0 else (aM
 [[Z3 n1]] 1 /\ (s_0.length + 1) * 4 <= 140737488355328) /\ aB (mL tc tg tj tf tp M S n f es x6 n2 (i64.wrap (x16 + 1)) (n_0 && false) (s_0 ++ [[Z3 n1]])) /\ J x6 n2 (i64.wrap (x16 + 1)) (n_0 && false) (s_0 ++ [[Z3 n1]]) /\
 μ x6 n2 (i64.wrap (x16 + 1)) (n_0 && false) (s_0 ++ [[Z3 n1]]) < μ x6 x7 x16 n_0 s_0 else if (n2 == 0) = true then (aM [[Z3 n1]] 1 /\ (s_0.length + 1) * 4 <= 140737488355328) /\ aB (mL tc tg tj tf tp M S n f es (↑s_0.length :
 Int) n2 (i64.wrap (x16 + 1)) (n_0 && false) (s_0 ++ [[Z3 n1]])) /\ J (↑s_0.length : Int) n2 (i64.wrap (x16 + 1)) (n_0 && false) (s_0 ++ [[Z3 n1]]) /\ μ (↑s_0.length : Int) n2 (i64.wrap (x16 + 1)) (n_0 && false) (s_0 ++
 [[Z3 n1]]) < μ x6 x7 x16 n_0 s_0 else (aM [[Z3 n1]] 1 /\ (s_0.length + 1) * 4 <= 140737488355328) /\ aB (mL tc tg tj tf tp M S n f es x6 n2 (i64.wrap (x16 + 1)) (n_0 && false) (s_0 ++ [[Z3 n1]])) /\ J x6 n2 (i64.wrap
 (x16 + 1)) (n_0 && false) (s_0 ++ [[Z3 n1]]) /\ μ x6 n2 (i64.wrap (x16 + 1)) (n_0 && false) (s_0 ++ [[Z3 n1]]) < μ x6 x7 x16 n_0 s_0 else R (PV.sl n_0 false s_0)
theorem zr5 (tc tg tj tf tp : PV) (M S : List (PV × PV)) (n f : Bool) (es : LL) (J : Int -> Int -> Int -> Bool -> LL -> Prop) (μ : Int -> Int -> Int -> Bool -> LL -> Nat) {R : PV -> Prop} (h : zh2 tc tg tj tf tp M S n f es J μ R) : PCall Tryz.prog 96 [.ptr [tc, tg, tj, tf, tp, .mp M, .mp S], .sl n f es] R :=
 PCall.of Tryz.func96 (by kernel_rfl) (by kernel_rfl) (zl (by kernel_rfl)) (Eq.mpr (by kernel_rfl : aQ Tryz.prog (fun _ => none) Tryz.f96 [0, 1, 4, 5, 6, 7, 9, 10, 11, 12, 13, 14, 15, 16, 17, 41, 52, 58] (fun zz_ => match zz_ with | 5 => some ⟨Int × Int × Int × Bool × LL, fun s => mL tc tg tj tf tp M S n f es s.1 s.2.1 s.2.2.1 s.2.2.2.1 s.2.2.2.2, fun _ s => J s.1 s.2.1 s.2.2.1 s.2.2.2.1 s.2.2.2.2, fun s => μ s.1 s.2.1 s.2.2.1 s.2.2.2.1 s.2.2.2.2, fun e h => (gI e 6, gI e 7, gI e 16, oN h 0, oS h 0), [(5, 21, 1)], [0, 5, 6, 7, 14, 15, 16], [], fun p => ∀ (x6 x7 x16 : Int) (n_0 : Bool) (s_0 : LL), p (x6, x7, x16, n_0, s_0), fun p h s => h s.1 s.2.1 s.2.2.1 s.2.2.2.1 s.2.2.2.2⟩ | _ => none) (Tryz.f96.body.getD .skip) [.ptr [tc, tg, tj, tf, tp, .mp M, .mp S], .sl n f es] R = _) h)

def zh3 (tc tg tj tf tp : PV) (M S : List (PV × PV)) (n f : Bool) (es : LL) (R : PV -> Prop) : Prop :=
 PCall Tryz.prog 93 [PV.ptr [tc, tg, tj, tf, tp, PV.mp M, PV.mp S], PV.sl n f es] fun v => ∃ n1 f1 es1, v = PV.sl n1 f1 es1 /\ PCall Tryz.prog 96 [PV.ptr [tc, tg, tj, tf, tp, PV.mp M, PV.mp S], PV.sl n1 f1
 es1] fun v1 => ∃ n2 f2 es2, v1 = PV.sl n2 f2 es2 /\ R (PV.sl n2 f2 es2)
theorem zr6 (tc tg tj tf tp : PV) (M S : List (PV × PV)) (n f : Bool) (es : LL) {R : PV -> Prop} (h : zh3 tc tg tj tf tp M S n f es R) : PCall Tryz.prog 65 [.ptr [tc, tg, tj, tf, tp, .mp M, .mp S], .sl n f es] R :=
 PCall.of Tryz.func65 (by kernel_rfl) (by kernel_rfl) (zl (by kernel_rfl)) (Eq.mpr (by kernel_rfl : aQ Tryz.prog (fun _ => none) Tryz.f65 [0, 1, 4] (fun _ => none) (Tryz.f65.body.getD .skip) [.ptr [tc, tg, tj, tf, tp, .mp M, .mp S], .sl n f es] R = _) h)

end Go.Eng



namespace Go.Eng
open Go Go.Proofs Go.Eng.Rows Go.Eng.Trie Go.Eng.Srt
def i6 : Option Int -> PV
 | some r => .tup [.int .i32 r, .bool true]
 | none => .tup [.int .i32 0, .bool false]
theorem zr7 {a b : Int} (ha : -2147483648 <= a /\ a <= 2147483647) (hb : -2147483648 <= b /\ b <= 2147483647) : PCall Tryz.prog 142 [.int .i32 a, .int .i32 b] fun v => v = i6 (dP a b) := by
 refine zr3 _ _ ?_; unfold zh0
 refine aF (fun hc => ?_) (fun hc => ?_)
 ·simp only [Bool.and_eq_true, decide_eq_true_eq, ge_iff_le] at hc
  have w1 : i32.wrap (a - 4352) = a - 4352 := cS (by omega) (by omega)
  have w2 : i32.wrap ((a - 4352) * 21) = (a - 4352) * 21 := cS (by omega) (by omega)
  have w3 : i32.wrap ((a - 4352) * 21 + b) = (a - 4352) * 21 + b := cS (by omega) (by omega)
  have w4 : i32.wrap ((a - 4352) * 21 + b - 4449) = (a - 4352) * 21 + b - 4449 := cS (by omega) (by omega)
  have w5 : i32.wrap (((a - 4352) * 21 + b - 4449) * 28) = ((a - 4352) * 21 + b - 4449) * 28 := cS (by omega) (by omega)
  have w6 : i32.wrap (44032 + ((a - 4352) * 21 + b - 4449) * 28) = 44032 + ((a - 4352) * 21 + b - 4449) * 28 := cS (by omega) (by omega)
  rw [w1, w2, w3, w4, w5, w6]
  unfold dP
  rw [if_pos (by omega)]
  simp only [i6]
  rw [show (a - 4352) * 21 + b - 4449 = (a - 4352) * 21 + (b - 4449) by omega]
 ·simp only [Bool.and_eq_true, decide_eq_true_eq, ge_iff_le] at hc
  refine (zgs a).mono ?_
  rintro _ rfl
  refine ⟨_, rfl, ?_⟩
  have hn : ¬ ((4352 <= a /\ a < 4371) /\ 4449 <= b /\ b < 4470) := by omega
  cases hs : bG a with
  | false =>
    refine bC (by simp) ?_
    unfold dP; rw [if_neg hn, if_neg (by rw [hs]; simp)]; rfl
  | true =>
    have hr := hs
    simp only [bG, Bool.and_eq_true, decide_eq_true_eq] at hr
    have w1 : i32.wrap (a - 44032) = a - 44032 := cS (by omega) (by omega)
    have e3 : (a - 44032).tmod 28 = (a - 44032) % 28 := Int.tmod_eq_emod_of_nonneg (by omega)
    rw [w1, e3]
    refine aF (fun h2 => ?_) (fun h2 => ?_)
    ·simp only [Bool.and_eq_true, decide_eq_true_eq, gt_iff_lt, beq_iff_eq, Bool.true_and] at h2
     have w2 : i32.wrap (a + b) = a + b := cS (by omega) (by omega)
     have w3 : i32.wrap (a + b - 4519) = a + b - 4519 := cS (by omega) (by omega)
     rw [w2, w3]
     unfold dP; rw [if_neg hn, if_pos ⟨⟨hs, h2.1.1⟩, h2.1.2, h2.2⟩]
     simp only [i6]
     rw [show a + b - 4519 = a + (b - 4519) by omega]
    ·simp only [Bool.and_eq_true, decide_eq_true_eq, gt_iff_lt, beq_iff_eq, Bool.true_and] at h2
     unfold dP; rw [if_neg hn, if_neg (by omega)]; rfl
section
variable {rows : List Row} {v : PV}
theorem zr8 (hp : bP rows) (h1 : cN rows) (hv : gU rows v) {a b : Int} (ha : -2147483648 <= a /\ a <= 2147483647) (hb : -2147483648 <= b /\ b <= 2147483647) : PCall Tryz.prog 119 [v, .int .i32 a, .int .i32 b] fun x => x = i6 (dX rows a b) := by
 obtain ⟨tc, tg, tj, tf, tp, made, sec, rfl, ht, hm⟩ := hv
 refine zr4 _ _ _ _ _ _ _ _ _ ?_; unfold zh1
 refine (zr7 ha hb).mono ?_
 rintro _ rfl
 unfold dX
 cases dP a b with
 | some r =>
   exact ⟨_, rfl, rfl, _, rfl, _, rfl, _, rfl, _, rfl, a8 rfl rfl⟩
 | none =>
   refine ⟨_, rfl, rfl, _, rfl, _, rfl, _, rfl, _, rfl, bC (by simp) ?_⟩
   refine (zp2 _ _ _ _ _ _ made a b).mono ?_
   rintro _ rfl
   rw [<- zrt hp h1 hm a b]
   unfold tT
   split
   ·exact ⟨_, rfl, rfl, _, rfl, _, rfl, _, rfl, _, rfl, rfl⟩
   ·cases bH (a, b) made with
    | none => exact ⟨_, rfl, rfl, _, rfl, _, rfl, _, rfl, _, rfl, rfl⟩
    | some r => exact ⟨_, rfl, rfl, _, rfl, _, rfl, _, rfl, _, rfl, rfl⟩
def cU (st : CSt) : Int := match st.s with | none => -1 | some _ => st.P.length
theorem zh4 {d : List Int} : ∀ m ∈ (bB rows d).M, aC rows 1 m ≠ 0 := by
 induction d using fV with
 | h0 => intro m hm; cases hm
 | h1 d r ih =>
   rw [fH]
   rcases nS rows (bB rows d) r with e | ⟨a, c, hs, hp, _, e⟩
   ·rw [e]
    unfold bX
    split
    ·intro m hm; cases hm
    ·rename_i h0
     intro m hm
     rcases List.mem_append.1 hm with hm | hm
     ·exact ih m hm
     ·rw [List.mem_singleton] at hm; subst hm; exact h0
   ·rw [e]; exact ih
def JC (rows : List Row) (L : List Int) (x6 x7 i : Int) (s : List (List PV)) : Prop := (0 <= i /\ i <= L.length) /\ s = aA (bB rows (L.take i.toNat)).out /\ x6 = cU (bB rows (L.take i.toNat)) /\ x7 = dC (aC rows 1) (bB rows (L.take i.toNat)).M
theorem JC.next {L : List Int} {i : Int} (h0 : 0 <= i) (hi : i.toNat < L.length) {st : CSt} (he : bL rows (bB rows (L.take i.toNat)) L[i.toNat] = st) : JC rows L (cU st) (dC (aC rows 1) st.M) (i + 1) (aA st.out) := by
 have e : bB rows (L.take (i + 1).toNat) = st := by
  rw [show (i + 1).toNat = i.toNat + 1 by omega, c9 hi, fH, he]
 exact ⟨⟨by omega, by omega⟩, by rw [e], by rw [e], by rw [e]⟩
theorem zr9 (hp : bP rows) (h1 : cN rows) (hv : gU rows v) (n f : Bool) (L : List Int) (hr : R32 L) (hL : L.length < 1000000000000) : PCall Tryz.prog 96 [v, .sl n f (aA L)] fun x => ∃ n f, x = .sl n f (aA (dR rows L)) := by
 have hv' := hv
 obtain ⟨tc, tg, tj, tf, tp, made, sec, rfl, ht, hm⟩ := hv
 refine zr5 _ _ _ _ _ _ _ _ _ _ (fun x6 x7 i _ s => JC rows L x6 x7 i s) (fun _ _ i _ _ => L.length - i.toNat) ?_
 unfold zh2
 refine ⟨⟨rfl, ⟨Int.le_refl _, by omega⟩, rfl, rfl, rfl⟩, ?_⟩
 rintro x6 x7 i n0 _ ⟨⟨i0, i1⟩, rfl, rfl, rfl⟩
 refine aF (fun hc => ?_) (fun hc => ?_)
 ·simp only [decide_eq_true_eq, aX] at hc
  have hi : i.toNat < L.length := by omega
  obtain ⟨g1, g2⟩ := eL i0 hi
  have hx := hr _ (List.getElem_mem hi)
  have hw : i64.wrap (i + 1) = i + 1 := aD (by omega) (by omega)
  refine ⟨g1, L[i.toNat], by rw [g2]; rfl, ?_⟩
  refine (p7 _ _ ht hx).mono ?_
  rintro _ rfl
  refine ⟨_, rfl, ?_⟩
  rw [hw]
  have hlen := zaj rows (L.take i.toNat)
  have hrng := zak h1 (L.take i.toNat)
  have hnz := zh4 (rows := rows) (d := L.take i.toNat)
  have hnP := qK (rows := rows) (d := L.take i.toNat)
  rw [List.length_take] at hlen
  unfold dR at hlen hrng
  have next := fun st => JC.next (rows := rows) (st := st) i0 hi
  generalize bB rows (L.take i.toNat) = st at *
  have hmu : L.length - (i + 1).toNat < L.length - i.toNat := by omega
  have hsz : aM [[PV.int .i32 L[i.toNat]]] 1 /\ ((aA st.out).length + 1) * 4 <= 140737488355328 := ⟨cA [_], by rw [aX]; omega⟩
  have hout : aA st.out ++ [[PV.int .i32 L[i.toNat]]] = aA (st.out ++ [L[i.toNat]]) := by rw [fG]; rfl
  have hl : ((aA st.out).length : Int) = st.out.length := by rw [aX]
  have app0 : bL rows st L[i.toNat] = bX (aC rows 1) st L[i.toNat] -> aC rows 1 L[i.toNat] = 0 -> JC rows L (aA st.out).length (aC rows 1 L[i.toNat]) (i + 1) (aA st.out ++ [[PV.int .i32 L[i.toNat]]]) := fun he h0 => by
   have := next _ (he.trans (by unfold bX; rw [if_pos h0]))
   rw [hout, hl, h0]
   simpa [cU, dC, CSt.out] using this
  have app1 : bL rows st L[i.toNat] = bX (aC rows 1) st L[i.toNat] -> aC rows 1 L[i.toNat] ≠ 0 -> JC rows L (cU st) (aC rows 1 L[i.toNat]) (i + 1) (aA st.out ++ [[PV.int .i32 L[i.toNat]]]) := fun he h0 => by
   have := next _ (he.trans (by unfold bX; rw [if_neg h0]))
   rw [hout]
   simp only [qJ] at this
   have e2 : st.out ++ [L[i.toNat]] = CSt.out ⟨st.P, st.s, st.M ++ [L[i.toNat]]⟩ := by simp [CSt.out]
   rw [e2]
   exact this
  refine aF (fun hf => ?_) (fun hf => ?_)
  ·simp only [Bool.and_eq_true, decide_eq_true_eq, Bool.or_eq_true, beq_iff_eq, bne_iff_ne, ne_eq, ge_iff_le] at hf
   obtain ⟨hf1, hf2⟩ := hf
   cases hs : st.s with
   | none => simp [cU, hs] at hf1
   | some a =>
     have hsi : cU st = st.P.length := by simp [cU, hs]
     have hol : st.out.length = st.P.length + 1 + st.M.length := by simp [CSt.out, hs]; omega
     have hw2 : i64.wrap ((aA st.out).length - 1) = st.out.length - 1 := by rw [hl]; exact aD (by omega) (by omega)
     have hfree : st.M = [] ∨ dC (aC rows 1) st.M < aC rows 1 L[i.toNat] := by
      rcases hf2 with h | h
      ·rw [hw2, hsi] at h
       exact .inl (List.eq_nil_of_length_eq_zero (by omega))
      ·exact .inr h.2
     have hat : st.out[st.P.length]'(by omega) = a := by simp [CSt.out, hs]
     obtain ⟨k1, k2⟩ := eL (l := st.out) (i := cU st) (by omega) (by omega)
     have hta : (cU st).toNat = st.P.length := by omega
     have k3 : (aA st.out).getD (cU st).toNat [] = [PV.int .i32 a] := by
      rw [k2]; simp only [hta, hat]
     have ha : -2147483648 <= a /\ a <= 2147483647 := by
      rcases hrng a (by simp [CSt.out, hs]) with h | h
      ·exact hr a (List.mem_of_mem_take h)
      ·omega
     refine ⟨k1, a, by rw [k3]; rfl, ?_⟩
     refine (zr8 hp h1 hv' ha hx).mono ?_
     rintro _ rfl
     cases hpc : dX rows a L[i.toNat] with
     | some c =>
       refine ⟨_, rfl, rfl, _, rfl, _, rfl, _, rfl, _, rfl, a8 rfl ⟨k1, ⟨rfl, by rw [k3]; exact Nat.le_refl _⟩, rfl, ?_, by dsimp only; omega⟩⟩
       rw [k3, hta]
       have he : bL rows st L[i.toNat] = ⟨st.P, some c, st.M⟩ := by
        unfold bL; rw [hs]; simp only; rw [if_pos hfree, hpc]
       have := next _ he
       have e2 : (aA st.out).set st.P.length [PV.int .i32 c] = aA (CSt.out ⟨st.P, some c, st.M⟩) := by
        simp [CSt.out, hs, aA]
       have e3 : cU ⟨st.P, some c, st.M⟩ = cU st := by rw [hsi]; rfl
       rw [e3] at this
       show JC rows L (cU st) (dC (aC rows 1) st.M) (i + 1) ((aA st.out).set st.P.length [PV.int .i32 c])
       rw [e2]
       exact this
     | none =>
       have he : bL rows st L[i.toNat] = bX (aC rows 1) st L[i.toNat] := by
        unfold bL; rw [hs]; simp only; rw [if_pos hfree, hpc]
       refine ⟨_, rfl, rfl, _, rfl, _, rfl, _, rfl, _, rfl, bC (by simp) (aF (fun h0 => ?_) (fun h0 => ?_))⟩
       ·exact ⟨hsz, rfl, app0 he (by simpa using h0), by dsimp only; omega⟩
       ·exact ⟨hsz, rfl, app1 he (by simpa using h0), by dsimp only; omega⟩
  ·simp only [Bool.and_eq_true, decide_eq_true_eq, Bool.or_eq_true, beq_iff_eq, bne_iff_ne, ne_eq, ge_iff_le] at hf
   have he : bL rows st L[i.toNat] = bX (aC rows 1) st L[i.toNat] := by
    rcases nS rows st L[i.toNat] with e | ⟨a, c, hs, hpc, hfree, e⟩
    ·exact e
    ·have hsi : cU st = st.P.length := by simp [cU, hs]
     have hol : st.out.length = st.P.length + 1 + st.M.length := by simp [CSt.out, hs]; omega
     have hw2 : i64.wrap ((aA st.out).length - 1) = st.out.length - 1 := by rw [hl]; exact aD (by omega) (by omega)
     refine absurd ⟨by omega, ?_⟩ hf
     by_cases hM : st.M = []
     ·left; rw [hw2, hsi, hol, hM]; simp
     ·right
      obtain ⟨m, hm, e⟩ := zam (key := aC rows 1) hM
      exact ⟨by rw [e]; exact hnz m hm, hfree.elim (fun e => absurd e hM) id⟩
   refine aF (fun h0 => ?_) (fun h0 => ?_)
   ·exact ⟨hsz, rfl, app0 he (by simpa using h0), by dsimp only; omega⟩
   ·exact ⟨hsz, rfl, app1 he (by simpa using h0), by dsimp only; omega⟩
 ·simp only [decide_eq_true_eq, aX] at hc
  rw [List.take_of_length_le (by omega)]
  exact ⟨_, _, rfl⟩
theorem zsa (hp : bP rows) (h1 : cN rows) (hk : fA rows) (hv : gU rows v) (n f : Bool) (L : List Int) (hr : R32 L) (hL : L.length < 1000000) : PCall Tryz.prog 65 [v, .sl n f (aA L)] fun x => ∃ n f, x = .sl n f (aA (bM rows L)) := by
 have hv' := hv
 obtain ⟨tc, tg, tj, tf, tp, made, sec, rfl, ht, hm⟩ := hv
 refine zr6 _ _ _ _ _ _ _ _ _ _ ?_; unfold zh3
 refine (zrr hp hk hv' n f L hr hL).mono ?_
 rintro _ ⟨n1, f1, rfl⟩
 refine ⟨_, _, _, rfl, ?_⟩
 refine (zr9 hp h1 hv' _ _ _ (zad hk hp hr) (zht hk hL)).mono ?_
 rintro _ ⟨n2, f2, rfl⟩
 exact ⟨_, _, _, rfl, _, _, rfl⟩
theorem zsb (hp : bP rows) (h1 : cN rows) (hk : fA rows) {l : List Int} (h : R32 l) : R32 (bM rows l) := fun x hx => by
 rcases zak h1 _ x hx with h2 | h2
 ·exact zad hk hp h x h2
 ·omega
theorem qL (hk : fA rows) (l : List Int) : (bM rows l).length <= 768 * l.length := Nat.le_trans (zaj rows _) (zhk hk l)
end
end Go.Eng



namespace Go.Eng
open Go Go.Proofs Go.Eng.Rows Go.Eng.Trie Go.Eng.Srt
theorem v22 : Tryz.prog.underlying 23 = some (.slice 21) := by kernel_rfl
theorem v21 : Tryz.prog.underlying 21 = some (.int .i32) := by kernel_rfl
theorem uO {v : PV} (h : lU Tryz.prog 8 23 v) : ∃ nl l, v = .sl nl false (aA l) /\ R32 l := by
 obtain ⟨nl, l, e, hl, _, hr⟩ := zmc v22 v21 (zdr (by kernel_rfl) h)
 cases e
 exact ⟨nl, l, rfl, hr⟩
end Go.Eng



namespace Go.Eng.Rows
open Go Go.Eng Go.Eng.Trie Go.Eng.Srt
def cV (L : List Int) (a b : Nat) : List Int := (L.take b).drop a
def zsc (rows : List Row) (L want : List Int) (a b : Nat) : Bool := decide (dV rows (cV L a b) = want)
def fTo (p : Nat -> Bool) (b : Nat) : Nat -> Option Nat
 | 0 => none
 | k + 1 => if p b then some b else fTo p (b + 1) k
def zh5 (rows : List Row) (L want : List Int) (a : Nat) : Nat -> Option (Nat × Nat)
 | 0 => none
 | k + 1 => match fTo (zsc rows L want a) a (L.length + 1 - a) with
   | some b => some (a, b)
   | none => zh5 rows L want (a + 1) k
def findL (rows : List Row) (L want : List Int) : Option (Nat × Nat) := zh5 rows L want 0 (L.length + 1)
end Go.Eng.Rows



namespace Go.Eng
open Go Go.Proofs
end Go.Eng



namespace Go.Eng
open Go Go.Proofs Go.Eng.Rows Go.Eng.Trie Go.Eng.Srt
theorem qM (n f n2 f2 : Bool) (a b : List Int) (hl : a.length < 1000000000000) : PCall Tryz.prog 25 [.sl n f (aA a), .sl n2 f2 (aA b)] fun x => x = .bool (decide (a = b)) := zrn n f n2 f2 a b hl
theorem zsd {l : List Int} (h : R32 l) : R32 (bM tab l) := zsb iI iJ gW h
theorem uP (l : List Int) (k : Nat) : (l.take k).length <= k := by rw [List.length_take]; omega
theorem uQ {len : Nat} {i j : Int} (h0 : 0 <= i) (h1 : i <= j) (h2 : j <= len) : cR len (some i) (some j) none := ⟨h0, h1, h2, trivial⟩
theorem uR (L : List Int) (i j : Nat) : List.drop i (List.take j (aA L)) = aA (cV L i j) := by simp [aA, cV]
theorem R32.sub {L : List Int} (h : R32 L) (i j : Nat) : R32 (cV L i j) := fun x hx => h x (List.mem_of_mem_take (List.mem_of_mem_drop hx))
theorem nT (L : List Int) (i j : Nat) : (cV L i j).length <= L.length := by unfold cV; rw [List.length_drop, List.length_take]; omega
theorem w3 : Tryz.prog.underlying 3 = some (.int .i64) := by kernel_rfl
theorem uS {v : PV} (h : lU Tryz.prog 8 3 v) : ∃ n : Int, v = .int .i64 n := by
 obtain ⟨m, e, _⟩ := zdp w3 (zdr (by kernel_rfl) h)
 cases e
 exact ⟨m, rfl⟩
end Go.Eng



namespace Go.Eng.Srt
open Go Go.Eng
section
variable {key : Int -> Int} (hk : ∀ x, 0 <= key x)
include hk
theorem zse {h : Int} (h0 : key h = 0) (X Y : List Int) (y : Int) : ∃ Y', ins key (h :: Y) y = h :: Y' /\ ins key (X ++ h :: Y) y = X ++ h :: Y' := by
 obtain ⟨A, B, e, h1, h2⟩ := qG (key := key) (h :: Y) y
 have hp : d6 key y h = false := by rw [mK]; have := hk y; omega
 cases A with
 | nil =>
   have : h ∈ B := by rw [<- List.nil_append B, <- e]; exact List.mem_cons_self
   rw [h1 h this] at hp; cases hp
 | cons a A =>
   rw [List.cons_append] at e
   obtain ⟨rfl, rfl⟩ := List.cons.inj e
   refine ⟨A ++ y :: B, ?_, ?_⟩
   ·have := iH (A := h :: A) h1 h2
    simpa using this
   ·have := iH (key := key) (x := y) (A := X ++ h :: A) (B := B) h1 (.inr (by
     rcases h2 with h2 | ⟨A', z, e, hz⟩
     ·cases h2
     ·exact ⟨X ++ A', z, by rw [e]; simp, hz⟩))
    simpa using this
theorem zh6 {h : Int} (h0 : key h = 0) (X : List Int) : ∀ (B Y : List Int), ∃ Y', B.foldl (ins key) (h :: Y) = h :: Y' /\ B.foldl (ins key) (X ++ h :: Y) = X ++ h :: Y'
 | [], Y => ⟨Y, rfl, rfl⟩
 | y :: B, Y => by
   obtain ⟨Y1, e1, e2⟩ := zse hk h0 X Y y
   simp only [List.foldl_cons, e1, e2]
   exact zh6 h0 X B Y1
theorem zsf {h : Int} (h0 : key h = 0) (A B : List Int) : bF key (A ++ h :: B) = bF key A ++ bF key (h :: B) /\ ∃ Y, bF key (h :: B) = h :: Y := by
 have e1 : ∀ X : List Int, ins key X h = X ++ [h] := fun X => by
  have := iH (key := key) (x := h) (A := X) (B := []) (fun y hy => by cases hy) (by
   rcases X.eq_nil_or_concat with rfl | ⟨D, z, rfl⟩
   ·exact .inl rfl
   ·exact .inr ⟨D, z, by simp, mK.2 (.inl h0)⟩)
  simpa using this
 obtain ⟨Y, k1, k2⟩ := zh6 hk h0 (bF key A) B []
 have a1 : bF key (A ++ h :: B) = bF key A ++ h :: Y := by
  unfold bF at k2 ⊢
  rw [List.foldl_append, List.foldl_cons, e1, k2]
 have a2 : bF key (h :: B) = h :: Y := by
  unfold bF
  rw [List.foldl_cons, e1, <- k1]; rfl
 exact ⟨by rw [a1, a2], Y, a2⟩
end
end Go.Eng.Srt
namespace Go.Eng.Rows
open Go Go.Eng Go.Eng.Trie Go.Eng.Srt
section
variable {rows : List Row}
def CSt.pre (Q : List Int) (st : CSt) : CSt := ⟨Q ++ st.P, st.s, st.M⟩
theorem zsg (Q : List Int) (st : CSt) (r : Int) : bL rows (st.pre Q) r = (bL rows st r).pre Q := by
 rw [gY, gY]
 simp only [CSt.pre]
 cases fW rows st.s st.M r with
 | some c => rfl
 | none =>
   simp only
   unfold bX
   split <;> simp [CSt.out]
theorem zh7 (Q : List Int) : ∀ (B : List Int) (st : CSt), B.foldl (bL rows) (st.pre Q) = (B.foldl (bL rows) st).pre Q
 | [], st => rfl
 | r :: B, st => by rw [List.foldl_cons, List.foldl_cons, zsg, zh7 Q B]
def uT (rows : List Row) (h : Int) : Prop := ∀ c, dX rows c h = none
theorem zsh {h : Int} (hn : uT rows h) (s : Option Int) (M : List Int) : fW rows s M h = none := by
 cases hd : fW rows s M h with
 | none => rfl
 | some c => obtain ⟨a, _, hp, _⟩ := uN hd; rw [hn a] at hp; cases hp
theorem zh8 {h : Int} (h0 : aC rows 1 h = 0) (hn : uT rows h) (st : CSt) : bL rows st h = ⟨st.out, some h, []⟩ := by
 rw [gY, zsh hn]; simp [bX, h0]
theorem zsi {h : Int} (h0 : aC rows 1 h = 0) (hn : uT rows h) (A B : List Int) : dR rows (A ++ h :: B) = dR rows A ++ dR rows (h :: B) := by
 have e1 : bB rows (A ++ h :: B) = (bB rows (h :: B)).pre (bB rows A).out := by
  unfold bB
  rw [List.foldl_append, List.foldl_cons, List.foldl_cons, zh8 h0 hn, zh8 h0 hn, <- zh7]
  simp [CSt.pre, CSt.out]
 unfold dR
 rw [e1]
 simp [CSt.pre, CSt.out]
theorem zsj (h1 : cN rows) (hp : bP rows) {h : Int} (ho : cY rows h = 0) : uT rows h := by
 unfold cY at ho
 split at ho
 ·cases ho
 ·split at ho
  ·cases ho
  ·rename_i h2 h3
   simp only [Bool.or_eq_true, not_or, Bool.not_eq_true] at h3
   obtain ⟨h3, h4⟩ := h3
   intro c
   unfold dX
   have : dP c h = none := by
    unfold dP
    simp only [nN, Bool.or_eq_false_iff, Bool.and_eq_false_imp, decide_eq_true_eq, decide_eq_false_iff_not] at h4
    split
    ·rename_i hc; exact absurd (by omega) (h4.1 (by omega))
    ·split
     ·rename_i hc; exact absurd (by omega) (h4.2 (by omega))
     ·rfl
   rw [this]
   simp only
   cases hc : jY rows c h with
   | none => rfl
   | some r =>
     obtain ⟨q1, q2, q3, _⟩ := uM h1 hc
     have : iF rows h = true := (zM hp h1 h).2 ⟨r, ⟨by rw [q1]; intro e; exact q2 (Prod.mk.inj e).2, q3⟩, by rw [q1]⟩
     rw [this] at h3; cases h3
theorem zh9 (ht : TabC rows) (hp : bP rows) {r : Int} (hs : cH rows r = true) (a b : List Int) : bM rows (a ++ r :: b) = bM rows a ++ bM rows (r :: b) := by
 simp only [cH, Bool.and_eq_true, decide_eq_true_eq] at hs
 obtain ⟨_, k1, k2⟩ := hs
 have hn := zsj ht.one hp k2
 have hf : ∃ t, aN rows 8 r = cQ rows r :: t := by
  have := qA rows 8 r
  unfold cQ
  cases hq : aN rows 8 r with
  | nil => exact absurd hq this
  | cons x t => exact ⟨t, rfl⟩
 obtain ⟨t, hf⟩ := hf
 have hd : dV rows (a ++ r :: b) = dV rows a ++ dV rows (r :: b) /\ ∃ Y, dV rows (r :: b) = cQ rows r :: Y := by
  unfold dV
  rw [List.flatMap_append, List.flatMap_cons, hf, List.cons_append]
  exact zsf ht.cls k1 _ _
 obtain ⟨hd, Y, hY⟩ := hd
 unfold bM
 rw [hd, hY]
 exact zsi k1 hn _ _
end
end Go.Eng.Rows



namespace Go.Eng.Rows
open Go Go.Eng Go.Eng.Trie Go.Eng.Srt
def bQ (rows : List Row) (L : List Int) : Nat -> Nat
 | 0 => 0
 | k + 1 => if k = 0 ∨ cH rows (L.getD k 0) = true then k else bQ rows L k
def bS (rows : List Row) (L : List Int) (k : Nat) : Nat -> Nat
 | 0 => k
 | n + 1 => if cH rows (L.getD k 0) = true then k else bS rows L (k + 1) n
theorem nU (rows : List Row) (L : List Int) : ∀ k, bQ rows L k <= k /\ (0 < k -> bQ rows L k < k) /\ (bQ rows L k = 0 ∨ cH rows (L.getD (bQ rows L k) 0) = true)
 | 0 => ⟨Nat.le_refl _, fun h => by omega, .inl rfl⟩
 | k + 1 => by
   rw [bQ]
   split
   ·rename_i h; exact ⟨by omega, fun _ => by omega, h⟩
   ·obtain ⟨h1, h2, h3⟩ := nU rows L k; exact ⟨by omega, fun _ => by omega, h3⟩
theorem qN (rows : List Row) (L : List Int) : ∀ n k, k <= bS rows L k n /\ bS rows L k n <= k + n /\ (bS rows L k n = k + n ∨ cH rows (L.getD (bS rows L k n) 0) = true)
 | 0, k => ⟨Nat.le_refl _, Nat.le_refl _, .inl rfl⟩
 | n + 1, k => by
   rw [bS]
   split
   ·rename_i h; exact ⟨Nat.le_refl _, by omega, .inr h⟩
   ·obtain ⟨h1, h2, h3⟩ := qN rows L n (k + 1)
    exact ⟨by omega, by omega, h3.imp (fun e => by omega) id⟩
def nV (rows : List Row) (L : List Int) : Nat -> Nat
 | 0 => 0
 | k + 1 => if cH rows (L.getD k 0) = true then k else nV rows L k
theorem zia (rows : List Row) (L : List Int) : ∀ k, nV rows L k = bQ rows L k
 | 0 => rfl
 | k + 1 => by
   rw [nV, bQ, zia rows L k]
   by_cases h0 : k = 0
   ·subst h0; simp [bQ]
   ·simp [h0]
def dD (rows : List Row) (L : List Int) (i j : Nat) (ins : List Int) : List Int := cV L (bQ rows L i) i ++ (ins ++ cV L j (bS rows L j (L.length - j)))
def i7 (rows : List Row) (L : List Int) (i j : Nat) (ins : List Int) : List Int := L.take (bQ rows L i) ++ (bM rows (dD rows L i j ins) ++ L.drop (bS rows L j (L.length - j)))
theorem zsk {L : List Int} {a i : Nat} (h : a <= i) : L.take i = L.take a ++ cV L a i := by
 have := (List.take_append_drop a (L.take i)).symm
 rwa [List.take_take, Nat.min_eq_left h] at this
theorem zsl {L : List Int} {j b : Nat} (h : j <= b) (hb : b <= L.length) : L.drop j = cV L j b ++ L.drop b := by
 have h1 : L = L.take b ++ L.drop b := (List.take_append_drop b L).symm
 have h2 : L.drop j = (L.take b ++ L.drop b).drop j := by rw [<- h1]
 rw [h2, List.drop_append_of_le_length (by rw [List.length_take]; omega)]; rfl
theorem zsm {L : List Int} {a i : Nat} (h : a < i) (hi : i <= L.length) : cV L a i = L.getD a 0 :: cV L (a + 1) i := by
 unfold cV
 rw [List.drop_eq_getElem_cons (by rw [List.length_take]; omega), List.getElem_take]
 simp only [List.getD, List.getElem?_eq_getElem (show a < L.length by omega), Option.getD_some]
theorem drop_cons {L : List Int} {b : Nat} (h : b < L.length) : L.drop b = L.getD b 0 :: L.drop (b + 1) := by
 rw [List.drop_eq_getElem_cons h]
 simp only [List.getD, List.getElem?_eq_getElem h, Option.getD_some]
section
variable {rows : List Row}
theorem zsn (ht : TabC rows) (l : List Int) (i : Nat) : bM rows ((bM rows l).drop i) = (bM rows l).drop i := ((zhy ht l).drop ht i).fix ht
theorem zso (ht : TabC rows) (l : List Int) (i : Nat) : bM rows ((bM rows l).take i) = (bM rows l).take i := ((zhy ht l).take ht i).fix ht
theorem zsp (ht : TabC rows) (hp : bP rows) (l ins : List Int) {i j : Nat} (hij : i <= j) (hj : j <= (bM rows l).length) :
 i7 rows (bM rows l) i j ins = bM rows ((bM rows l).take i ++ (ins ++ (bM rows l).drop j)) := by
 have hd := zsn ht l
 have hk := zso ht l
 generalize bM rows l = T at *
 obtain ⟨a1, a2, a3⟩ := nU rows T i
 obtain ⟨b1, b2, b3⟩ := qN rows T (T.length - j) j
 have hb : bS rows T j (T.length - j) <= T.length := by omega
 unfold i7 dD
 generalize bQ rows T i = a at *
 rw [show j + (T.length - j) = T.length by omega] at b3
 generalize bS rows T j (T.length - j) = b at *
 rw [zsk a1, zsl b1 hb]
 have e1 : T.take a ++ cV T a i ++ (ins ++ (cV T j b ++ T.drop b)) = T.take a ++ (cV T a i ++ (ins ++ cV T j b)) ++ T.drop b := by simp
 rw [e1]
 have e2 : bM rows (T.take a ++ (cV T a i ++ (ins ++ cV T j b)) ++ T.drop b) = bM rows (T.take a ++ (cV T a i ++ (ins ++ cV T j b))) ++ T.drop b := by
  by_cases hbl : b = T.length
  ·rw [List.drop_eq_nil_of_le (by omega), List.append_nil, List.append_nil]
  ·have hs := b3.resolve_left hbl
   have := zh9 ht hp hs (T.take a ++ (cV T a i ++ (ins ++ cV T j b))) (T.drop (b + 1))
   rw [<- drop_cons (by omega), hd b] at this
   exact this
 have e3 : bM rows (T.take a ++ (cV T a i ++ (ins ++ cV T j b))) = T.take a ++ bM rows (cV T a i ++ (ins ++ cV T j b)) := by
  by_cases ha : a = 0
  ·subst ha; simp
  ·have hs := a3.resolve_left ha
   have hai : a < i := a2 (by omega)
   have hc := zsm hai (by omega : i <= T.length)
   have := zh9 ht hp hs (T.take a) (cV T (a + 1) i ++ (ins ++ cV T j b))
   rw [<- List.cons_append, <- hc, hk a] at this
   exact this
 rw [e2, e3, List.append_assoc]
end
end Go.Eng.Rows



namespace Go.Eng
open Go Go.Proofs
def zib (r : Int) (R : PV -> Prop) : Prop :=
 R (Zb (decide (r >= 4449) && decide (r < 4470) || decide (r > 4519) && decide (r < 4547)))
theorem zsq (r : Int) {R : PV -> Prop} (h : zib r R) : PCall Tryz.prog 145 [.int .i32 r] R :=
 PCall.of Tryz.func145 (by kernel_rfl) (by kernel_rfl) (zl (by kernel_rfl)) (Eq.mpr (by kernel_rfl : aQ Tryz.prog (fun _ => none) Tryz.f145 [0, 2] (fun _ => none) (Tryz.f145.body.getD .skip) [.int .i32 r] R = _) h)

def zic (r : Int) (R : PV -> Prop) : Prop :=
 R (Zb (decide (r >= 4449) && decide (r <= 4469) || decide (r >= 4520) && decide (r <= 4546)))
theorem zsr (r : Int) {R : PV -> Prop} (h : zic r R) : PCall Tryz.prog 149 [.int .i32 r] R :=
 PCall.of Tryz.func149 (by kernel_rfl) (by kernel_rfl) (zl (by kernel_rfl)) (Eq.mpr (by kernel_rfl : aQ Tryz.prog (fun _ => none) Tryz.f149 [0, 2] (fun _ => none) (Tryz.f149.body.getD .skip) [.int .i32 r] R = _) h)

def zid (n f : Bool) (es : LL) (r : Int) (R : PV -> Prop) : Prop :=
 PCall Tryz.prog 127 [PV.sl n f es, Z3 r] fun v => ∃ vs, v = PV.tup vs /\ vs.length = 3 /\ ∃ x, vs.head? = some x /\ ∃ n1, x = Z3 n1 /\ ∃ x1, vs.tail.head? = some x1 /\ ∃ n2, x1 = Z3 n2 /\ ∃ (x2 :
 PV), vs.tail.tail.head? = some x2 /\ ∃ b, x2 = Zb b /\ if (!b) = true then R (Zb false) else if (n2 == 0) = true then R (Zb true) else PCall Tryz.prog 146 [PV.sl n f es, Z6 3, Z3 r] fun v1 => ∃ n3, v1 = Z6 n3 /\ if (n3
 == 1) = true then R (Zb true) else PCall Tryz.prog 146 [PV.sl n f es, Z6 1, Z3 r] fun v2 => ∃ n4, v2 = Z6 n4 /\ if (n4 != 0) = true then R (Zb true) else PCall Tryz.prog 146 [PV.sl n f es, Z6 1, Z3 n1] fun v3 => ∃ (n5 :
 Int), v3 = Z6 n5 /\ R (Zb (n5 != 0))
theorem zss (n f : Bool) (es : LL) (r : Int) {R : PV -> Prop} (h : zid n f es r R) : PCall Tryz.prog 147 [.sl n f es, .int .i32 r] R :=
 PCall.of Tryz.func147 (by kernel_rfl) (by kernel_rfl) (zl (by kernel_rfl)) (Eq.mpr (by kernel_rfl : aQ Tryz.prog (fun _ => none) Tryz.f147 [0, 1, 4, 5, 6, 7, 16] (fun _ => none) (Tryz.f147.body.getD .skip) [.sl n f es, .int .i32 r] R = _) h)

def qO (n f : Bool) (es : LL) (r x5 : Int) : Env × Hp := ([(0, LV.pv (PV.sl n f es)), (1, LV.pv (PV.int i32 r)), (5, Y6 x5)], [])
def zie (n f : Bool) (es : LL) (r : Int) (J : Int -> Prop) (μ : Int -> Nat) (R : PV -> Prop) : Prop :=
 (aB (qO n f es r (0 : Int)) /\ J (0 : Int)) /\ ∀ (x5 : Int), J x5 -> if decide (x5 < (↑es.length : Int)) = true then aJ es x5 5 /\ ∃ n1, (List.drop 0 (es.getD x5.toNat [])).head? = some (Z6 n1) /\ if (n1 == 2) = true then aJ
 es x5 5 /\ ∃ n2, (List.drop 4 (es.getD x5.toNat [])).head? = some (Z6 n2) /\ if (n2 == i64.wrap r && r != 0) = true then aJ es x5 5 /\ ∃ n3, (List.drop 1 (es.getD x5.toNat [])).head? = some (Z6 n3) /\ PCall Tryz.prog
 147 [PV.sl n f es, Z3 (i32.wrap n3)] fun v => ∃ b, v = Zb b /\ if (!b) = true then R (Zb true) else aB (qO n f es r (i64.wrap (x5 + 1))) /\ J (i64.wrap (x5 + 1)) /\ μ (i64.wrap (x5 + 1)) <
 μ x5 else aB (qO n f es r (i64.wrap (x5 + 1))) /\ J (i64.wrap (x5 + 1)) /\ μ (i64.wrap (x5 + 1)) < μ x5 else aB (qO n f es r (i64.wrap (x5 + 1))) /\ J (i64.wrap (x5 + 1)) /\ μ
 (i64.wrap (x5 + 1)) < μ x5 else R (Zb false)
theorem zst (n f : Bool) (es : LL) (r : Int) (J : Int -> Prop) (μ : Int -> Nat) {R : PV -> Prop} (h : zie n f es r J μ R) : PCall Tryz.prog 148 [.sl n f es, .int .i32 r] R :=
 PCall.of Tryz.func148 (by kernel_rfl) (by kernel_rfl) (zl (by kernel_rfl)) (Eq.mpr (by kernel_rfl : aQ Tryz.prog (fun _ => none) Tryz.f148 [0, 1, 4, 5, 9, 42] (fun zz_ => match zz_ with | 2 => some ⟨Int × Unit, fun s => qO n f es r s.1, fun _ s => J s.1, fun s => μ s.1, fun e h => (((gI e 5), ())), [], [0, 1, 5], [], fun p => ∀ (x5 : Int), p (x5, ()), fun p h s => h s.1⟩ | _ => none) (Tryz.f148.body.getD .skip) [.sl n f es, .int .i32 r] R = _) h)

def zif (n f : Bool) (es : LL) (r : Int) (R : PV -> Prop) : Prop :=
 PCall Tryz.prog 147 [PV.sl n f es, Z3 r] fun v => ∃ b, v = Zb b /\ if b = true then R (Z6 1) else PCall Tryz.prog 148 [PV.sl n f es, Z3 r] fun v1 => ∃ b1, v1 = Zb b1 /\ if b1 = true then R (Z6 2) else PCall
 Tryz.prog 149 [Z3 r] fun v2 => ∃ b2, v2 = Zb b2 /\ if b2 = true then R (Z6 2) else R (Z6 0)
theorem zsu (n f : Bool) (es : LL) (r : Int) {R : PV -> Prop} (h : zif n f es r R) : PCall Tryz.prog 122 [.sl n f es, .int .i32 r] R :=
 PCall.of Tryz.func122 (by kernel_rfl) (by kernel_rfl) (zl (by kernel_rfl)) (Eq.mpr (by kernel_rfl : aQ Tryz.prog (fun _ => none) Tryz.f122 [0, 1, 4, 7, 14] (fun _ => none) (Tryz.f122.body.getD .skip) [.sl n f es, .int .i32 r] R = _) h)

def zig (n f : Bool) (es : LL) (r : Int) (R : PV -> Prop) : Prop :=
 ACall Tryz.prog 103 [LV.pv (PV.sl n f es), LV.pv (Z3 r), Y6 8] [] fun (r1 : LV) (h' : Hp) => (∃ (t : Bool × LL), (r1 = LV.own 0 /\ h' = [Ob.sl (21, 1) true t.fst t.snd]) /\ True /\ aJ t.snd (0 : Int) 1 /\ ∃ n1, (List.drop 0
 (t.snd.getD 0 [])).head? = some (Z3 n1) /\ PCall Tryz.prog 121 [PV.sl n f es, Z3 r] fun v => ∃ n2, v = Z6 n2 /\ if (n2 == 0) = true then PCall Tryz.prog 122 [PV.sl n f es, Z3 r] fun v1 => ∃ n3, v1 = Z6 n3 /\ if (n3
 == 0) = true then PCall Tryz.prog 121 [PV.sl n f es, Z3 n1] fun v2 => ∃ n4, v2 = Z6 n4 /\ if (n4 == 0) = true then PCall Tryz.prog 122 [PV.sl n f es, Z3 n1] fun v3 => ∃ n5, v3 = Z6 n5 /\ R (Zb (n5 == 0)) else R (Zb
 false) else R (Zb false) else R (Zb false)) ∨ ∃ t, (r1 = LV.pv (PV.sl false true t) /\ h' = []) /\ True /\ aJ t (0 : Int) 1 /\ ∃ n1, (t.getD 0 []).head? = some (Z3 n1) /\ PCall Tryz.prog 121 [PV.sl n f es, Z3 r] fun (v : PV) =>
 ∃ n2, v = Z6 n2 /\ if (n2 == 0) = true then PCall Tryz.prog 122 [PV.sl n f es, Z3 r] fun v1 => ∃ n3, v1 = Z6 n3 /\ if (n3 == 0) = true then PCall Tryz.prog 121 [PV.sl n f es, Z3 n1] fun v2 => ∃ n4, v2 = Z6
 n4 /\ if (n4 == 0) = true then PCall Tryz.prog 122 [PV.sl n f es, Z3 n1] fun v3 => ∃ n5, v3 = Z6 n5 /\ R (Zb (n5 == 0)) else R (Zb false) else R (Zb false) else R (Zb false)
theorem zsv (n f : Bool) (es : LL) (r : Int) {R : PV -> Prop} (h : zig n f es r R) : PCall Tryz.prog 99 [.sl n f es, .int .i32 r] R :=
 PCall.of Tryz.func99 (by kernel_rfl) (by kernel_rfl) (zl (by kernel_rfl)) (Eq.mpr (by kernel_rfl : aQ Tryz.prog (fun zz_ => match zz_ with | 103 => some ⟨Bool × LL, fun _ hs t => (.own hs.length, hs ++ [.sl (21, 1) true t.1 t.2]), some ⟨LL, fun _ hs t => (.pv (.sl false true t), hs)⟩⟩ | _ => none) Tryz.f99 [0, 1, 4, 5] (fun _ => none) (Tryz.f99.body.getD .skip) [.sl n f es, .int .i32 r] R = _) h)

def zih (tc tg tj tf tp : PV) (M S : List (PV × PV)) (r : Int) (R : PV -> Prop) : Prop :=
 PCall Tryz.prog 57 [PV.ptr [tc, tg, tj, tf, tp, PV.mp M, PV.mp S], Z3 r] fun v => ∃ b, v = Zb b /\ if b = true then R (Z6 1) else PCall Tryz.prog 144 [PV.ptr [tc, tg, tj, tf, tp, PV.mp M, PV.mp S], Z3 r] fun v1 => ∃ (b1
 : Bool), v1 = Zb b1 /\ if b1 = true then if b1 = true then R (Z6 2) else R (Z6 0) else PCall Tryz.prog 145 [Z3 r] fun v2 => ∃ b2, v2 = Zb b2 /\ if b2 = true then R (Z6 2) else R (Z6 0)
theorem zsw (tc tg tj tf tp : PV) (M S : List (PV × PV)) (r : Int) {R : PV -> Prop} (h : zih tc tg tj tf tp M S r R) : PCall Tryz.prog 120 [.ptr [tc, tg, tj, tf, tp, .mp M, .mp S], .int .i32 r] R :=
 PCall.of Tryz.func120 (by kernel_rfl) (by kernel_rfl) (zl (by kernel_rfl)) (Eq.mpr (by kernel_rfl : aQ Tryz.prog (fun _ => none) Tryz.f120 [0, 1, 4, 5, 9] (fun _ => none) (Tryz.f120.body.getD .skip) [.ptr [tc, tg, tj, tf, tp, .mp M, .mp S], .int .i32 r] R = _) h)

def zan (tc tg tj tf tp : PV) (M S : List (PV × PV)) (r x13_0 x13_1 x14 : Int) : Env × Hp := ([(0, LV.pv (PV.ptr [tc, tg, tj, tf, tp, PV.mp M, PV.mp S])), (13, .pv (.agg [.int i32 x13_0, .int i32 x13_1])), (14, Y6 x14)], [])
def zii (tc tg tj tf tp : PV) (M S : List (PV × PV)) (r : Int) (J : Int -> Int -> Int -> Prop) (μ : Int -> Int -> Int -> Nat) (R : PV -> Prop) : Prop :=
 PCall Tryz.prog 94 [PV.ptr [tc, tg, tj, tf, tp, PV.mp M, PV.mp S], Z3 r] fun v => ∃ n f es, v = PV.sl n f es /\ aJ es (0 : Int) 1 /\ ∃ n1, (es.getD 0 []).head? = some (Z3 n1) /\ (aB (zan tc
 tg tj tf tp M S r r n1 (0 : Int)) /\ J r n1 (0 : Int)) /\ ∀ (x13_0 x13_1 x14 : Int), J x13_0 x13_1 x14 -> if decide (x14 < 2) = true then ((0 : Int) <= x14 /\ x14 < (↑2 : Int) /\ x14.toNat * 1 + 1 <= 2) /\ ∃ n2, [Z3 x13_0, Z3 x13_1].getD
 x14.toNat PV.unit = Z3 n2 /\ PCall Tryz.prog 90 [PV.ptr [tc, tg, tj, tf, tp, PV.mp M, PV.mp S], Z3 n2] fun v1 => ∃ n3, v1 = Z6 n3 /\ if (n3 != 0) = true then R (Zb false) else PCall Tryz.prog 120 [PV.ptr [tc, tg, tj, tf, tp,
 PV.mp M, PV.mp S], Z3 n2] fun v2 => ∃ n4, v2 = Z6 n4 /\ if (n4 != 0) = true then R (Zb false) else aB (zan tc tg tj tf tp M S r x13_0 x13_1 (i64.wrap (x14 + 1))) /\ J x13_0 x13_1 (i64.wrap (x14 + 1)) /\ μ
 x13_0 x13_1 (i64.wrap (x14 + 1)) < μ x13_0 x13_1 x14 else R (Zb true)
theorem zsx (tc tg tj tf tp : PV) (M S : List (PV × PV)) (r : Int) (J : Int -> Int -> Int -> Prop) (μ : Int -> Int -> Int -> Nat) {R : PV -> Prop} (h : zii tc tg tj tf tp M S r J μ R) : PCall Tryz.prog 97 [.ptr [tc, tg, tj, tf, tp, .mp M, .mp S], .int .i32 r] R :=
 PCall.of Tryz.func97 (by kernel_rfl) (by kernel_rfl) (zl (by kernel_rfl)) (Eq.mpr (by kernel_rfl : aQ Tryz.prog (fun _ => none) Tryz.f97 [0, 1, 4, 6, 13, 14, 15, 26] (fun zz_ => match zz_ with | 2 => some ⟨Int × Int × Int, fun s => zan tc tg tj tf tp M S r s.1 s.2.1 s.2.2, fun _ s => J s.1 s.2.1 s.2.2, fun s => μ s.1 s.2.1 s.2.2, fun e h => (gC e 13 0, gC e 13 1, gI e 14), [], [0, 13, 14], [], fun p => ∀ (x13_0 x13_1 x14 : Int), p (x13_0, x13_1, x14), fun p h s => h s.1 s.2.1 s.2.2⟩ | _ => none) (Tryz.f97.body.getD .skip) [.ptr [tc, tg, tj, tf, tp, .mp M, .mp S], .int .i32 r] R = _) h)

end Go.Eng



namespace Go.Eng
open Go Go.Proofs
def zij (tc tg tj tf tp : PV) (M S : List (PV × PV)) (r : Int) (R : PV -> Prop) : Prop :=
 (∃ (kvs : List (PV × PV)), some (PV.mp S) = some (PV.mp kvs) /\ eU .i32 kvs /\ (∀ (v : PV), bJ (Z3 r) kvs = some v -> ∃ b, v = Zb b /\ R (Zb b)) /\ (bJ (Z3 r) kvs = none -> R (Zb false))) ∨ some (PV.mp S) = some PV.nilm /\
 eU .i32 [] /\ (∀ (v : PV), bJ (Z3 r) [] = some v -> ∃ b, v = Zb b /\ R (Zb b)) /\ (bJ (Z3 r) [] = none -> R (Zb false))
theorem zsy (tc tg tj tf tp : PV) (M S : List (PV × PV)) (r : Int) {R : PV -> Prop} (h : zij tc tg tj tf tp M S r R) : PCall Tryz.prog 144 [.ptr [tc, tg, tj, tf, tp, .mp M, .mp S], .int .i32 r] R :=
 PCall.of Tryz.func144 (by kernel_rfl) (by kernel_rfl) (zl (by kernel_rfl)) (Eq.mpr (by kernel_rfl : aQ Tryz.prog (fun _ => none) Tryz.f144 [0, 1, 4] (fun _ => none) (Tryz.f144.body.getD .skip) [.ptr [tc, tg, tj, tf, tp, .mp M, .mp S], .int .i32 r] R = _) h)

end Go.Eng



namespace Go.Eng
open Go Go.Proofs Go.Eng.Rows Go.Eng.Trie
theorem zsz (tc tg tj tf tp : PV) (M : List (PV × PV)) (sec : List (Int × Bool)) (r : Int) : PCall Tryz.prog 144 [.ptr [tc, tg, tj, tf, tp, .mp M, .mp (eK sec)], .int .i32 r] fun v => v = .bool (tS sec r) := by
 refine zsy _ _ _ _ _ _ _ _ ?_
 unfold zij
 have hg := kI (ek := fun n => PV.int .i32 n) (ev := fun b => PV.bool b) (nH .i32) r sec
 refine .inl ⟨_, rfl, kJ sec, fun v hv => ?_, fun hv => ?_⟩
 ·rw [hg] at hv
  cases h : bH r sec with
  | none => rw [h] at hv; cases hv
  | some b => rw [h] at hv; cases hv; exact ⟨b, rfl, by simp [tS, h]⟩
 ·rw [hg] at hv
  cases h : bH r sec with
  | none => simp [tS, h]
  | some b => rw [h] at hv; cases hv
end Go.Eng



namespace Go.Eng
open Go Go.Proofs Go.Eng.Rows Go.Eng.Trie
theorem zs0 (r : Int) : PCall Tryz.prog 145 [.int .i32 r] fun v => v = .bool (nN r) := by
 refine zsq _ ?_; unfold zib
 unfold nN
 by_cases h1 : 4449 <= r <;> by_cases h2 : r <= 4469 <;> by_cases h3 : 4520 <= r <;> by_cases h4 : r <= 4546 <;> simp [h1, h2, h3, h4] <;> omega
theorem zs1 (r : Int) : PCall Tryz.prog 149 [.int .i32 r] fun v => v = .bool (nN r) := by
 refine zsr _ ?_; unfold zic
 unfold nN
 by_cases h1 : 4449 <= r <;> by_cases h2 : r <= 4469 <;> by_cases h3 : 4520 <= r <;> by_cases h4 : r <= 4546 <;> simp [h1, h2, h3, h4]
section
variable {rows : List Row}
theorem zik (i : Int) : eJ rows 3 i = decide (aC rows 3 i = 1) := by
 unfold eJ aC
 cases bK rows 3 i with
 | none => rfl
 | some p => rfl
theorem zao (hp : bP rows) (n f : Bool) (r : Int) (hl : rows.length < 1000000) (hr : -2147483648 <= r /\ r <= 2147483647) : PCall Tryz.prog 147 [.sl n f (aY rows), .int .i32 r] fun v => v = .bool (dA rows r) := by
 refine zss _ _ _ _ ?_; unfold zid
 refine (tY hp n f r hl hr).mono ?_
 rintro _ rfl
 have hrng := mF hp r
 refine ⟨_, rfl, rfl, _, rfl, _, rfl, _, rfl, _, rfl, _, rfl, _, rfl, ?_⟩
 refine aF (fun h1 => ?_) (fun h1 => aF (fun h2 => ?_) (fun h2 => ?_))
 ·simp only [Bool.not_not, decide_eq_true_eq] at h1
  unfold dA; simp [h1]
 ·simp only [Bool.not_not, decide_eq_true_eq] at h1
  simp only [beq_iff_eq] at h2
  unfold dA; simp [h1, h2]
 ·simp only [Bool.not_not, decide_eq_true_eq] at h1
  simp only [beq_iff_eq] at h2
  refine (tX n f 3 r hl hr).mono ?_
  rintro _ rfl
  refine ⟨_, rfl, ?_⟩
  refine aF (fun h4 => ?_) (fun h4 => ?_)
  ·simp only [beq_iff_eq] at h4
   unfold dA; rw [zik]; simp [h1, h2, h4]
  ·simp only [beq_iff_eq] at h4
   refine (tX n f 1 r hl hr).mono ?_
   rintro _ rfl
   refine ⟨_, rfl, ?_⟩
   refine aF (fun h5 => ?_) (fun h5 => ?_)
   ·simp only [bne_iff_ne, ne_eq] at h5
    unfold dA; simp [h1, h2, h5]
   ·simp only [bne_iff_ne, ne_eq, Decidable.not_not] at h5
    refine (tX n f 1 _ hl (by omega)).mono ?_
    rintro _ rfl
    refine ⟨_, rfl, ?_⟩
    unfold dA; rw [zik]
    simp only [h1, h2, h4, h5, decide_false, Bool.not_false, Bool.true_and, Bool.false_or, decide_true, Bool.not_true]
    rfl
theorem zs2 (hp : bP rows) (h1 : cN rows) (n f : Bool) (r : Int) (hl : rows.length < 1000000) (hr : -2147483648 <= r /\ r <= 2147483647) : PCall Tryz.prog 148 [.sl n f (aY rows), .int .i32 r] fun v => v = .bool (iF rows r) := by
 refine zst _ _ _ _ (fun i => 0 <= i /\ i <= rows.length /\ ∀ x ∈ rows.take i.toNat, (decide (x.kind = 2) && (decide (x.b = r) && (!decide (r = 0) && !dA rows x.fr))) = false) (fun i => rows.length - i.toNat) ?_
 unfold zie
 refine ⟨⟨rfl, Int.le_refl _, by omega, fun x hx => by simp at hx⟩, ?_⟩
 rintro i ⟨i0, i1, hno⟩
 refine aF (fun hc => ?_) (fun hc => ?_)
 ·simp only [decide_eq_true_eq, fF] at hc
  have hi : i.toNat < rows.length := by omega
  have hw : i64.wrap (i + 1) = i + 1 := aD (by omega) (by omega)
  have hwr : i64.wrap r = r := aD (by omega) (by omega)
  have hn : (i + 1).toNat = i.toNat + 1 := by omega
  have hg : (aY rows).getD i.toNat [] = kK rows[i.toNat] := cJ hi
  have hix : aJ (aY rows) i 5 := bU l6 i0 hc
  have hmem : rows[i.toNat] ∈ rows := List.getElem_mem hi
  have step : (decide (rows[i.toNat].kind = 2) && (decide (rows[i.toNat].b = r) && (!decide (r = 0) && !dA rows rows[i.toNat].fr))) = false -> (0 <= i + 1 /\ i + 1 <= rows.length /\ ∀ x ∈ rows.take (i + 1).toNat, (decide (x.kind = 2) && (decide (x.b = r) && (!decide (r = 0) && !dA rows x.fr))) = false) /\ rows.length - (i + 1).toNat < rows.length - i.toNat := fun h => by
   refine ⟨⟨by omega, by omega, fun x hx => ?_⟩, by omega⟩
   rw [hn, c9 hi] at hx
   rcases List.mem_append.1 hx with hx | hx
   ·exact hno x hx
   ·simp only [List.mem_singleton] at hx; subst hx; exact h
  rw [hw, hwr]
  refine ⟨hix, rows[i.toNat].kind, by rw [hg]; rfl, ?_⟩
  refine aF (fun h2 => ?_) (fun h2 => ?_)
  ·simp only [beq_iff_eq] at h2
   refine ⟨hix, rows[i.toNat].b, by rw [hg]; rfl, ?_⟩
   refine aF (fun h3 => ?_) (fun h3 => ?_)
   ·simp only [Bool.and_eq_true, beq_iff_eq, bne_iff_ne, ne_eq] at h3
    obtain ⟨e1, e2, e3⟩ := h1 _ hmem h2
    refine ⟨hix, rows[i.toNat].fr, by rw [hg]; rfl, ?_⟩
    have hwf : i32.wrap rows[i.toNat].fr = rows[i.toNat].fr := cS (by omega) (by omega)
    rw [hwf]
    refine (zao hp n f _ hl (by omega)).mono ?_
    rintro _ rfl
    refine ⟨_, rfl, ?_⟩
    refine aF (fun h4 => ?_) (fun h4 => ?_)
    ·simp only [Bool.not_eq_true'] at h4
     have : iF rows r = true := List.any_eq_true.2 ⟨_, hmem, by simp [h2, h3, h4]⟩
     rw [this]
    ·simp only [Bool.not_eq_true', Bool.not_eq_false] at h4
     exact ⟨rfl, step (by simp [h4])⟩
   ·refine ⟨rfl, step ?_⟩
    simp only [Bool.and_eq_true, beq_iff_eq, bne_iff_ne, ne_eq, not_and, Decidable.not_not] at h3
    by_cases h5 : rows[i.toNat].b = r
    ·simp [h5, h3 h5]
    ·simp [h5]
  ·simp only [beq_iff_eq] at h2
   exact ⟨rfl, step (by simp [h2])⟩
 ·simp only [decide_eq_true_eq, fF] at hc
  rw [List.take_of_length_le (by omega)] at hno
  have : iF rows r = false := List.any_eq_false.2 fun x hx => by rw [hno x hx]; simp
  rw [this]
end
end Go.Eng



namespace Go.Eng
open Go Go.Proofs Go.Eng.Rows Go.Eng.Trie
section
variable {rows : List Row} {v : PV}
theorem qOf (hp : bP rows) (h1 : cN rows) (hv : gU rows v) {r : Int} (hr : -2147483648 <= r /\ r <= 2147483647) : PCall Tryz.prog 120 [v, .int .i32 r] fun x => x = .int .i64 (cY rows r) := by
 obtain ⟨tc, tg, tj, tf, tp, made, sec, rfl, ht, hm⟩ := hv
 refine zsw _ _ _ _ _ _ _ _ ?_; unfold zih
 refine (zgp _ _ hp ht hr).mono ?_
 rintro _ rfl
 refine ⟨_, rfl, ?_⟩
 refine aF (fun ho => ?_) (fun ho => ?_)
 ·unfold cY; rw [if_pos ho]
 ·refine (zsz tc tg tj tf tp _ sec r).mono ?_
  rintro _ rfl
  have hs : tS sec r = iF rows r := zp5 hp h1 hm r
  rw [hs]
  refine ⟨_, rfl, ?_⟩
  refine aF (fun h2 => ?_) (fun h2 => ?_)
  ·refine a8 h2 ?_
   unfold cY; rw [if_neg ho, if_pos (by simp [h2])]
  ·refine (zs0 r).mono ?_
   rintro _ rfl
   refine ⟨_, rfl, ?_⟩
   refine aF (fun h3 => ?_) (fun h3 => ?_)
   ·unfold cY; rw [if_neg ho, if_pos (by simp [h3])]
   ·unfold cY; rw [if_neg ho, if_neg (by simp only [Bool.not_eq_true] at h2 h3; simp [h2, h3])]
theorem zil (hp : bP rows) {r : Int} (hr : -2147483648 <= r /\ r <= 2147483647) : -2147483648 <= cQ rows r /\ cQ rows r <= 2147483647 := by
 rcases qB hp 8 r _ (zp4 rows r) with h | h
 ·rw [h]; exact hr
 ·omega
theorem zs3 {l : List Int} (h : 0 < l.length) : l[0] = l.headD 0 := by
 cases l with
 | nil => simp at h
 | cons a l => rfl
theorem zim (rows : List Row) (r : Int) : aJ (aA (aN rows 8 r)) 0 1 /\ (aA (aN rows 8 r)).getD 0 [] = [.int .i32 (cQ rows r)] := by
 have hne := qA rows 8 r
 have hlen : 0 < (aN rows 8 r).length := List.length_pos_iff.2 hne
 obtain ⟨h1, h2⟩ := eL (l := aN rows 8 r) (i := 0) (Int.le_refl _) (by simpa using hlen)
 refine ⟨h1, h2.trans ?_⟩
 have : (aN rows 8 r)[(0 : Int).toNat]'(by simpa using hlen) = cQ rows r := zs3 hlen
 rw [this]
theorem zin (hp : bP rows) (h1 : cN rows) (hv : gU rows v) {r : Int} (hr : -2147483648 <= r /\ r <= 2147483647) : PCall Tryz.prog 97 [v, .int .i32 r] fun x => x = .bool (cH rows r) := by
 have hv' := hv
 obtain ⟨tc, tg, tj, tf, tp, made, sec, rfl, ht, hm⟩ := hv
 have hh := zil hp hr
 refine zsx _ _ _ _ _ _ _ _ (fun a b i => r = a /\ cQ rows r = b /\ 0 <= i /\ i <= 2 /\ (1 <= i -> aC rows 1 r = 0 /\ cY rows r = 0) /\ (2 <= i -> aC rows 1 (cQ rows r) = 0 /\ cY rows (cQ rows r) = 0)) (fun _ _ i => (2 - i).toNat) ?_
 unfold zii
 refine (zp8 _ _ hp ht hr).mono ?_
 rintro _ ⟨nl, rfl⟩
 obtain ⟨f1, f2⟩ := zim rows r
 refine ⟨_, _, _, rfl, f1, cQ rows r, by rw [f2]; rfl, ⟨rfl, rfl, rfl, Int.le_refl _, by omega, fun h => absurd h (by omega), fun h => absurd h (by omega)⟩, ?_⟩
 rintro _ _ i ⟨rfl, rfl, i0, i1, k1, k2⟩
 refine aF (fun hc => ?_) (fun hc => ?_)
 ·simp only [decide_eq_true_eq] at hc
  have hw : i64.wrap (i + 1) = i + 1 := aD (by omega) (by omega)
  have key : ∀ (x : Int), (-2147483648 <= x /\ x <= 2147483647) -> [PV.int .i32 r, .int .i32 (cQ rows r)].getD i.toNat .unit = .int .i32 x ->
   ((aC rows 1 x = 0 /\ cY rows x = 0) -> (1 <= i + 1 -> aC rows 1 r = 0 /\ cY rows r = 0) /\ (2 <= i + 1 -> aC rows 1 (cQ rows r) = 0 /\ cY rows (cQ rows r) = 0)) -> (¬ (aC rows 1 x = 0 /\ cY rows x = 0) -> cH rows r = false) ->
   ∃ n2 : Int, [PV.int .i32 r, .int .i32 (cQ rows r)].getD i.toNat .unit = .int .i32 n2 /\ PCall Tryz.prog 90 [.ptr [tc, tg, tj, tf, tp, .mp (dK made), .mp (eK sec)], .int .i32 n2] fun v1 => ∃ n3 : Int, v1 = .int .i64 n3 /\
    if (n3 != 0) = true then PV.bool false = PV.bool (cH rows r) else PCall Tryz.prog 120 [.ptr [tc, tg, tj, tf, tp, .mp (dK made), .mp (eK sec)], .int .i32 n2] fun v2 => ∃ n4 : Int, v2 = .int .i64 n4 /\
     if (n4 != 0) = true then PV.bool false = PV.bool (cH rows r) else (1 <= i + 1 -> aC rows 1 r = 0 /\ cY rows r = 0) /\ (2 <= i + 1 -> aC rows 1 (cQ rows r) = 0 /\ cY rows (cQ rows r) = 0) := fun x hx hg hyes hno => by
   refine ⟨x, hg, ?_⟩
   refine (p7 _ _ ht hx).mono ?_
   rintro _ rfl
   refine ⟨_, rfl, ?_⟩
   refine aF (fun h4 => ?_) (fun h4 => ?_)
   ·simp only [bne_iff_ne, ne_eq] at h4
    rw [hno fun h => h4 h.1]
   ·simp only [bne_iff_ne, ne_eq, Decidable.not_not] at h4
    refine (qOf hp h1 hv' hx).mono ?_
    rintro _ rfl
    refine ⟨_, rfl, ?_⟩
    refine aF (fun h5 => ?_) (fun h5 => ?_)
    ·simp only [bne_iff_ne, ne_eq] at h5
     rw [hno fun h => h5 h.2]
    ·simp only [bne_iff_ne, ne_eq, Decidable.not_not] at h5
     exact hyes ⟨h4, h5⟩
  have hi : i = 0 ∨ i = 1 := by omega
  have hmu : (2 - (i + 1)).toNat < (2 - i).toNat := by omega
  have key2 : ∃ n2 : Int, [PV.int .i32 r, .int .i32 (cQ rows r)].getD i.toNat .unit = .int .i32 n2 /\ PCall Tryz.prog 90 [.ptr [tc, tg, tj, tf, tp, .mp (dK made), .mp (eK sec)], .int .i32 n2] fun v1 => ∃ n3 : Int, v1 = .int .i64 n3 /\
   if (n3 != 0) = true then PV.bool false = PV.bool (cH rows r) else PCall Tryz.prog 120 [.ptr [tc, tg, tj, tf, tp, .mp (dK made), .mp (eK sec)], .int .i32 n2] fun v2 => ∃ n4 : Int, v2 = .int .i64 n4 /\
    if (n4 != 0) = true then PV.bool false = PV.bool (cH rows r) else (1 <= i + 1 -> aC rows 1 r = 0 /\ cY rows r = 0) /\ (2 <= i + 1 -> aC rows 1 (cQ rows r) = 0 /\ cY rows (cQ rows r) = 0) := by
   rcases hi with rfl | rfl
   ·refine key r hr rfl (fun h => ⟨fun _ => h, fun h2 => absurd h2 (by omega)⟩) fun h => ?_
    unfold cH
    by_cases e1 : aC rows 1 r = 0
    ·have e2 : cY rows r ≠ 0 := fun e2 => h ⟨e1, e2⟩
     simp [e2]
    ·simp [e1]
   ·refine key (cQ rows r) hh rfl (fun h => ⟨fun _ => k1 (by omega), fun _ => h⟩) fun h => ?_
    unfold cH
    by_cases e1 : aC rows 1 (cQ rows r) = 0
    ·have e2 : cY rows (cQ rows r) ≠ 0 := fun e2 => h ⟨e1, e2⟩
     simp [e2]
    ·simp [e1]
  obtain ⟨n2, g1, g2⟩ := key2
  refine ⟨⟨i0, hc, by simp; omega⟩, n2, g1, g2.mono ?_⟩
  rintro v1 ⟨n3, rfl, hk⟩
  refine ⟨n3, rfl, aF (fun h => by rw [if_pos h] at hk; exact hk) (fun h => ?_)⟩
  rw [if_neg h] at hk
  refine hk.mono ?_
  rintro v2 ⟨n4, rfl, hk2⟩
  refine ⟨n4, rfl, aF (fun h => by rw [if_pos h] at hk2; exact hk2) (fun h => ?_)⟩
  rw [if_neg h] at hk2
  rw [hw]
  exact ⟨rfl, ⟨rfl, rfl, by omega, by omega, hk2⟩, hmu⟩
 ·simp only [decide_eq_true_eq] at hc
  obtain ⟨a1, a2⟩ := k1 (by omega)
  obtain ⟨a3, a4⟩ := k2 (by omega)
  unfold cH; simp [a1, a2, a3, a4]
end
end Go.Eng



namespace Go.Eng
open Go Go.Proofs Go.Eng.Rows Go.Eng.Trie
section
variable {rows : List Row} {v : PV}
theorem zio (hp : bP rows) (h1 : cN rows) (n f : Bool) (r : Int) (hl : rows.length < 1000000) (hr : -2147483648 <= r /\ r <= 2147483647) : PCall Tryz.prog 122 [.sl n f (aY rows), .int .i32 r] fun v => v = .int .i64 (cY rows r) := by
 refine zsu _ _ _ _ ?_; unfold zif
 refine (zao hp n f r hl hr).mono ?_
 rintro _ rfl
 refine ⟨_, rfl, aF (fun ho => ?_) (fun ho => ?_)⟩
 ·unfold cY; rw [if_pos ho]
 ·refine (zs2 hp h1 n f r hl hr).mono ?_
  rintro _ rfl
  refine ⟨_, rfl, aF (fun h2 => ?_) (fun h2 => ?_)⟩
  ·unfold cY; rw [if_neg ho, if_pos (by simp [h2])]
  ·refine (zs1 r).mono ?_
   rintro _ rfl
   refine ⟨_, rfl, aF (fun h3 => ?_) (fun h3 => ?_)⟩
   ·unfold cY; rw [if_neg ho, if_pos (by simp [h3])]
   ·unfold cY; rw [if_neg ho, if_neg (by simp only [Bool.not_eq_true] at h2 h3; simp [h2, h3])]
theorem ziq (hp : bP rows) (h1 : cN rows) (n f : Bool) (r : Int) (hl : rows.length < 1000000) (hr : -2147483648 <= r /\ r <= 2147483647) : PCall Tryz.prog 99 [.sl n f (aY rows), .int .i32 r] fun v => v = .bool (cH rows r) := by
 have hh := zil hp hr
 refine zsv _ _ _ _ ?_; unfold zig
 obtain ⟨f1, f2⟩ := zim rows r
 have tail : PCall Tryz.prog 121 [.sl n f (aY rows), .int .i32 r] fun v => ∃ n2 : Int, v = .int .i64 n2 /\
  if (n2 == 0) = true then PCall Tryz.prog 122 [.sl n f (aY rows), .int .i32 r] fun v1 => ∃ n3 : Int, v1 = .int .i64 n3 /\
   if (n3 == 0) = true then PCall Tryz.prog 121 [.sl n f (aY rows), .int .i32 (cQ rows r)] fun v2 => ∃ n4 : Int, v2 = .int .i64 n4 /\
    if (n4 == 0) = true then PCall Tryz.prog 122 [.sl n f (aY rows), .int .i32 (cQ rows r)] fun v3 => ∃ n5 : Int, v3 = .int .i64 n5 /\ PV.bool (n5 == 0) = .bool (cH rows r)
    else PV.bool false = .bool (cH rows r)
   else PV.bool false = .bool (cH rows r)
  else PV.bool false = .bool (cH rows r) := by
  refine (nP n f r hl hr).mono ?_
  rintro _ rfl
  refine ⟨_, rfl, aF (fun h2 => ?_) (fun h2 => ?_)⟩
  ·simp only [beq_iff_eq] at h2
   refine (zio hp h1 n f r hl hr).mono ?_
   rintro _ rfl
   refine ⟨_, rfl, aF (fun h3 => ?_) (fun h3 => ?_)⟩
   ·simp only [beq_iff_eq] at h3
    refine (nP n f _ hl hh).mono ?_
    rintro _ rfl
    refine ⟨_, rfl, aF (fun h4 => ?_) (fun h4 => ?_)⟩
    ·simp only [beq_iff_eq] at h4
     refine (zio hp h1 n f _ hl hh).mono ?_
     rintro _ rfl
     refine ⟨_, rfl, ?_⟩
     unfold cH; simp only [h2, h3, h4, decide_true, Bool.true_and]; rfl
    ·simp only [beq_iff_eq] at h4
     unfold cH; simp [h4]
   ·simp only [beq_iff_eq] at h3
    unfold cH; simp [h3]
  ·simp only [beq_iff_eq] at h2
   unfold cH; simp [h2]
 refine (zgu hp n f hl 8 r (by omega) hr).mono ?_
 rintro r1 h' (⟨nl, rfl, rfl⟩ | ⟨rfl, rfl⟩)
 ·exact .inl ⟨(nl, _), ⟨rfl, rfl⟩, trivial, f1, cQ rows r, by show (List.drop 0 ((aA (aN rows 8 r)).getD 0 [])).head? = _; rw [f2]; rfl, tail⟩
 ·exact .inr ⟨_, ⟨rfl, rfl⟩, trivial, f1, cQ rows r, by rw [f2]; rfl, tail⟩
end
end Go.Eng



namespace Go.Eng
open Go Go.Proofs Go.Shelf
theorem zs4 (z : Array Value) (n : Nat) : (Builtin.zeroCells z n).size = n * z.size := by simp [Builtin.zeroCells]
theorem zs5 {P : Program} {ρ : Go.Shelf.Ren} (L : Lays8.n4 P ρ) (hcal : mR P (ρ.f 4)) (el : TypeId) (hel : ρ.t 25 = el) (i0 : TypeInfo) (z : Value) (hi0 : P.info? el = some i0) (hz0 : i0.zero = some z) (hs0 : 0 < i0.size) (hzs : z.cells.size = i0.size)
 (n : Nat) (hbig : n * i0.bytes <= 140737488355328) (h63 : n <= 4611686018427387904) :
 ACall P (ρ.f 4) [.pv (.sl true true []), .pv (.int .i64 n)] [] fun r h' => ∃ nl, r = .own 0 /\ h' = [.sl (el, i0.size) false nl []] := by
 subst hel
 refine ⟨hcal, fun w I G cargs hh hsz hrel => ?_⟩
 simp only [List.length_cons, List.length_nil] at hsz
 have h0 := hrel 0 _ rfl
 have h1 := hrel 1 _ rfl
 obtain ⟨v0, v1, rfl⟩ : ∃ v0 v1, cargs = #[v0, v1] := by
  obtain ⟨c⟩ := cargs
  match c, hsz with
  | [a, b], _ => exact ⟨a, b, rfl⟩
 have e0 : (#[v0, v1] : Array Value).getD 0 undef = v0 := rfl
 have e1 : (#[v0, v1] : Array Value).getD 1 undef = v1 := rfl
 rw [e0] at h0
 rw [e1] at h1
 have hv0 : v0 = .slice none 0 0 := by
  cases h0 with
  | pv _ _ h => cases h; rfl
 have hv1 : v1 = .int .i64 n := by
  cases h1 with
  | pv _ _ h => cases h; rfl
 subst hv0 hv1
 by_cases hn : n = 0
 ·subst hn
  refine (Any8.slices_Grow_room L none 0 0 0 w (Nat.le_refl _) (by omega) (by omega) (Nat.le_refl _)).mono fun e w' ⟨he, hw⟩ => ?_
  subst hw
  have hna : ¬ (Ob.sl (ρ.t 25, i0.size) false true []).alive ⟨0, 0, 0, 0⟩ := fun h => by cases h.1
  exact ⟨_, .own 0, _, I, _, he, ⟨true, rfl, rfl⟩, hh.add _ ⟨0, 0, 0, 0⟩ hna rfl, .ownNil 0 _ _ _ rfl, TrH.add _ _ hna⟩
 ·refine (Any8.slices_Grow_grow L i0 z hi0 hz0 hs0 none 0 0 n [] w (Nat.le_refl _) (by omega) (by rw [Nat.zero_add]; exact hbig) (by omega) (by simp) (fun _ => rfl) (fun a ha => by cases ha)).mono fun e w' ⟨he, hw⟩ => ?_
  subst hw
  rw [Nat.zero_add] at he ⊢
  have hG := grownCap_ge w n 0 (ρ.t 25)
  have hG2 := grownCap_le_maxLen w n 0 (ρ.t 25) (by unfold maxLen; omega)
  generalize grownCap w n 0 (ρ.t 25) = c at *
  have hp := hh.drew.push (.cells ((([] : List Value).toArray ++ Builtin.zeroCells z.cells (n - 0)) ++ Builtin.zeroCells z.cells (c - n)) (ρ.t 25)) (.sl (ρ.t 25, i0.size) false false []) ⟨w.drew.heap.size, 0, c, i0.size⟩ rfl
   ⟨Nat.zero_le _, hG2, fun _ => rfl, rfl, fun i e he => by simp at he, fun _ => ⟨_, lI _ _, by
    simp only [Array.size_append, zs4, List.size_toArray, List.length_nil, hzs, Nat.zero_add]
    rw [<- Nat.add_mul]; congr 1; omega, fun i e he => by simp at he⟩⟩
  refine ⟨_, .own 0, _, I, _, he, ⟨false, rfl, rfl⟩, hp, ?_, TrH.trans TrH.drew (TrH.push _ _ _ rfl)⟩
  have := LRel.own (w := w.drew.alloc (.cells ((([] : List Value).toArray ++ Builtin.zeroCells z.cells (n - 0)) ++ Builtin.zeroCells z.cells (c - n)) (ρ.t 25))) (I := I) (G := aT G ([] : Hp).length ⟨w.drew.heap.size, 0, c, i0.size⟩) (h := ([] : Hp) ++ [.sl (ρ.t 25, i0.size) false false []]) 0 (ρ.t 25, i0.size) false [] ⟨w.heap.size, 0, none⟩ (fun _ => by simp [aT]) (by simp)
  simpa [aT] using this
end Go.Eng

namespace Go.Proofs
open Go.Shelf
def Tryz.growRune_ren : Go.Shelf.Ren := ⟨fun | 4 => 98 | n => n, fun | 22 => 23 | 25 => 21 | 3 => 3 | 4 => 4 | 9 => 9 | 20 => 20 | 0 => 0 | n => n, fun | n => n⟩
theorem Tryz.growRune : Go.Proofs.Lays8.n4 Tryz.prog Tryz.growRune_ren := {
 mixed := by kernel_rfl
 f4 := ⟨Tryz.f98.name, by decide, Tryz.func98.trans (congrArg some (by kernel_rfl))⟩
 t0 := Tryz.underlying0
 a0 := Tryz.isAgg0
 z0 := Tryz.sizeOf0
 v0 := Tryz.zeroValue0
 t3 := Tryz.underlying3
 a3 := Tryz.isAgg3
 z3 := Tryz.sizeOf3
 v3 := Tryz.zeroValue3
 t4 := Tryz.underlying4
 a4 := Tryz.isAgg4
 z4 := Tryz.sizeOf4
 v4 := Tryz.zeroValue4
 t9 := Tryz.underlying9
 a9 := Tryz.isAgg9
 z9 := Tryz.sizeOf9
 v9 := Tryz.zeroValue9
 t20 := Tryz.underlying20
 a20 := Tryz.isAgg20
 z20 := Tryz.sizeOf20
 v20 := Tryz.zeroValue20
 t22 := Tryz.underlying23
 a22 := Tryz.isAgg23
 z22 := Tryz.sizeOf23
 v22 := Tryz.zeroValue23 }
end Go.Proofs



namespace Go.Eng
open Go Go.Proofs
def zap (n f : Bool) (es : LL) (x3 x11 : Int) : Env × Hp := ([(0, LV.pv (PV.sl n f es)), (3, Y6 x3), (9, LV.pv (PV.sl n f es)), (10, Y6 ↑es.length), (11, Y6 x11)], [])
def zaq (n f : Bool) (es : LL) (x27 : Int) (n_0 : Bool) (s_0 : LL) : Env × Hp := ([(6, LV.own 0), (25, LV.pv (PV.sl n f es)), (26, Y6 ↑es.length), (27, Y6 x27)], [.sl (21, 1) true n_0 s_0])
def zir (n f : Bool) (es : LL) (J : Int -> Int -> Prop) (μ : Int -> Int -> Nat) (J2 : Int -> Bool -> LL -> Prop) (μ2 : Int -> Bool -> LL -> Nat) (R : PV -> Prop) : Prop :=
 (aB (zap n f es (0 : Int) (0 : Int)) /\ J (0 : Int) (0 : Int)) /\ ∀ (x3 x11 : Int), J x3 x11 -> if decide (x11 < (↑es.length : Int)) = true then aJ es x11 1 /\ ∃ n1 f1 es1, (es.getD x11.toNat []).head? =
 some (PV.sl n1 f1 es1) /\ if decide (i64.wrap (x3 + (↑es1.length : Int)) < 0) = true then aG 815 else aB (zap n f es (i64.wrap (x3 + (↑es1.length : Int))) (i64.wrap (x11 + 1))) /\ J (i64.wrap (x3 +
 (↑es1.length : Int))) (i64.wrap (x11 + 1)) /\ μ (i64.wrap (x3 + (↑es1.length : Int))) (i64.wrap (x11 + 1)) < μ x3 x11 else ACall Tryz.prog 98 [LV.pv (PV.sl true true []), Y6 x3] [] fun (r : LV) (h' : Hp) => ∃ (t :
 Bool), (r = LV.own 0 /\ h' = [Ob.sl (21, 1) false t []]) /\ True /\ (aB (zaq n f es (0 : Int) t []) /\ J2 (0 : Int) t []) /\ ∀ (x27 : Int) (n_0 : Bool) (s_0 : LL), J2 x27 n_0 s_0 -> if decide (x27 < (↑es.length : Int)) = true then aJ es
 x27 1 /\ ∃ n1 f1 es1, (es.getD x27.toNat []).head? = some (PV.sl n1 f1 es1) /\ (aM es1 1 /\ (s_0.length + es1.length) * 4 <= 140737488355328) /\ aB (zaq n f es (i64.wrap (x27 + 1)) (n_0 &&
 es1.isEmpty) (s_0 ++ es1)) /\ J2 (i64.wrap (x27 + 1)) (n_0 && es1.isEmpty) (s_0 ++ es1) /\ μ2 (i64.wrap (x27 + 1)) (n_0 && es1.isEmpty) (s_0 ++ es1) < μ2 x27 n_0 s_0 else R (PV.sl n_0 false s_0)
theorem zs6 (n f : Bool) (es : LL) (J : Int -> Int -> Prop) (μ : Int -> Int -> Nat) (J2 : Int -> Bool -> LL -> Prop) (μ2 : Int -> Bool -> LL -> Nat) {R : PV -> Prop} (h : zir n f es J μ J2 μ2 R) : PCall Tryz.prog 69 [.sl n f es] R :=
 PCall.of Tryz.func69 (by kernel_rfl) (by kernel_rfl) (zl (by kernel_rfl)) (Eq.mpr (by kernel_rfl : aQ Tryz.prog (fun zz_ => match zz_ with | 98 => some ⟨Bool, fun _ hs t => (.own hs.length, hs ++ [.sl (21, 1) false t []]), none⟩ | _ => none) Tryz.f69 [0, 2, 3, 5, 6, 8, 9, 10, 11, 12, 20, 25, 26, 27, 28] (fun zz_ => match zz_ with | 3 => some ⟨Int × Int, fun s => zap n f es s.1 s.2, fun _ s => J s.1 s.2, fun s => μ s.1 s.2, fun e h => (gI e 3, gI e 11), [], [0, 3, 9, 10, 11], [], fun p => ∀ (x3 x11 : Int), p (x3, x11), fun p h s => h s.1 s.2⟩ | 11 => some ⟨Int × Bool × LL, fun s => zaq n f es s.1 s.2.1 s.2.2, fun _ s => J2 s.1 s.2.1 s.2.2, fun s => μ2 s.1 s.2.1 s.2.2, fun e h => (gI e 27, oN h 0, oS h 0), [], [6, 25, 26, 27], [], fun p => ∀ (x27 : Int) (n_0 : Bool) (s_0 : LL), p (x27, n_0, s_0), fun p h s => h s.1 s.2.1 s.2.2⟩ | _ => none) (Tryz.f69.body.getD .skip) [.sl n f es] R = _) h)

def zis (tc tg tj tf tp : PV) (M S : List (PV × PV)) (n f : Bool) (es : LL) (i j : Int) (n2 f2 : Bool) (ss : LL) (R : PV -> Prop) : Prop :=
 if (decide (i < 0) || decide (i > j) || decide (j > (↑es.length : Int))) = true then R (PV.tup [PV.sl true true [], PV.agg [Z6 0, Z6 0, Z6 0], Z6 2]) else PCall Tryz.prog 67 [PV.ptr [tc, tg, tj, tf, tp, PV.mp M, PV.mp S], PV.sl n f es, Z6
 i] fun v => ∃ n1, v = Z6 n1 /\ PCall Tryz.prog 68 [PV.ptr [tc, tg, tj, tf, tp, PV.mp M, PV.mp S], PV.sl n f es, Z6 j] fun v1 => ∃ n3, v1 = Z6 n3 /\ (cR es.length (some n1) (some i) none /\ aM es 1) /\ (cR
 es.length (some j) (some n3) none /\ aM es 1) /\ PCall Tryz.prog 69 [PV.sl false true [[PV.sl n (f && decide (i = (↑es.length : Int))) (List.drop n1.toNat (List.take i.toNat es))], [PV.sl n2 f2 ss], [PV.sl n (f && decide (n3 = (↑es.length :
 Int))) (List.drop j.toNat (List.take n3.toNat es))]]] fun v2 => ∃ n4 f1 es1, v2 = PV.sl n4 f1 es1 /\ PCall Tryz.prog 65 [PV.ptr [tc, tg, tj, tf, tp, PV.mp M, PV.mp S], PV.sl n4 f1 es1] fun v3 => ∃
 (n5 : Bool), ∃ f3 es2, v3 = PV.sl n5 f3 es2 /\ (cR es.length none (some n1) none /\ aM es 1) /\ (cR es.length (some n3) none none /\ aM es 1) /\ PCall Tryz.prog 69 [PV.sl false true [[PV.sl n (f && decide (n1 =
 (↑es.length : Int))) (List.drop 0 (List.take n1.toNat es))], [PV.sl n5 f3 es2], [PV.sl n (f && decide ((↑es.length : Int) = (↑es.length : Int))) (List.drop n3.toNat (List.take (↑es.length : Int).toNat es))]]] fun v4 => ∃ (n6 : Bool),
 ∃ f4 es3, v4 = PV.sl n6 f4 es3 /\ R (PV.tup [PV.sl n6 f4 es3, PV.agg [Z6 n1, Z6 n3, Z6 (i64.wrap (n1 + (↑es2.length : Int)))], Z6 0])
theorem zs7 (tc tg tj tf tp : PV) (M S : List (PV × PV)) (n f : Bool) (es : LL) (i j : Int) (n2 f2 : Bool) (ss : LL) {R : PV -> Prop} (h : zis tc tg tj tf tp M S n f es i j n2 f2 ss R) : PCall Tryz.prog 31 [.ptr [tc, tg, tj, tf, tp, .mp M, .mp S], .sl n f es, .int .i64 i, .int .i64 j, .sl n2 f2 ss] R :=
 PCall.of Tryz.func31 (by kernel_rfl) (by kernel_rfl) (zl (by kernel_rfl)) (Eq.mpr (by kernel_rfl : aQ Tryz.prog (fun _ => none) Tryz.f31 [0, 1, 2, 3, 4, 10, 11, 12, 13, 14, 15, 28] (fun _ => none) (Tryz.f31.body.getD .skip) [.ptr [tc, tg, tj, tf, tp, .mp M, .mp S], .sl n f es, .int .i64 i, .int .i64 j, .sl n2 f2 ss] R = _) h)

def zar (tc tg tj tf tp : PV) (M S : List (PV × PV)) (n f : Bool) (es : LL) (k x2 : Int) : Env × Hp := ([(0, LV.pv (PV.ptr [tc, tg, tj, tf, tp, PV.mp M, PV.mp S])), (1, LV.pv (PV.sl n f es)), (2, Y6 x2)], [])
def zit (tc tg tj tf tp : PV) (M S : List (PV × PV)) (n f : Bool) (es : LL) (k : Int) (J : Int -> Prop) (μ : Int -> Nat) (R : PV -> Prop) : Prop :=
 if (k == 0) = true then R (Z6 0) else (aB (zar tc tg tj tf tp M S n f es k (i64.wrap (k - 1))) /\ J (i64.wrap (k - 1))) /\ ∀ (x2 : Int), J x2 -> if decide (x2 > 0) = true then aJ es x2 1 /\ ∃ n1, (es.getD
 x2.toNat []).head? = some (Z3 n1) /\ PCall Tryz.prog 97 [PV.ptr [tc, tg, tj, tf, tp, PV.mp M, PV.mp S], Z3 n1] fun v => ∃ b, v = Zb b /\ if (!b) = true then aB (zar tc tg tj tf tp M S n f es k (i64.wrap (x2 - 1)))
 /\ J (i64.wrap (x2 - 1)) /\ μ (i64.wrap (x2 - 1)) < μ x2 else R (Z6 x2) else R (Z6 x2)
theorem zs8 (tc tg tj tf tp : PV) (M S : List (PV × PV)) (n f : Bool) (es : LL) (k : Int) (J : Int -> Prop) (μ : Int -> Nat) {R : PV -> Prop} (h : zit tc tg tj tf tp M S n f es k J μ R) : PCall Tryz.prog 67 [.ptr [tc, tg, tj, tf, tp, .mp M, .mp S], .sl n f es, .int .i64 k] R :=
 PCall.of Tryz.func67 (by kernel_rfl) (by kernel_rfl) (zl (by kernel_rfl)) (Eq.mpr (by kernel_rfl : aQ Tryz.prog (fun _ => none) Tryz.f67 [0, 1, 2, 6, 8, 21] (fun zz_ => match zz_ with | 4 => some ⟨Int × Unit, fun s => zar tc tg tj tf tp M S n f es k s.1, fun _ s => J s.1, fun s => μ s.1, fun e h => (((gI e 2), ())), [], [0, 1, 2], [], fun p => ∀ (x2 : Int), p (x2, ()), fun p h s => h s.1⟩ | _ => none) (Tryz.f67.body.getD .skip) [.ptr [tc, tg, tj, tf, tp, .mp M, .mp S], .sl n f es, .int .i64 k] R = _) h)

def zas (tc tg tj tf tp : PV) (M S : List (PV × PV)) (n f : Bool) (es : LL) (k x2 : Int) : Env × Hp := ([(0, LV.pv (PV.ptr [tc, tg, tj, tf, tp, PV.mp M, PV.mp S])), (1, LV.pv (PV.sl n f es)), (2, Y6 x2)], [])
def ziu (tc tg tj tf tp : PV) (M S : List (PV × PV)) (n f : Bool) (es : LL) (k : Int) (J : Int -> Prop) (μ : Int -> Nat) (R : PV -> Prop) : Prop :=
 (aB (zas tc tg tj tf tp M S n f es k k) /\ J k) /\ ∀ (x2 : Int), J x2 -> if decide (x2 < (↑es.length : Int)) = true then aJ es x2 1 /\ ∃ n1, (es.getD x2.toNat []).head? = some (Z3 n1) /\ PCall Tryz.prog 97 [PV.ptr [tc, tg, tj,
 tf, tp, PV.mp M, PV.mp S], Z3 n1] fun v => ∃ b, v = Zb b /\ if (!b) = true then aB (zas tc tg tj tf tp M S n f es k (i64.wrap (x2 + 1))) /\ J (i64.wrap (x2 + 1)) /\ μ (i64.wrap (x2 + 1)) < μ x2 else
 R (Z6 x2) else R (Z6 x2)
theorem zs9 (tc tg tj tf tp : PV) (M S : List (PV × PV)) (n f : Bool) (es : LL) (k : Int) (J : Int -> Prop) (μ : Int -> Nat) {R : PV -> Prop} (h : ziu tc tg tj tf tp M S n f es k J μ R) : PCall Tryz.prog 68 [.ptr [tc, tg, tj, tf, tp, .mp M, .mp S], .sl n f es, .int .i64 k] R :=
 PCall.of Tryz.func68 (by kernel_rfl) (by kernel_rfl) (zl (by kernel_rfl)) (Eq.mpr (by kernel_rfl : aQ Tryz.prog (fun _ => none) Tryz.f68 [0, 1, 2, 6, 19] (fun zz_ => match zz_ with | 1 => some ⟨Int × Unit, fun s => zas tc tg tj tf tp M S n f es k s.1, fun _ s => J s.1, fun s => μ s.1, fun e h => (((gI e 2), ())), [], [0, 1, 2], [], fun p => ∀ (x2 : Int), p (x2, ()), fun p h s => h s.1⟩ | _ => none) (Tryz.f68.body.getD .skip) [.ptr [tc, tg, tj, tf, tp, .mp M, .mp S], .sl n f es, .int .i64 k] R = _) h)

def ziv (n f : Bool) (es : LL) (n2 f2 : Bool) (ss : LL) (n3 f3 : Bool) (s3 : LL) (R : PV -> Prop) : Prop :=
 fK true [] es 1 4 /\ (aM ss 1 /\ (([] ++ es).length + ss.length) * 4 <= 140737488355328) /\ (aM s3 1 /\ (([] ++ es ++ ss).length + s3.length) * 4 <= 140737488355328) /\ R (PV.sl (es.isEmpty && ss.isEmpty && s3.isEmpty) false ([] ++ es ++ ss
 ++ s3))
theorem zta (n f : Bool) (es : LL) (n2 f2 : Bool) (ss : LL) (n3 f3 : Bool) (s3 : LL) {R : PV -> Prop} (h : ziv n f es n2 f2 ss n3 f3 s3 R) : PCall Tryz.prog 71 [.sl n f es, .sl n2 f2 ss, .sl n3 f3 s3] R :=
 PCall.of Tryz.func71 (by kernel_rfl) (by kernel_rfl) (zl (by kernel_rfl)) (Eq.mpr (by kernel_rfl : aQ Tryz.prog (fun _ => none) Tryz.f71 [0, 1, 2, 6, 7] (fun _ => none) (Tryz.f71.body.getD .skip) [.sl n f es, .sl n2 f2 ss, .sl n3 f3 s3] R = _) h)

def ziw (n f : Bool) (es : LL) (n2 f2 : Bool) (ss : LL) (n3 f3 : Bool) (s3 : LL) (i j : Int) (R : PV -> Prop) : Prop :=
 (cR ss.length none (some i) none /\ aM ss 1) /\ (cR ss.length (some j) none none /\ aM ss 1) /\ PCall Tryz.prog 71 [PV.sl n2 (f2 && decide (i = (↑ss.length : Int))) (List.drop 0 (List.take i.toNat ss)), PV.sl n3 f3 s3, PV.sl n2 (f2 &&
 decide ((↑ss.length : Int) = (↑ss.length : Int))) (List.drop j.toNat (List.take (↑ss.length : Int).toNat ss))] fun v => ∃ n1 f1 es1, v = PV.sl n1 f1 es1 /\ PCall Tryz.prog 34 [PV.sl n f es, PV.sl n1 f1
 es1] fun v1 => ∃ n4 f4 es2, v1 = PV.sl n4 f4 es2 /\ R (PV.sl n4 f4 es2)
theorem ztb (n f : Bool) (es : LL) (n2 f2 : Bool) (ss : LL) (n3 f3 : Bool) (s3 : LL) (i j : Int) {R : PV -> Prop} (h : ziw n f es n2 f2 ss n3 f3 s3 i j R) : PCall Tryz.prog 35 [.sl n f es, .sl n2 f2 ss, .int .i64 i, .int .i64 j, .sl n3 f3 s3] R :=
 PCall.of Tryz.func35 (by kernel_rfl) (by kernel_rfl) (zl (by kernel_rfl)) (Eq.mpr (by kernel_rfl : aQ Tryz.prog (fun _ => none) Tryz.f35 [0, 1, 2, 3, 4, 10] (fun _ => none) (Tryz.f35.body.getD .skip) [.sl n f es, .sl n2 f2 ss, .int .i64 i, .int .i64 j, .sl n3 f3 s3] R = _) h)

def uU (n f : Bool) (es : LL) (n2 f2 : Bool) (ss : LL) (i j : Int) (x10 x11 : Int) : Env × Hp := ([(0, LV.pv (PV.sl n f es)), (1, LV.pv (PV.sl n2 f2 ss)), (2, Y6 i), (3, Y6 j), (10, Y6 x10), (11, Y6 x11)], [])
def zat (n f : Bool) (es : LL) (n2 f2 : Bool) (ss : LL) (i j : Int) (x10 x12 : Int) : Env × Hp := ([(0, LV.pv (PV.sl n f es)), (1, LV.pv (PV.sl n2 f2 ss)), (10, Y6 x10), (12, Y6 x12)], [])
def zix (n f : Bool) (es : LL) (n2 f2 : Bool) (ss : LL) (i j : Int) (J : Int -> Int -> Prop) (μ : Int -> Int -> Nat) (J2 : Int -> Int -> Prop) (μ2 : Int -> Int -> Nat) (R : PV -> Prop) : Prop :=
 (aB (uU n f es n2 f2 ss i j (0 : Int) (0 : Int)) /\ J (0 : Int) (0 : Int)) /\ ∀ (x10 x11 : Int), J x10 x11 -> if decide (x11 < i) = true then aJ ss x11 1 /\ ∃ n1, (ss.getD x11.toNat []).head? = some (Z3 n1) /\ PCall Tryz.prog 99
 [PV.sl n f es, Z3 n1] fun v => ∃ b, v = Zb b /\ if b = true then aB (uU n f es n2 f2 ss i j x11 (i64.wrap (x11 + 1))) /\ J x11 (i64.wrap (x11 + 1)) /\ μ x11 (i64.wrap (x11 + 1)) < μ x10 x11 else
 aB (uU n f es n2 f2 ss i j x10 (i64.wrap (x11 + 1))) /\ J x10 (i64.wrap (x11 + 1)) /\ μ x10 (i64.wrap (x11 + 1)) < μ x10 x11 else (aB (zat n f es n2 f2 ss i j x10 j) /\ J2 x10 j) /\ ∀ (x101 x12 : Int), J2 x101
 x12 -> if decide (x12 < (↑ss.length : Int)) = true then aJ ss x12 1 /\ ∃ n1, (ss.getD x12.toNat []).head? = some (Z3 n1) /\ PCall Tryz.prog 99 [PV.sl n f es, Z3 n1] fun v => ∃ b, v = Zb b /\ if b = true then R (PV.tup
 [Z6 x101, Z6 x12]) else aB (zat n f es n2 f2 ss i j x101 (i64.wrap (x12 + 1))) /\ J2 x101 (i64.wrap (x12 + 1)) /\ μ2 x101 (i64.wrap (x12 + 1)) < μ2 x101 x12 else R (PV.tup [Z6 x101, Z6 (↑ss.length : Int)])
theorem ztc (n f : Bool) (es : LL) (n2 f2 : Bool) (ss : LL) (i j : Int) (J : Int -> Int -> Prop) (μ : Int -> Int -> Nat) (J2 : Int -> Int -> Prop) (μ2 : Int -> Int -> Nat) {R : PV -> Prop} (h : zix n f es n2 f2 ss i j J μ J2 μ2 R) : PCall Tryz.prog 70 [.sl n f es, .sl n2 f2 ss, .int .i64 i, .int .i64 j] R :=
 PCall.of Tryz.func70 (by kernel_rfl) (by kernel_rfl) (zl (by kernel_rfl)) (Eq.mpr (by kernel_rfl : aQ Tryz.prog (fun _ => none) Tryz.f70 [0, 1, 2, 3, 8, 9, 10, 11, 12, 15, 23, 29, 37] (fun zz_ => match zz_ with | 3 => some ⟨Int × Int, fun s => uU n f es n2 f2 ss i j s.1 s.2, fun _ s => J s.1 s.2, fun s => μ s.1 s.2, fun e h => (gI e 10, gI e 11), [], [0, 1, 2, 3, 10, 11], [], fun p => ∀ (x10 x11 : Int), p (x10, x11), fun p h s => h s.1 s.2⟩ | 8 => some ⟨Int × Int, fun s => zat n f es n2 f2 ss i j s.1 s.2, fun _ s => J2 s.1 s.2, fun s => μ2 s.1 s.2, fun e h => (gI e 10, gI e 12), [], [0, 1, 10, 12], [], fun p => ∀ (x10 x12 : Int), p (x10, x12), fun p h s => h s.1 s.2⟩ | _ => none) (Tryz.f70.body.getD .skip) [.sl n f es, .sl n2 f2 ss, .int .i64 i, .int .i64 j] R = _) h)

def ziy (n f : Bool) (es : LL) (n2 f2 : Bool) (ss : LL) (n3 f3 : Bool) (s3 : LL) (i j : Int) (R : PV -> Prop) : Prop :=
 PCall Tryz.prog 70 [PV.sl n f es, PV.sl n2 f2 ss, Z6 i, Z6 j] fun v => ∃ vs, v = PV.tup vs /\ vs.length = 2 /\ ∃ x, vs.head? = some x /\ ∃ n1, x = Z6 n1 /\ ∃ x1, vs.tail.head? = some x1 /\ ∃ n4, x1
 = Z6 n4 /\ (cR ss.length (some n1) (some i) none /\ aM ss 1) /\ (cR ss.length (some j) (some n4) none /\ aM ss 1) /\ PCall Tryz.prog 71 [PV.sl n2 (f2 && decide (i = (↑ss.length : Int))) (List.drop n1.toNat (List.take i.toNat ss)), PV.sl
 n3 f3 s3, PV.sl n2 (f2 && decide (n4 = (↑ss.length : Int))) (List.drop j.toNat (List.take n4.toNat ss))] fun v1 => ∃ n5 f1 es1, v1 = PV.sl n5 f1 es1 /\ PCall Tryz.prog 34 [PV.sl n f es, PV.sl n5 f1 es1]
 fun v2 => ∃ n6 f4 es2, v2 = PV.sl n6 f4 es2 /\ (cR ss.length none (some n1) none /\ aM ss 1) /\ (cR ss.length (some n4) none none /\ aM ss 1) /\ PCall Tryz.prog 71 [PV.sl n2 (f2 && decide (n1 =
 (↑ss.length : Int))) (List.drop 0 (List.take n1.toNat ss)), PV.sl n6 f4 es2, PV.sl n2 (f2 && decide ((↑ss.length : Int) = (↑ss.length : Int))) (List.drop n4.toNat (List.take (↑ss.length : Int).toNat ss))] fun v3 => ∃ n7, ∃
 (f5 : Bool), ∃ es3, v3 = PV.sl n7 f5 es3 /\ R (PV.tup [PV.sl n7 f5 es3, Z6 n1, Z6 n4, Z6 (i64.wrap (n1 + (↑es2.length : Int)))])
theorem ztd (n f : Bool) (es : LL) (n2 f2 : Bool) (ss : LL) (n3 f3 : Bool) (s3 : LL) (i j : Int) {R : PV -> Prop} (h : ziy n f es n2 f2 ss n3 f3 s3 i j R) : PCall Tryz.prog 33 [.sl n f es, .sl n2 f2 ss, .int .i64 i, .int .i64 j, .sl n3 f3 s3] R :=
 PCall.of Tryz.func33 (by kernel_rfl) (by kernel_rfl) (zl (by kernel_rfl)) (Eq.mpr (by kernel_rfl : aQ Tryz.prog (fun _ => none) Tryz.f33 [0, 1, 2, 3, 4, 10, 11, 12, 13, 14, 15, 16] (fun _ => none) (Tryz.f33.body.getD .skip) [.sl n f es, .sl n2 f2 ss, .int .i64 i, .int .i64 j, .sl n3 f3 s3] R = _) h)

def zau  (R : PV -> Prop) : Prop :=
 PCall Tryz.prog 15 [] fun v => ∃ n f es, v = PV.sl n f es /\ PCall Tryz.prog 16 [PV.sl n f es] fun v1 => PCall Tryz.prog 31 [v1, PV.sl false true [[Z3 97], [Z3 101], [Z3 98]], Z6 2, Z6 2, PV.sl
 false true [[Z3 769]]] fun v2 => ∃ vs, v2 = PV.tup vs /\ vs.length = 3 /\ ∃ x, vs.head? = some x /\ ∃ n1 f1 es1, x = PV.sl n1 f1 es1 /\ ∃ x1, vs.tail.head? = some x1 /\ ∃ (cs : List
 PV), x1 = PV.agg cs /\ cs.length = 3 /\ ∃ n2, cs.head? = some (Z6 n2) /\ ∃ n3, cs.tail.head? = some (Z6 n3) /\ ∃ n4, cs.tail.tail.head? = some (Z6 n4) /\ ∃ x2, vs.tail.tail.head? = some x2 /\ ∃ n5, x2 = Z6
 n5 /\ PCall Tryz.prog 25 [PV.sl n1 f1 es1, PV.sl false true [[Z3 97], [Z3 233], [Z3 98]]] fun v3 => ∃ b, v3 = Zb b /\ if b = true then R (Zb ((bif true then n2 == 1 && (n3 == 2 && (n4 == 2 && true)) else !(n2 == 1 && (n3 == 2
 && (n4 == 2 && true)))) && n5 == 0)) else R (Zb false)
theorem zte  {R : PV -> Prop} (h : zau  R) : PCall Tryz.prog 32 [] R :=
 PCall.of Tryz.func32 (by kernel_rfl) (by kernel_rfl) (zl (by kernel_rfl)) (Eq.mpr (by kernel_rfl : aQ Tryz.prog (fun _ => none) Tryz.f32 [0, 1, 2, 3] (fun _ => none) (Tryz.f32.body.getD .skip) [] R = zau  R) h)

def ziz (n f : Bool) (es : LL) (i j : Int) (n2 f2 : Bool) (ss : LL) (R : PV -> Prop) : Prop :=
 PCall Tryz.prog 13 [PV.sl n f es, Z6 80] fun v => ∃ n1 f1 es1, v = PV.sl n1 f1 es1 /\ PCall Tryz.prog 13 [PV.sl n2 f2 ss, Z6 40] fun v1 => ∃ n3 f3 es2, v1 = PV.sl n3
 f3 es2 /\ PCall Tryz.prog 15 [] fun v2 => ∃ n4 f4 es3, v2 = PV.sl n4 f4 es3 /\ PCall Tryz.prog 16 [PV.sl n4 f4 es3] fun v3 => PCall Tryz.prog 31 [v3, PV.sl n1 f1 es1, Z6 i, Z6 j, PV.sl n3 f3 es2] fun
 (v4 : PV) => ∃ vs, v4 = PV.tup vs /\ vs.length = 3 /\ ∃ x, vs.head? = some x /\ ∃ n5 f5 es4, x = PV.sl n5 f5 es4 /\ ∃ x1, vs.tail.head? = some x1 /\ ∃ cs, x1 = PV.agg cs /\
 cs.length = 3 /\ ∃ n6, cs.head? = some (Z6 n6) /\ ∃ n7, cs.tail.head? = some (Z6 n7) /\ ∃ n8, cs.tail.tail.head? = some (Z6 n8) /\ ∃ x2, vs.tail.tail.head? = some x2 /\ ∃ n9, x2 = Z6 n9 /\ if (decide (i < 0)
 || decide (i > j) || decide (j > (↑es1.length : Int))) = true then if ((↑es4.length : Int) == 0) = true then if ((bif true then n6 == 0 && (n7 == 0 && (n8 == 0 && true)) else !(n6 == 0 && (n7 == 0 && (n8 == 0 && true)))) && n9 == 2) = true
 then PCall Tryz.prog 32 [] fun v5 => ∃ b, v5 = Zb b /\ R (Zb b) else R (Zb false) else R (Zb false) else PCall Tryz.prog 33 [PV.sl n4 f4 es3, PV.sl n1 f1 es1, Z6 i, Z6 j, PV.sl n3 f3 es2] fun v5 => ∃ vs1, v5
 = PV.tup vs1 /\ vs1.length = 4 /\ ∃ x3, vs1.head? = some x3 /\ ∃ n10 f6 es5, x3 = PV.sl n10 f6 es5 /\ ∃ x4, vs1.tail.head? = some x4 /\ ∃ n11, x4 = Z6 n11 /\ ∃ x5, vs1.tail.tail.head? =
 some x5 /\ ∃ n12, x5 = Z6 n12 /\ ∃ x6, vs1.tail.tail.tail.head? = some x6 /\ ∃ n13, x6 = Z6 n13 /\ PCall Tryz.prog 25 [PV.sl n5 f5 es4, PV.sl n10 f6 es5] fun v6 => ∃ b, v6 = Zb b /\ if b = true then if ((bif
 true then n6 == n11 && (n7 == n12 && (n8 == n13 && true)) else !(n6 == n11 && (n7 == n12 && (n8 == n13 && true)))) && n9 == 0) = true then PCall Tryz.prog 32 [] fun v7 => ∃ b1, v7 = Zb b1 /\ R (Zb b1) else R (Zb false) else R
 (Zb false)
theorem ztf (n f : Bool) (es : LL) (i j : Int) (n2 f2 : Bool) (ss : LL) {R : PV -> Prop} (h : ziz n f es i j n2 f2 ss R) : PCall Tryz.prog 7 [.sl n f es, .int .i64 i, .int .i64 j, .sl n2 f2 ss] R :=
 PCall.of Tryz.func7 (by kernel_rfl) (by kernel_rfl) (zl (by kernel_rfl)) (Eq.mpr (by kernel_rfl : aQ Tryz.prog (fun _ => none) Tryz.f7 [0, 1, 2, 3, 8, 9, 10, 11, 12, 13, 14, 15, 16, 45] (fun _ => none) (Tryz.f7.body.getD .skip) [.sl n f es, .int .i64 i, .int .i64 j, .sl n2 f2 ss] R = _) h)

def zi0 (n f : Bool) (es : LL) (i j : Int) (n2 f2 : Bool) (ss : LL) (R : PV -> Prop) : Prop :=
 PCall Tryz.prog 13 [PV.sl n f es, Z6 80] fun v => ∃ n1 f1 es1, v = PV.sl n1 f1 es1 /\ PCall Tryz.prog 13 [PV.sl n2 f2 ss, Z6 40] fun v1 => ∃ n3 f3 es2, v1 = PV.sl n3
 f3 es2 /\ PCall Tryz.prog 15 [] fun v2 => ∃ n4 f4 es3, v2 = PV.sl n4 f4 es3 /\ PCall Tryz.prog 34 [PV.sl n4 f4 es3, PV.sl n1 f1 es1] fun v3 => ∃ n5 f5 es4, v3 = PV.sl
 n5 f5 es4 /\ PCall Tryz.prog 16 [PV.sl n4 f4 es3] fun v4 => PCall Tryz.prog 31 [v4, PV.sl n5 f5 es4, Z6 i, Z6 j, PV.sl n3 f3 es2] fun v5 => ∃ vs, v5 = PV.tup vs /\ vs.length = 3 /\ ∃ x, vs.head? = some x /\ ∃ (n6
 : Bool), ∃ f6 es5, x = PV.sl n6 f6 es5 /\ ∃ x1, vs.tail.head? = some x1 /\ ∃ cs, x1 = PV.agg cs /\ cs.length = 3 /\ ∃ n7, cs.head? = some (Z6 n7) /\ ∃ n8, cs.tail.head? = some (Z6 n8) /\ ∃ (n9
 : Int), cs.tail.tail.head? = some (Z6 n9) /\ ∃ x2, vs.tail.tail.head? = some x2 /\ ∃ n10, x2 = Z6 n10 /\ if (n10 != 0) = true then if (n10 == 2 && (decide (i < 0) || decide (i > j) || decide (j > (↑es4.length : Int)))) = true
 then PCall Tryz.prog 32 [] fun v6 => ∃ b, v6 = Zb b /\ R (Zb b) else R (Zb false) else if decide (n7 < 0) = true then R (Zb false) else if decide (n7 > i) = true then R (Zb false) else if decide (n8 < j) = true then R (Zb
 false) else if decide (n9 < n7) = true then R (Zb false) else if decide (n9 > (↑es5.length : Int)) = true then R (Zb false) else if (i64.wrap ((↑es4.length : Int) - n8) != i64.wrap ((↑es5.length : Int) - n9)) = true then R
 (Zb false) else PCall Tryz.prog 35 [PV.sl n4 f4 es3, PV.sl n5 f5 es4, Z6 i, Z6 j, PV.sl n3 f3 es2] fun v6 => ∃ n11 f7 es6, v6 = PV.sl n11 f7 es6 /\ PCall Tryz.prog 25 [PV.sl n6 f6 es5, PV.sl n11 f7 es6]
 fun v7 => ∃ b, v7 = Zb b /\ if b = true then (cR es5.length none (some n7) none /\ aM es5 1) /\ (cR es4.length none (some n7) none /\ aM es4 1) /\ PCall Tryz.prog 25 [PV.sl n6 (f6 && decide (n7 = (↑es5.length : Int)))
 (List.drop 0 (List.take n7.toNat es5)), PV.sl n5 (f5 && decide (n7 = (↑es4.length : Int))) (List.drop 0 (List.take n7.toNat es4))] fun v8 => ∃ b1, v8 = Zb b1 /\ if b1 = true then (cR es5.length (some n9) none none /\ aM es5
 1) /\ (cR es4.length (some n8) none none /\ aM es4 1) /\ PCall Tryz.prog 25 [PV.sl n6 (f6 && decide ((↑es5.length : Int) = (↑es5.length : Int))) (List.drop n9.toNat (List.take (↑es5.length : Int).toNat es5)), PV.sl n5 (f5 && decide
 ((↑es4.length : Int) = (↑es4.length : Int))) (List.drop n8.toNat (List.take (↑es4.length : Int).toNat es4))] fun v9 => ∃ b2, v9 = Zb b2 /\ if b2 = true then PCall Tryz.prog 32 [] fun v10 => ∃ b3, v10 = Zb b3 /\ R
 (Zb b3) else R (Zb false) else R (Zb false) else R (Zb false)
theorem ztg (n f : Bool) (es : LL) (i j : Int) (n2 f2 : Bool) (ss : LL) {R : PV -> Prop} (h : zi0 n f es i j n2 f2 ss R) : PCall Tryz.prog 8 [.sl n f es, .int .i64 i, .int .i64 j, .sl n2 f2 ss] R :=
 PCall.of Tryz.func8 (by kernel_rfl) (by kernel_rfl) (zl (by kernel_rfl)) (Eq.mpr (by kernel_rfl : aQ Tryz.prog (fun _ => none) Tryz.f8 [0, 1, 2, 3, 8, 9, 10, 11, 12, 13, 34, 96] (fun _ => none) (Tryz.f8.body.getD .skip) [.sl n f es, .int .i64 i, .int .i64 j, .sl n2 f2 ss] R = _) h)

end Go.Eng



namespace Go.Eng
open Go Go.Proofs Go.Eng.Rows Go.Eng.Trie Go.Eng.Srt
theorem zth {n : Int} (h0 : 0 <= n) (h1 : n <= 1000000000000) : ACall Tryz.prog 98 [.pv (.sl true true []), .pv (.int .i64 n)] [] fun r h' => ∃ nl, r = .own 0 /\ h' = [.sl (21, 1) false nl []] := by
 have hc : (match Tryz.prog.info? 21 with | some ti => (match ti.zero with | some z => (Nat.beq ti.size 1 && (Nat.beq ti.bytes 4 && Nat.beq z.cells.size 1)) | none => false) | none => false) = true := by kernel_rfl
 have hz : ∃ ti z, Tryz.prog.info? 21 = some ti /\ ti.zero = some z /\ ti.size = 1 /\ ti.bytes = 4 /\ z.cells.size = 1 := by
  split at hc
  ·rename_i ti hti
   split at hc
   ·rename_i z hz
    simp only [Bool.and_eq_true] at hc
    exact ⟨ti, z, hti, hz, Nat.eq_of_beq_eq_true hc.1, Nat.eq_of_beq_eq_true hc.2.1, Nat.eq_of_beq_eq_true hc.2.2⟩
   ·cases hc
  ·cases hc
 obtain ⟨ti, z, k1, k2, k3, k4, k5⟩ := hz
 have := zs5 Tryz.growRune ⟨_, Tryz.func98, by kernel_rfl, by kernel_rfl⟩ 21 (by kernel_rfl) ti z k1 k2 (by omega) (by omega) n.toNat (by rw [k4]; omega) (by omega)
 rw [k3, show ((n.toNat : Nat) : Int) = n by omega] at this
 exact this
def iK (p : Bool × Bool × List Int) : List PV := [.sl p.1 p.2.1 (aA p.2.2)]
def eQ (ls : List (Bool × Bool × List Int)) : Nat := (ls.map fun p => p.2.2.length).sum
theorem zi1 {ls : List (Bool × Bool × List Int)} {i : Nat} (h : i < ls.length) : eQ (ls.take (i + 1)) = eQ (ls.take i) + ls[i].2.2.length := by
 unfold eQ; rw [c9 h, List.map_append, List.sum_append]; simp only [List.map_cons, List.map_nil, List.sum_cons, List.sum_nil, Nat.add_zero]
theorem zav {ls : List (Bool × Bool × List Int)} (i : Nat) : eQ (ls.take i) <= eQ ls := by
 have h : eQ ls = eQ (ls.take i) + eQ (ls.drop i) := by
  unfold eQ; rw [<- List.sum_append, <- List.map_append, List.take_append_drop]
 omega
theorem zti (ls : List (Bool × Bool × List Int)) : (ls.flatMap fun p => p.2.2).length = eQ ls := by
 unfold eQ; rw [List.length_flatMap]
theorem ztj (n f : Bool) (ls : List (Bool × Bool × List Int)) (hn : ls.length < 1000) (hs : eQ ls <= 1000000000) : PCall Tryz.prog 69 [.sl n f (ls.map iK)] fun x => ∃ n f, x = .sl n f (aA (ls.flatMap fun p => p.2.2)) := by
 refine zs6 _ _ _ (fun s i => (0 <= i /\ i <= ls.length) /\ s = (eQ (ls.take i.toNat) : Nat)) (fun _ i => ls.length - i.toNat) (fun i _ s => (0 <= i /\ i <= ls.length) /\ s = aA ((ls.take i.toNat).flatMap fun p => p.2.2)) (fun i _ _ => ls.length - i.toNat) ?_
 unfold zir
 have hl : ((ls.map iK).length : Int) = ls.length := by rw [List.length_map]
 rw [hl]
 refine ⟨⟨rfl, ⟨Int.le_refl _, by omega⟩, rfl⟩, ?_⟩
 rintro _ i ⟨⟨i0, i1⟩, rfl⟩
 have hle := zav (ls := ls) i.toNat
 refine aF (fun hc => ?_) (fun hc => ?_)
 ·simp only [decide_eq_true_eq] at hc
  have hi : i.toNat < ls.length := by omega
  have hix : aJ (ls.map iK) i 1 := bU (enc := iK) (fun _ => rfl) i0 (by omega)
  have hg : (ls.map iK).getD i.toNat [] = iK ls[i.toNat] := cJ hi
  have hw : i64.wrap (i + 1) = i + 1 := aD (by omega) (by omega)
  have hst := zi1 hi
  have hle2 := zav (ls := ls) (i.toNat + 1)
  refine ⟨hix, _, _, _, by rw [hg]; rfl, ?_⟩
  rw [aX]
  have hw2 : i64.wrap ((eQ (ls.take i.toNat) : Nat) + (ls[i.toNat].2.2.length : Int)) = (eQ (ls.take (i.toNat + 1)) : Nat) := by
   rw [hst, aD (by omega) (by omega)]; omega
  rw [hw2, hw]
  exact bC (by simp) ⟨rfl, ⟨⟨by omega, by omega⟩, by rw [show (i + 1).toNat = i.toNat + 1 by omega]⟩, by dsimp only; omega⟩
 ·refine (zth (by omega) (by omega)).mono ?_
  rintro r h' ⟨nl, rfl, rfl⟩
  refine ⟨nl, ⟨rfl, rfl⟩, trivial, ⟨rfl, ⟨Int.le_refl _, by omega⟩, rfl⟩, ?_⟩
  clear hc hle i0 i1 i
  rintro i n0 _ ⟨⟨i0, i1⟩, rfl⟩
  refine aF (fun hc => ?_) (fun hc => ?_)
  ·simp only [decide_eq_true_eq] at hc
   have hi : i.toNat < ls.length := by omega
   have hix : aJ (ls.map iK) i 1 := bU (enc := iK) (fun _ => rfl) i0 (by omega)
   have hg : (ls.map iK).getD i.toNat [] = iK ls[i.toNat] := cJ hi
   have hw : i64.wrap (i + 1) = i + 1 := aD (by omega) (by omega)
   have hst := zi1 hi
   have hle2 := zav (ls := ls) (i.toNat + 1)
   have hfl := zti (ls.take i.toNat)
   refine ⟨hix, _, _, _, by rw [hg]; rfl, ⟨cA _, by rw [aX, aX]; omega⟩, ?_⟩
   rw [hw]
   refine ⟨rfl, ⟨⟨by omega, by omega⟩, ?_⟩, by dsimp only; omega⟩
   rw [show (i + 1).toNat = i.toNat + 1 by omega, c9 hi, List.flatMap_append, fG]; simp
  ·simp only [decide_eq_true_eq] at hc
   rw [List.take_of_length_le (by omega)]
   exact ⟨_, _, rfl⟩
theorem zi2 (n1 f1 n2 f2 n3 f3 : Bool) (a b c : List Int) (h : a.length + b.length + c.length <= 1000000000) : PCall Tryz.prog 69 [.sl false true [[.sl n1 f1 (aA a)], [.sl n2 f2 (aA b)], [.sl n3 f3 (aA c)]]] fun x => ∃ n f, x = .sl n f (aA (a ++ (b ++ c))) := by
 have := ztj false true [(n1, f1, a), (n2, f2, b), (n3, f3, c)] (by simp) (by simp [eQ]; omega)
 simpa [iK] using this
section
variable {rows : List Row} {v : PV}
theorem qP {L : List Int} {i : Nat} (h : i < L.length) : L.getD i 0 = L[i] := by simp [List.getD, h]
theorem ztk (hp : bP rows) (h1 : cN rows) (hv : gU rows v) (n f : Bool) (L : List Int) (hr : R32 L) (hL : L.length < 1000000) (k : Int) (k0 : 0 <= k) (k1 : k <= L.length) : PCall Tryz.prog 67 [v, .sl n f (aA L), .int .i64 k] fun x => x = .int .i64 (bQ rows L k.toNat : Nat) := by
 have hv' := hv
 obtain ⟨tc, tg, tj, tf, tp, made, sec, rfl, ht, hm⟩ := hv
 refine zs8 _ _ _ _ _ _ _ _ _ _ _ (fun x => (0 <= x /\ x < k) /\ bQ rows L k.toNat = bQ rows L (x.toNat + 1)) (fun x => x.toNat) ?_
 unfold zit
 refine aF (fun hc => ?_) (fun hc => ?_)
 ·simp only [beq_iff_eq] at hc; subst hc; rfl
 simp only [beq_iff_eq] at hc
 have hw : i64.wrap (k - 1) = k - 1 := aD (by omega) (by omega)
 rw [hw]
 refine ⟨⟨rfl, ⟨by omega, by omega⟩, by rw [show (k - 1).toNat + 1 = k.toNat by omega]⟩, ?_⟩
 rintro x ⟨⟨x0, x1⟩, hb⟩
 have hwx : i64.wrap (x - 1) = x - 1 := aD (by omega) (by omega)
 rw [hwx]
 have hi : x.toNat < L.length := by omega
 refine aF (fun hc2 => ?_) (fun hc2 => ?_)
 ·simp only [decide_eq_true_eq, gt_iff_lt] at hc2
  obtain ⟨g1, g2⟩ := eL x0 hi
  refine ⟨g1, L[x.toNat], by rw [g2]; rfl, ?_⟩
  refine (zin hp h1 hv' (hr _ (List.getElem_mem hi))).mono ?_
  rintro _ rfl
  refine ⟨_, rfl, ?_⟩
  have hstep : bQ rows L (x.toNat + 1) = if cH rows L[x.toNat] = true then x.toNat else bQ rows L x.toNat := by
   rw [bQ, qP hi]
   simp [show x.toNat ≠ 0 by omega]
  cases hst : cH rows L[x.toNat] with
  | true =>
    refine bC (by simp) ?_
    rw [hb, hstep, hst, if_pos rfl, show ((x.toNat : Nat) : Int) = x by omega]
  | false =>
    refine a8 (by simp) ⟨rfl, ⟨⟨by omega, by omega⟩, ?_⟩, by dsimp only; omega⟩
    rw [hb, hstep, hst, if_neg (by simp), show (x - 1).toNat + 1 = x.toNat by omega]
 ·simp only [decide_eq_true_eq, gt_iff_lt] at hc2
  have : x = 0 := by omega
  subst this
  rw [hb]
  simp [bQ]
theorem qOn (hp : bP rows) (h1 : cN rows) (hv : gU rows v) (n f : Bool) (L : List Int) (hr : R32 L) (hL : L.length < 1000000) (k : Int) (k0 : 0 <= k) (k1 : k <= L.length) : PCall Tryz.prog 68 [v, .sl n f (aA L), .int .i64 k] fun x => x = .int .i64 (bS rows L k.toNat (L.length - k.toNat) : Nat) := by
 have hv' := hv
 obtain ⟨tc, tg, tj, tf, tp, made, sec, rfl, ht, hm⟩ := hv
 refine zs9 _ _ _ _ _ _ _ _ _ _ _ (fun x => (0 <= x /\ x <= L.length) /\ bS rows L k.toNat (L.length - k.toNat) = bS rows L x.toNat (L.length - x.toNat)) (fun x => L.length - x.toNat) ?_
 unfold ziu
 refine ⟨⟨rfl, ⟨k0, k1⟩, rfl⟩, ?_⟩
 rintro x ⟨⟨x0, x1⟩, hb⟩
 have hw : i64.wrap (x + 1) = x + 1 := aD (by omega) (by omega)
 rw [hw]
 refine aF (fun hc2 => ?_) (fun hc2 => ?_)
 ·simp only [decide_eq_true_eq, aX] at hc2
  have hi : x.toNat < L.length := by omega
  obtain ⟨g1, g2⟩ := eL x0 hi
  refine ⟨g1, L[x.toNat], by rw [g2]; rfl, ?_⟩
  refine (zin hp h1 hv' (hr _ (List.getElem_mem hi))).mono ?_
  rintro _ rfl
  refine ⟨_, rfl, ?_⟩
  have hstep : bS rows L x.toNat (L.length - x.toNat) = if cH rows L[x.toNat] = true then x.toNat else bS rows L (x.toNat + 1) (L.length - (x.toNat + 1)) := by
   rw [show L.length - x.toNat = (L.length - (x.toNat + 1)) + 1 by omega, bS, qP hi]
  cases hst : cH rows L[x.toNat] with
  | true =>
    refine bC (by simp) ?_
    rw [hb, hstep, hst, if_pos rfl, show ((x.toNat : Nat) : Int) = x by omega]
  | false =>
    refine a8 (by simp) ⟨rfl, ⟨⟨by omega, by omega⟩, ?_⟩, by dsimp only; omega⟩
    rw [hb, hstep, hst, if_neg (by simp), show (x + 1).toNat = x.toNat + 1 by omega]
 ·simp only [decide_eq_true_eq, aX] at hc2
  have : x.toNat = L.length := by omega
  rw [hb, this, Nat.sub_self]
  show _ = PV.int .i64 ((L.length : Nat) : Int)
  rw [show (L.length : Int) = x by omega]
theorem qQ (L : List Int) (k : Nat) : List.drop 0 (List.take k (aA L)) = aA (L.take k) := by simp [aA]
theorem zaw (L : List Int) (k : Nat) : List.drop k (List.take ((aA L).length : Int).toNat (aA L)) = aA (L.drop k) := by
 rw [Int.toNat_natCast, List.take_length]; simp [aA]
theorem qR {len : Nat} {j : Int} (h0 : 0 <= j) (h2 : j <= len) : cR len none (some j) none := ⟨Int.le_refl _, h0, h2, trivial⟩
theorem qS {len : Nat} {i : Int} (h0 : 0 <= i) (h2 : i <= len) : cR len (some i) none none := ⟨h0, h2, Int.le_refl _, trivial⟩
def ztl (rows : List Row) (L : List Int) (i j : Nat) (ins : List Int) (n f : Bool) : PV := .tup [.sl n f (aA (i7 rows L i j ins)), .agg [.int .i64 (bQ rows L i : Nat), .int .i64 (bS rows L j (L.length - j) : Nat), .int .i64 ((bQ rows L i + (bM rows (dD rows L i j ins)).length : Nat) : Int)], .int .i64 0]
theorem uV (rows : List Row) (L : List Int) (i j : Nat) (ins : List Int) : (dD rows L i j ins).length <= L.length + ins.length + L.length := by
 unfold dD
 have h1 := nT L (bQ rows L i) i
 have h2 := nT L j (bS rows L j (L.length - j))
 rw [List.length_append, List.length_append]; omega
theorem zax (hp : bP rows) (h1 : cN rows) (hk : fA rows) (hv : gU rows v) (n f n2 f2 : Bool) (L ins : List Int) (hr : R32 L) (hL : L.length < 100000) (hr2 : R32 ins) (hL2 : ins.length < 100000) (i j : Int) :
 PCall Tryz.prog 31 [v, .sl n f (aA L), .int .i64 i, .int .i64 j, .sl n2 f2 (aA ins)] fun x => if (0 <= i /\ i <= j) /\ j <= L.length then ∃ n f, x = ztl rows L i.toNat j.toNat ins n f else x = .tup [.sl true true [], .agg [.int .i64 0, .int .i64 0, .int .i64 0], .int .i64 2] := by
 have hv' := hv
 obtain ⟨tc, tg, tj, tf, tp, made, sec, rfl, ht, hm⟩ := hv
 refine zs7 _ _ _ _ _ _ _ _ _ _ _ _ _ _ _ ?_; unfold zis
 have hl : ((aA L).length : Int) = L.length := by rw [aX]
 refine aF (fun hc => ?_) (fun hc => ?_)
 ·simp only [Bool.or_eq_true, decide_eq_true_eq, gt_iff_lt, hl] at hc
  dsimp only
  rw [if_neg (by omega)]
 ·simp only [Bool.or_eq_true, decide_eq_true_eq, gt_iff_lt, hl] at hc
  have hcond : (0 <= i /\ i <= j) /\ j <= (L.length : Int) := by omega
  refine (ztk hp h1 hv' n f L hr (by omega) i (by omega) (by omega)).mono ?_
  rintro _ rfl
  refine ⟨_, rfl, ?_⟩
  refine (qOn hp h1 hv' n f L hr (by omega) j (by omega) (by omega)).mono ?_
  rintro _ rfl
  refine ⟨_, rfl, ?_⟩
  obtain ⟨a1, a2, a3⟩ := nU rows L i.toNat
  obtain ⟨b1, b2, b3⟩ := qN rows L (L.length - j.toNat) j.toNat
  have hmid := uV rows L i.toNat j.toNat ins
  have hnl := qL hk (dD rows L i.toNat j.toNat ins)
  have hs1 := nT L (bQ rows L i.toNat) i.toNat
  have hs2 := nT L j.toNat (bS rows L j.toNat (L.length - j.toNat))
  have hmr : R32 (dD rows L i.toNat j.toNat ins) := fun x hx => by
   unfold dD at hx
   rcases List.mem_append.1 hx with hx | hx
   ·exact (hr.sub _ _) x hx
   ·rcases List.mem_append.1 hx with hx | hx
    ·exact hr2 x hx
    ·exact (hr.sub _ _) x hx
  have key : ∀ (a b : Nat), a = bQ rows L i.toNat -> b = bS rows L j.toNat (L.length - j.toNat) -> True := fun _ _ _ _ => trivial
  simp only [Int.toNat_natCast]
  refine ⟨⟨uQ (by omega) (by omega) (by rw [hl]; omega), cA _⟩, ⟨uQ (by omega) (by omega) (by rw [hl]; omega), cA _⟩, ?_⟩
  rw [uR, uR]
  refine (zi2 _ _ _ _ _ _ _ _ _ (by omega)).mono ?_
  rintro _ ⟨n3, f3, rfl⟩
  refine ⟨_, _, _, rfl, ?_⟩
  refine (zsa hp h1 hk hv' _ _ (dD rows L i.toNat j.toNat ins) hmr (by omega)).mono ?_
  rintro _ ⟨n4, f4, rfl⟩
  refine ⟨_, _, _, rfl, ⟨qR (by omega) (by rw [hl]; omega), cA _⟩, ⟨qS (by omega) (by rw [hl]; omega), cA _⟩, ?_⟩
  rw [qQ, <- Int.toNat_natCast (aA L).length, Int.toNat_natCast, List.take_length]
  have hdr : List.drop (bS rows L j.toNat (L.length - j.toNat)) (aA L) = aA (L.drop (bS rows L j.toNat (L.length - j.toNat))) := by simp [aA]
  rw [hdr]
  refine (zi2 _ _ _ _ _ _ _ _ _ (by rw [List.length_take, List.length_drop]; omega)).mono ?_
  rintro _ ⟨n5, f5, rfl⟩
  refine ⟨_, _, _, rfl, ?_⟩
  rw [if_pos hcond]
  refine ⟨n5, f5, ?_⟩
  have hw : i64.wrap (((bQ rows L i.toNat : Nat) : Int) + ((aA (bM rows (dD rows L i.toNat j.toNat ins))).length : Int)) = ((bQ rows L i.toNat + (bM rows (dD rows L i.toNat j.toNat ins)).length : Nat) : Int) := by
   rw [aX, aD (by omega) (by omega)]; omega
  rw [hw]; rfl
end
end Go.Eng



namespace Go.Eng
open Go Go.Proofs Go.Eng.Rows Go.Eng.Trie Go.Eng.Srt
theorem l1' : i7 tab [97, 101, 98] 2 2 [769] = [97, 233, 98] := by kernel_rfl
theorem l2' : bQ tab [97, 101, 98] 2 = 1 := by kernel_rfl
theorem l3' : bS tab [97, 101, 98] 2 1 = 2 := by kernel_rfl
theorem l4' : bM tab (dD tab [97, 101, 98] 2 2 [769]) = [233] := by kernel_rfl
theorem awake9 : PCall Tryz.prog 32 [] fun v => v = .bool true := by
 refine zte ?_; unfold zau
 refine p42.mono ?_
 rintro _ ⟨n, f, rfl⟩
 refine ⟨_, _, _, rfl, ?_⟩
 refine (zah n f).mono fun t ht => ?_
 have := zax iI iJ gW ht false true false true [97, 101, 98] [769] (fun x hx => by simp at hx; omega) (by simp) (fun x hx => by simp at hx; omega) (by simp) 2 2
 refine this.mono ?_
 intro x hx
 rw [if_pos (by simp)] at hx
 obtain ⟨n1, f1, rfl⟩ := hx
 refine ⟨_, rfl, rfl, _, rfl, _, _, _, rfl, _, rfl, _, rfl, rfl, _, rfl, _, rfl, _, rfl, _, rfl, _, rfl, ?_⟩
 rw [show (2 : Int).toNat = 2 from rfl, l1']
 refine (qM _ _ _ _ [97, 233, 98] [97, 233, 98] (by simp)).mono ?_
 rintro _ rfl
 refine ⟨_, rfl, a8 (by simp) ?_⟩
 rw [show ([97, 101, 98] : List Int).length - 2 = 1 from rfl, l2', l3', l4']
 rfl
end Go.Eng



namespace Go.Eng.Rows
open Go Go.Eng Go.Eng.Trie Go.Eng.Srt
section
variable {rows : List Row}
theorem ztm {r : Int} (h : dA rows r = false) (hn : aH rows r ≠ (0, 0)) : (aH rows r).2 ≠ 0 /\ aC rows 1 r = 0 /\ aC rows 1 (aH rows r).1 = 0 := by
 unfold dA at h
 simp [hn] at h
 exact ⟨h.1, h.2.2.1, h.2.2.2⟩
theorem ztn (h1 : cN rows) (hks : ∀ r, bG r = true -> aC rows 1 r = 0) {a b c : Int} (h : dX rows a b = some c) : aC rows 1 c = 0 := by
 unfold dX at h
 split at h
 ·rename_i s hj; cases h; exact hks _ (zai hj)
 ·obtain ⟨q1, q2, q3, _⟩ := uM h1 h
  exact (ztm q3 (by rw [q1]; intro e; exact q2 (Prod.mk.inj e).2)).2.1
theorem zto (h1 : cN rows) (hks : ∀ r, bG r = true -> aC rows 1 r = 0) (d : List Int) : ∀ a, (bB rows d).s = some a -> aC rows 1 a = 0 := by
 induction d using fV with
 | h0 => intro a h; cases h
 | h1 d r ih =>
   rw [fH]
   rcases nS rows (bB rows d) r with e | ⟨b, c, hs, hp, _, e⟩
   ·rw [e]
    unfold bX
    split
    ·rename_i h0; intro a h; cases h; exact h0
    ·exact ih
   ·rw [e]
    intro a h; cases h; exact ztn h1 hks hp
end
end Go.Eng.Rows


