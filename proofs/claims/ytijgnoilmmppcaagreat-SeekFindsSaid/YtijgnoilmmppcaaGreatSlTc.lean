/- States run over the code: what each function gives, and what follows. -/
import Derived.Test.YtijgnoilmmppcaaGreatSlTb
open Go.IntKind (i64 i32)
set_option linter.unusedVariables false
set_option linter.unusedSimpArgs false
set_option maxRecDepth 100000
set_option linter.constructorNameAsVariable false
namespace Go.Eng
open Go Go.Proofs Go.Eng.Rows Go.Eng.Srt
def iP (key : Int -> Int) (nl : Bool) (T : PV) (P S R : List Int) (r : LV) (h' : Hp) : Prop := ∃ S' : List Int, r = .tup [] /\ h' = [.sl (21, 1) false nl (aA (P ++ (S' ++ R))), .box [.pv T]] /\ Srtd key S' /\ Stab key S S'
section
variable {key : Int -> Int} {T : PV}
theorem qA {i j : Int} (h0 : 0 <= i) (h1 : i <= j) (h2 : j <= 1000000000000) : i64.wrap ((IntKind.u64.wrap (i64.wrap (i + j))).fdiv (2 ^ 1)) = (i + j) / 2 := zeb h0 h1 (by omega)
theorem zo8 (hc : iO T key) (lo hi : Nat) (nl : Bool) (P Y R : List Int) (x : Int) (a m b : Int) (ha : 0 <= a) (hP : P.length = lo + a.toNat) (hm : m = a + 1) (hb : b = m + Y.length) (hhi : (lo : Int) + b <= hi) (hr : R32 (P ++ ([x] ++ (Y ++ R)))) (hlen : hi < 1000000000000) (hY : Srtd key Y) :
 ACall Tryz.prog 175 [.sub 0 lo hi, .pv (.int .i64 a), .pv (.int .i64 m), .pv (.int .i64 b), .fn 145 [.box 1 0]] [.sl (21, 1) false nl (aA (P ++ ([x] ++ (Y ++ R)))), .box [.pv T]] (iP key nl T P ([x] ++ Y) R) := by
 have hat : ∀ h : Int, m <= h -> h < b -> (P ++ ([x] ++ (Y ++ R)))[lo + h.toNat]? = some (Y.getD (h - m).toNat 0) := fun h h1 h2 => by
  have e : P ++ ([x] ++ (Y ++ R)) = (P ++ [x]) ++ (Y ++ R) := by simp
  rw [e, List.getElem?_append_right (by simp; omega), show lo + h.toNat - (P ++ [x]).length = (h - m).toNat by simp; omega, List.getElem?_append_left (by omega)]
  exact p9 (by omega)
 have hax : (P ++ ([x] ++ (Y ++ R)))[lo + a.toNat]? = some x := by rw [<- hP]; exact nG P (Y ++ R) x
 refine wI _ _ _ _ _ _ _ _
  (fun i j s => s = aA (P ++ ([x] ++ (Y ++ R))) /\ m <= i /\ i <= j /\ j <= b /\ (∀ h, m <= h -> h < i -> key (Y.getD (h - m).toNat 0) < key x) /\ (∀ h, j <= h -> h < b -> ¬ key (Y.getD (h - m).toNat 0) < key x)) (fun i j _ => (j - i).toNat)
  (fun i k s => m <= i /\ i <= b /\ (∀ h, m <= h -> h < i -> key (Y.getD (h - m).toNat 0) < key x) /\ (∀ h, i <= h -> h < b -> ¬ key (Y.getD (h - m).toNat 0) < key x) /\ a <= k /\ k <= i - 1 /\ s = aA (P ++ (Y.take (k - a).toNat ++ (x :: (Y.drop (k - a).toNat ++ R))))) (fun i k _ => (i - 1 - k).toNat)
  (fun _ _ _ => True) (fun _ _ _ => 0) (fun _ _ _ => True) (fun _ _ _ => 0) (fun _ _ _ => True) (fun _ _ _ => 0) ?_
 unfold sQ
 have w1 : i64.wrap (m - a) = 1 := by rw [aD (by omega) (by omega)]; omega
 refine bB (by rw [w1]; rfl) ⟨⟨rfl, rfl, Int.le_refl _, by omega, Int.le_refl _, fun h h1 h2 => by omega, fun h h1 h2 => by omega⟩, ?_⟩
 rintro i j _ ⟨rfl, i0, hij, hjb, hlt, hge⟩
 refine aF (fun hc1 => ?_) (fun hc1 => ?_)
 ·simp only [decide_eq_true_eq] at hc1
  rw [qA (by omega) (by omega) (by omega)]
  obtain ⟨h, hh⟩ : ∃ h, h = (i + j) / 2 := ⟨_, rfl⟩
  rw [<- hh]
  have b1 : i <= h /\ h < j := by omega
  have gy := hat h (by omega) (by omega)
  have wh : i64.wrap (h + 1) = h + 1 := aD (by omega) (by omega)
  rw [wh]
  refine ⟨⟨by omega, by omega, by rw [cQ gy]; rfl⟩, _, by rw [cQ gy]; rfl, ⟨by omega, by omega, by rw [cQ hax]; rfl⟩, x, by rw [cQ hax]; rfl, ?_⟩
  refine (hc _ x (kP hr gy) (kP hr hax)).mono ?_
  rintro _ ⟨n2, rfl, hn2⟩
  refine ⟨n2, rfl, rfl, aF (fun hl => ?_) (fun hl => ?_)⟩
  ·simp only [decide_eq_true_eq] at hl
   have hk := hn2.1 hl
   refine ⟨rfl, ⟨rfl, by omega, by omega, by omega, fun q q1 q2 => ?_, hge⟩, by dsimp only; omega⟩
   have := hY.get (i := (q - m).toNat) (j := (h - m).toNat) (by omega) (by omega)
   omega
  ·simp only [decide_eq_true_eq] at hl
   have hk : ¬ key (Y.getD (h - m).toNat 0) < key x := fun h => hl (hn2.2 h)
   refine ⟨rfl, ⟨rfl, by omega, by omega, by omega, hlt, fun q q1 q2 => ?_⟩, by dsimp only; omega⟩
   have := hY.get (i := (h - m).toNat) (j := (q - m).toNat) (by omega) (by omega)
   omega
 ·simp only [decide_eq_true_eq] at hc1
  have : i = j := by omega
  subst this
  refine ⟨⟨rfl, i0, hjb, hlt, hge, Int.le_refl _, by omega, by simp⟩, ?_⟩
  clear hc1 hij hjb hlt hge i0
  rintro i k _ ⟨i0, ib, hlt, hge, k0, k1, rfl⟩
  have wi : i64.wrap (i - 1) = i - 1 := aD (by omega) (by omega)
  rw [wi]
  refine aF (fun hc2 => ?_) (fun hc2 => ?_)
  ·simp only [decide_eq_true_eq] at hc2
   have wk : i64.wrap (k + 1) = k + 1 := aD (by omega) (by omega)
   rw [wk]
   have hlk : (k - a).toNat < Y.length := by omega
   have hn : (k + 1 - a).toNat = (k - a).toNat + 1 := by omega
   have dy : Y.drop (k - a).toNat = Y[(k - a).toNat] :: Y.drop ((k - a).toNat + 1) := List.drop_eq_getElem_cons hlk
   have ty : Y.take ((k - a).toNat + 1) = Y.take (k - a).toNat ++ [Y[(k - a).toNat]] := c5 hlk
   have lt : (Y.take (k - a).toNat).length = (k - a).toNat := by rw [List.length_take]; omega
   obtain ⟨D, hDe⟩ : ∃ D, D = P ++ (Y.take (k - a).toNat ++ (x :: (Y.drop (k - a).toNat ++ R))) := ⟨_, rfl⟩
   have hRD : R32 D := fun y hy => hr y (by
    rw [hDe] at hy
    simp only [List.mem_append, List.mem_cons] at hy ⊢
    rcases hy with hy | hy | hy | hy | hy
    ·exact .inl hy
    ·exact .inr (.inr (.inl (List.mem_of_mem_take hy)))
    ·exact .inr (.inl (by simp [hy]))
    ·exact .inr (.inr (.inl (List.mem_of_mem_drop hy)))
    ·exact .inr (.inr (.inr hy)))
   rw [<- hDe]
   have hD : D = (P ++ Y.take (k - a).toNat) ++ x :: Y[(k - a).toNat] :: (Y.drop ((k - a).toNat + 1) ++ R) := by rw [hDe, dy]; simp only [List.append_assoc, List.cons_append, List.nil_append]
   have hk0 : lo + k.toNat = (P ++ Y.take (k - a).toNat).length := by rw [List.length_append, lt]; omega
   have hk1 : lo + (k + 1).toNat = (P ++ Y.take (k - a).toNat).length + 1 := by rw [List.length_append, lt]; omega
   have gx : D[lo + k.toNat]? = some x := by rw [hD, hk0, nG]
   have gy : D[lo + (k + 1).toNat]? = some Y[(k - a).toNat] := by rw [hD, hk1, List.getElem?_append_right (by omega)]; simp
   have hsw : (D.set (lo + k.toNat) Y[(k - a).toNat]).set (lo + (k + 1).toNat) x = P ++ (Y.take (k + 1 - a).toNat ++ (x :: (Y.drop (k + 1 - a).toNat ++ R))) := by
    rw [hD, hk0, hk1, zo4, hn, ty]; simp only [List.append_assoc, List.cons_append, List.nil_append]
   obtain ⟨t1, t2, t3, t4⟩ := tG D gx gy (by omega) Y[(k - a).toNat] x
   rw [hsw] at t1
   have hla : 1 <= ((aA D).getD (lo + k.toNat) []).length := by rw [t2]; exact Nat.le_refl _
   refine ⟨⟨by omega, by omega, t3⟩, Y[(k - a).toNat], by rw [cQ gy]; rfl, ⟨by omega, by omega, t2⟩, x, by rw [cQ gx]; rfl, ⟨by omega, by omega, t2⟩, ?_⟩
   refine ⟨?_, ?_⟩
   all_goals exact ⟨⟨rfl, hla⟩, ⟨by omega, by omega, t4⟩, ⟨rfl, by rw [t4]; exact Nat.le_refl _⟩, rfl, ⟨i0, ib, hlt, hge, by omega, by omega, t1⟩, by dsimp only; omega⟩
  ·simp only [decide_eq_true_eq] at hc2
   have hk : (k - a).toNat = (i - m).toNat := by omega
   rw [hk]
   have h1 : ∀ y ∈ Y.take (i - m).toNat, key y < key x := fun y hy => by
    obtain ⟨q, hq, rfl⟩ := kQ hy
    rw [List.length_take] at hq
    have e : (Y.take (i - m).toNat).getD q 0 = Y.getD q 0 := by simp only [List.getD]; rw [List.getElem?_take_of_lt (by omega)]
    rw [e]
    have := hlt (m + q) (by omega) (by omega)
    rwa [show (m + (q : Int) - m).toNat = q by omega] at this
   have h2 : ∀ y ∈ Y.drop (i - m).toNat, key x <= key y := fun y hy => by
    obtain ⟨q, hq, rfl⟩ := kQ hy
    rw [List.length_drop] at hq
    have e : (Y.drop (i - m).toNat).getD q 0 = Y.getD ((i - m).toNat + q) 0 := by simp only [List.getD, List.getElem?_drop]
    rw [e]
    have := hge (i + q) (by omega) (by omega)
    rw [show (i + (q : Int) - m).toNat = (i - m).toNat + q by omega] at this
    omega
   have hYs : Srtd key (Y.take (i - m).toNat ++ Y.drop (i - m).toNat) := by rw [List.take_append_drop]; exact hY
   refine ⟨Y.take (i - m).toNat ++ x :: Y.drop (i - m).toNat, rfl, by simp, zf9 hYs (fun y hy => Int.le_of_lt (h1 y hy)) h2, ?_⟩
   have := Stab.rot1 (key := key) (u := []) (v := Y.drop (i - m).toNat) (a := [x]) (b := Y.take (i - m).toNat) (fun p hp q hq => by simp at hp; subst hp; have := h1 q hq; omega)
   simpa using this
end
end Go.Eng



namespace Go.Eng
open Go Go.Proofs Go.Eng.Rows Go.Eng.Srt
section
variable {key : Int -> Int} {T : PV}
theorem zo9 (hc : iO T key) (lo hi : Nat) (nl : Bool) (P X R : List Int) (y : Int) (a m b : Int) (ha : 0 <= a) (hP : P.length = lo + a.toNat) (hm : m = a + X.length) (hX1 : X.length ≠ 1) (hb : b = m + 1) (hhi : (lo : Int) + b <= hi) (hr : R32 (P ++ (X ++ ([y] ++ R)))) (hlen : hi < 1000000000000) (hX : Srtd key X) :
 ACall Tryz.prog 175 [.sub 0 lo hi, .pv (.int .i64 a), .pv (.int .i64 m), .pv (.int .i64 b), .fn 145 [.box 1 0]] [.sl (21, 1) false nl (aA (P ++ (X ++ ([y] ++ R)))), .box [.pv T]] (iP key nl T P (X ++ [y]) R) := by
 have hat : ∀ h : Int, a <= h -> h < m -> (P ++ (X ++ ([y] ++ R)))[lo + h.toNat]? = some (X.getD (h - a).toNat 0) := fun h h1 h2 => by
  rw [List.getElem?_append_right (by omega), show lo + h.toNat - P.length = (h - a).toNat by omega, List.getElem?_append_left (by omega)]
  exact p9 (by omega)
 have hay : (P ++ (X ++ ([y] ++ R)))[lo + m.toNat]? = some y := by
  have e : P ++ (X ++ ([y] ++ R)) = (P ++ X) ++ y :: R := by simp
  rw [e, show lo + m.toNat = (P ++ X).length by simp; omega, nG]
 refine wI _ _ _ _ _ _ _ _
  (fun _ _ _ => True) (fun _ _ _ => 0) (fun _ _ _ => True) (fun _ _ _ => 0)
  (fun i j s => s = aA (P ++ (X ++ ([y] ++ R))) /\ a <= i /\ i <= j /\ j <= m /\ (∀ h, a <= h -> h < i -> ¬ key y < key (X.getD (h - a).toNat 0)) /\ (∀ h, j <= h -> h < m -> key y < key (X.getD (h - a).toNat 0))) (fun i j _ => (j - i).toNat)
  (fun i k s => a <= i /\ i <= m /\ (∀ h, a <= h -> h < i -> ¬ key y < key (X.getD (h - a).toNat 0)) /\ (∀ h, i <= h -> h < m -> key y < key (X.getD (h - a).toNat 0)) /\ i <= k /\ k <= m /\ s = aA (P ++ (X.take (k - a).toNat ++ (y :: (X.drop (k - a).toNat ++ R))))) (fun i k _ => (k - i).toNat)
  (fun _ _ _ => True) (fun _ _ _ => 0) ?_
 unfold sQ
 have w1 : i64.wrap (m - a) = X.length := by rw [aD (by omega) (by omega)]; omega
 have w2 : i64.wrap (b - m) = 1 := by rw [aD (by omega) (by omega)]; omega
 refine bA (by rw [w1]; simp; omega) (bB (by rw [w2]; rfl) ⟨⟨rfl, rfl, Int.le_refl _, by omega, Int.le_refl _, fun h h1 h2 => by omega, fun h h1 h2 => by omega⟩, ?_⟩)
 rintro i j _ ⟨rfl, i0, hij, hjb, hlt, hge⟩
 refine aF (fun hc1 => ?_) (fun hc1 => ?_)
 ·simp only [decide_eq_true_eq] at hc1
  rw [qA (by omega) (by omega) (by omega)]
  obtain ⟨h, hh⟩ : ∃ h, h = (i + j) / 2 := ⟨_, rfl⟩
  rw [<- hh]
  have b1 : i <= h /\ h < j := by omega
  have gx := hat h (by omega) (by omega)
  have wh : i64.wrap (h + 1) = h + 1 := aD (by omega) (by omega)
  rw [wh]
  refine ⟨⟨by omega, by omega, by rw [cQ hay]; rfl⟩, y, by rw [cQ hay]; rfl, ⟨by omega, by omega, by rw [cQ gx]; rfl⟩, _, by rw [cQ gx]; rfl, ?_⟩
  refine (hc y _ (kP hr hay) (kP hr gx)).mono ?_
  rintro _ ⟨n2, rfl, hn2⟩
  refine ⟨n2, rfl, rfl, aF (fun hl => ?_) (fun hl => ?_)⟩
  ·simp only [Bool.not_eq_true', decide_eq_false_iff_not] at hl
   have hk : ¬ key y < key (X.getD (h - a).toNat 0) := fun h => hl (hn2.2 h)
   refine ⟨rfl, ⟨rfl, by omega, by omega, by omega, fun q q1 q2 => ?_, hge⟩, by dsimp only; omega⟩
   have := hX.get (i := (q - a).toNat) (j := (h - a).toNat) (by omega) (by omega)
   omega
  ·simp only [Bool.not_eq_true', decide_eq_false_iff_not, Decidable.not_not] at hl
   have hk := hn2.1 hl
   refine ⟨rfl, ⟨rfl, by omega, by omega, by omega, hlt, fun q q1 q2 => ?_⟩, by dsimp only; omega⟩
   have := hX.get (i := (h - a).toNat) (j := (q - a).toNat) (by omega) (by omega)
   omega
 ·simp only [decide_eq_true_eq] at hc1
  have : i = j := by omega
  subst this
  have hml : (m - a).toNat = X.length := by omega
  refine ⟨⟨rfl, i0, hjb, hlt, hge, by omega, Int.le_refl _, by rw [hml]; simp⟩, ?_⟩
  clear hc1 hij hjb hlt hge i0
  rintro i k _ ⟨i0, ib, hlt, hge, k0, k1, rfl⟩
  refine aF (fun hc2 => ?_) (fun hc2 => ?_)
  ·simp only [decide_eq_true_eq, gt_iff_lt] at hc2
   have wk : i64.wrap (k - 1) = k - 1 := aD (by omega) (by omega)
   rw [wk]
   have hlk : (k - 1 - a).toNat < X.length := by omega
   have hn : (k - a).toNat = (k - 1 - a).toNat + 1 := by omega
   have dx : X.drop (k - 1 - a).toNat = X[(k - 1 - a).toNat] :: X.drop ((k - 1 - a).toNat + 1) := List.drop_eq_getElem_cons hlk
   have tx : X.take ((k - 1 - a).toNat + 1) = X.take (k - 1 - a).toNat ++ [X[(k - 1 - a).toNat]] := c5 hlk
   have lt : (X.take (k - 1 - a).toNat).length = (k - 1 - a).toNat := by rw [List.length_take]; omega
   obtain ⟨D, hDe⟩ : ∃ D, D = P ++ (X.take (k - a).toNat ++ (y :: (X.drop (k - a).toNat ++ R))) := ⟨_, rfl⟩
   have hRD : R32 D := fun z hz => hr z (by
    rw [hDe] at hz
    simp only [List.mem_append, List.mem_cons] at hz ⊢
    rcases hz with hz | hz | hz | hz | hz
    ·exact .inl hz
    ·exact .inr (.inl (List.mem_of_mem_take hz))
    ·exact .inr (.inr (.inl (by simp [hz])))
    ·exact .inr (.inl (List.mem_of_mem_drop hz))
    ·exact .inr (.inr (.inr hz)))
   rw [<- hDe]
   have hD : D = (P ++ X.take (k - 1 - a).toNat) ++ X[(k - 1 - a).toNat] :: y :: (X.drop ((k - 1 - a).toNat + 1) ++ R) := by rw [hDe, hn, tx]; simp only [List.append_assoc, List.cons_append, List.nil_append]
   have hk0 : lo + (k - 1).toNat = (P ++ X.take (k - 1 - a).toNat).length := by rw [List.length_append, lt]; omega
   have hk1 : lo + k.toNat = (P ++ X.take (k - 1 - a).toNat).length + 1 := by rw [List.length_append, lt]; omega
   have gx : D[lo + (k - 1).toNat]? = some X[(k - 1 - a).toNat] := by rw [hD, hk0, nG]
   have gy : D[lo + k.toNat]? = some y := by rw [hD, hk1, List.getElem?_append_right (by omega)]; simp
   have hsw : (D.set (lo + k.toNat) X[(k - 1 - a).toNat]).set (lo + (k - 1).toNat) y = P ++ (X.take (k - 1 - a).toNat ++ (y :: (X.drop (k - 1 - a).toNat ++ R))) := by
    rw [hD, hk0, hk1, zf6, dx]; simp only [List.append_assoc, List.cons_append, List.nil_append]
   obtain ⟨t1, t2, t3, t4⟩ := tG D gy gx (by omega) X[(k - 1 - a).toNat] y
   rw [hsw] at t1
   have hla : 1 <= ((aA D).getD (lo + k.toNat) []).length := by rw [t2]; exact Nat.le_refl _
   refine ⟨⟨by omega, by omega, t3⟩, X[(k - 1 - a).toNat], by rw [cQ gx]; rfl, ⟨by omega, by omega, t2⟩, y, by rw [cQ gy]; rfl, ⟨by omega, by omega, t2⟩, ?_⟩
   refine ⟨?_, ?_⟩
   all_goals exact ⟨⟨rfl, hla⟩, ⟨by omega, by omega, t4⟩, ⟨rfl, by rw [t4]; exact Nat.le_refl _⟩, rfl, ⟨i0, ib, hlt, hge, by omega, by omega, t1⟩, by dsimp only; omega⟩
  ·simp only [decide_eq_true_eq, gt_iff_lt] at hc2
   have hk : k = i := by omega
   subst hk
   have h1 : ∀ z ∈ X.take (k - a).toNat, key z <= key y := fun z hz => by
    obtain ⟨q, hq, rfl⟩ := kQ hz
    rw [List.length_take] at hq
    have e : (X.take (k - a).toNat).getD q 0 = X.getD q 0 := by simp only [List.getD]; rw [List.getElem?_take_of_lt (by omega)]
    rw [e]
    have := hlt (a + q) (by omega) (by omega)
    rw [show (a + (q : Int) - a).toNat = q by omega] at this
    omega
   have h2 : ∀ z ∈ X.drop (k - a).toNat, key y < key z := fun z hz => by
    obtain ⟨q, hq, rfl⟩ := kQ hz
    rw [List.length_drop] at hq
    have e : (X.drop (k - a).toNat).getD q 0 = X.getD ((k - a).toNat + q) 0 := by simp only [List.getD, List.getElem?_drop]
    rw [e]
    have := hge (k + q) (by omega) (by omega)
    rwa [show (k + (q : Int) - a).toNat = (k - a).toNat + q by omega] at this
   have hXs : Srtd key (X.take (k - a).toNat ++ X.drop (k - a).toNat) := by rw [List.take_append_drop]; exact hX
   refine ⟨X.take (k - a).toNat ++ y :: X.drop (k - a).toNat, rfl, by simp, zf9 hXs h1 (fun z hz => Int.le_of_lt (h2 z hz)), ?_⟩
   have := Stab.rot1 (key := key) (u := X.take (k - a).toNat) (v := []) (a := X.drop (k - a).toNat) (b := [y]) (fun p hp q hq => by simp at hq; subst hq; have := h2 p hp; omega)
   rw [<- List.append_assoc, List.take_append_drop] at this
   simpa using this
end
end Go.Eng



namespace Go.Eng
open Go Go.Proofs Go.Eng.Rows Go.Eng.Srt
section
variable {key : Int -> Int} {T : PV} (lo hi : Nat) (nl : Bool)
abbrev iQ (nl : Bool) (T : PV) (t : List (List PV)) : Hp := [.sl (21, 1) false nl t, .box [.pv T]]
abbrev yP (nl : Bool) (T : PV) (t : List (List PV)) (K : List (List PV) -> Prop) : LV -> Hp -> Prop := fun r h' => ∃ t1, (r = .tup [] /\ h' = iQ nl T t1) /\ (True /\ ((21, 1) = (21, 1) /\ nl = nl /\ t.length = t1.length) /\ True) /\ K t1
def tH (T : PV) (mid e b : Int) (Q : LV -> Hp -> Prop) (t : List (List PV)) : Prop :=
 if (decide (mid < e) && decide (e < b)) = true then ACall Tryz.prog 175 [.sub 0 lo hi, .pv (.int .i64 mid), .pv (.int .i64 e), .pv (.int .i64 b), .fn 145 [.box 1 0]] (iQ nl T t) (yP nl T t fun t1 => Q (.tup []) (iQ nl T t1)) else Q (.tup []) (iQ nl T t)
def tI (T : PV) (a s mid e b : Int) (Q : LV -> Hp -> Prop) (t : List (List PV)) : Prop :=
 if (decide (a < s) && decide (s < mid)) = true then ACall Tryz.prog 175 [.sub 0 lo hi, .pv (.int .i64 a), .pv (.int .i64 s), .pv (.int .i64 mid), .fn 145 [.box 1 0]] (iQ nl T t) (yP nl T t (tH lo hi nl T mid e b Q)) else tH lo hi nl T mid e b Q t
def yQ (T : PV) (a s m mid e b : Int) (Q : LV -> Hp -> Prop) (t : List (List PV)) : Prop :=
 if (decide (s < m) && decide (m < e)) = true then ACall Tryz.prog 177 [.sub 0 lo hi, .pv (.int .i64 s), .pv (.int .i64 m), .pv (.int .i64 e), .fn 145 [.box 1 0]] (iQ nl T t) (yP nl T t (tI lo hi nl T a s mid e b Q)) else tI lo hi nl T a s mid e b Q t
theorem R32.of {l m : List Int} (h : R32 l) (hm : ∀ x ∈ m, x ∈ l) : R32 m := fun x hx => h x (hm x hx)
def zga (T : PV) (key : Int -> Int) (N : Int) : Prop := ∀ (P X Y R : List Int) (a m b : Int), 0 <= a -> P.length = lo + a.toNat -> m = a + X.length -> b = m + Y.length -> X ≠ [] -> Y ≠ [] -> (lo : Int) + b <= hi -> R32 (P ++ (X ++ (Y ++ R))) -> Srtd key X -> Srtd key Y -> b - a < N ->
 ACall Tryz.prog 175 [.sub 0 lo hi, .pv (.int .i64 a), .pv (.int .i64 m), .pv (.int .i64 b), .fn 145 [.box 1 0]] (iQ nl T (aA (P ++ (X ++ (Y ++ R))))) (iP key nl T P (X ++ Y) R)
theorem zpa {N : Int} (ih : zga lo hi nl T key N) (hlen : hi < 1000000000000) (P X1 X2 Y1 Y2 R : List Int) (a s m mid e b : Int) (ha : 0 <= a) (hP : P.length = lo + a.toNat) (h1 : s = a + X1.length) (h2 : m = s + X2.length) (h3 : e = m + Y1.length) (h4 : b = e + Y2.length) (h5 : mid = s + Y1.length)
 (hhi : (lo : Int) + b <= hi) (hr : R32 (P ++ (X1 ++ (X2 ++ (Y1 ++ (Y2 ++ R)))))) (hX : Srtd key (X1 ++ X2)) (hY : Srtd key (Y1 ++ Y2)) (f1 : ∀ x ∈ X2, ∀ y ∈ Y1, key y < key x) (f2 : ∀ x ∈ X1, ∀ y ∈ Y2, key x <= key y) (n1 : mid - a < N) (n2 : b - mid < N) :
 yQ lo hi nl T a s m mid e b (iP key nl T P ((X1 ++ X2) ++ (Y1 ++ Y2)) R) (aA (P ++ (X1 ++ (X2 ++ (Y1 ++ (Y2 ++ R)))))) := by
 have hl1 : ∀ {u v : List Int}, u.length = v.length -> (aA u).length = (aA v).length := fun h => by simp [h]
 obtain ⟨x1, x2, x3⟩ := g8.1 hX
 obtain ⟨y1, y2, y3⟩ := g8.1 hY
 have t3 : ∀ S1 : List Int, Srtd key S1 -> Stab key (X1 ++ Y1) S1 -> tH lo hi nl T mid e b (iP key nl T P ((X1 ++ X2) ++ (Y1 ++ Y2)) R) (aA (P ++ (S1 ++ (X2 ++ (Y2 ++ R))))) := fun S1 s1 k1 => by
  have kl := k1.len
  rw [List.length_append] at kl
  have fin : ∀ S2 : List Int, Srtd key S2 -> Stab key (X2 ++ Y2) S2 -> iP key nl T P ((X1 ++ X2) ++ (Y1 ++ Y2)) R (.tup []) (iQ nl T (aA (P ++ (S1 ++ (S2 ++ R))))) := fun S2 s2 k2 => by
   obtain ⟨c1, c2⟩ := zo7 hX hY f1 f2 s1 k1 s2 k2
   exact ⟨S1 ++ S2, rfl, by simp, c1, c2⟩
  unfold tH
  refine aF (fun hc => ?_) (fun hc => ?_)
  ·simp only [Bool.and_eq_true, decide_eq_true_eq] at hc
   have nx : X2 ≠ [] := fun h => by subst h; simp at h2; omega
   have ny : Y2 ≠ [] := fun h => by subst h; simp at h4; omega
   have := ih (P ++ S1) X2 Y2 R mid e b (by omega) (by rw [List.length_append]; omega) (by omega) h4 nx ny hhi (hr.of fun x hx => by
    simp only [List.mem_append] at hx ⊢
    rcases hx with (hx | hx) | hx | hx | hx
    ·exact .inl hx
    ·rcases List.mem_append.1 (k1.mem.2 hx) with hx | hx
     ·exact .inr (.inl hx)
     ·exact .inr (.inr (.inr (.inl hx)))
    ·exact .inr (.inr (.inl hx))
    ·exact .inr (.inr (.inr (.inr (.inl hx))))
    ·exact .inr (.inr (.inr (.inr (.inr hx))))) x2 y2 n2
   rw [show P ++ (S1 ++ (X2 ++ (Y2 ++ R))) = (P ++ S1) ++ (X2 ++ (Y2 ++ R)) by simp]
   refine this.mono ?_
   rintro r h' ⟨S2, rfl, rfl, s2, k2⟩
   refine ⟨_, ⟨rfl, rfl⟩, ⟨trivial, ⟨rfl, rfl, hl1 ?_⟩, trivial⟩, ?_⟩
   ·have := k2.len
    simp only [List.length_append] at this ⊢; omega
   ·have := fin S2 s2 k2
    rw [<- List.append_assoc P] at this
    exact this
  ·simp only [Bool.and_eq_true, decide_eq_true_eq] at hc
   have hz : X2 = [] ∨ Y2 = [] := by
    rcases Nat.eq_zero_or_pos X2.length with h | h
    ·exact .inl (List.length_eq_zero_iff.1 h)
    ·exact .inr (List.length_eq_zero_iff.1 (by omega))
   have s2 : Srtd key (X2 ++ Y2) := by
    rcases hz with h | h
    ·subst h; exact y2
    ·subst h; simpa using x2
   have := fin (X2 ++ Y2) s2 (.refl _)
   rw [List.append_assoc X2 Y2] at this
   exact this
 have t2 : tI lo hi nl T a s mid e b (iP key nl T P ((X1 ++ X2) ++ (Y1 ++ Y2)) R) (aA (P ++ (X1 ++ (Y1 ++ (X2 ++ (Y2 ++ R)))))) := by
  unfold tI
  refine aF (fun hc => ?_) (fun hc => ?_)
  ·simp only [Bool.and_eq_true, decide_eq_true_eq] at hc
   have nx : X1 ≠ [] := fun h => by subst h; simp at h1; omega
   have ny : Y1 ≠ [] := fun h => by subst h; simp at h5; omega
   refine (ih P X1 Y1 (X2 ++ (Y2 ++ R)) a s mid ha hP h1 h5 nx ny (by omega) (hr.of fun x hx => by
    simp only [List.mem_append] at hx ⊢
    rcases hx with hx | hx | hx | hx | hx | hx
    ·exact .inl hx
    ·exact .inr (.inl hx)
    ·exact .inr (.inr (.inr (.inl hx)))
    ·exact .inr (.inr (.inl hx))
    ·exact .inr (.inr (.inr (.inr (.inl hx))))
    ·exact .inr (.inr (.inr (.inr (.inr hx))))) x1 y1 n1).mono ?_
   rintro r h' ⟨S1, rfl, rfl, s1, k1⟩
   refine ⟨_, ⟨rfl, rfl⟩, ⟨trivial, ⟨rfl, rfl, hl1 ?_⟩, trivial⟩, t3 S1 s1 k1⟩
   have := k1.len
   simp only [List.length_append] at this ⊢; omega
  ·simp only [Bool.and_eq_true, decide_eq_true_eq] at hc
   have hz : X1 = [] ∨ Y1 = [] := by
    rcases Nat.eq_zero_or_pos X1.length with h | h
    ·exact .inl (List.length_eq_zero_iff.1 h)
    ·exact .inr (List.length_eq_zero_iff.1 (by omega))
   have s2 : Srtd key (X1 ++ Y1) := by
    rcases hz with h | h
    ·subst h; exact y1
    ·subst h; simpa using x1
   have := t3 (X1 ++ Y1) s2 (.refl _)
   rw [List.append_assoc X1 Y1] at this
   exact this
 unfold yQ
 refine aF (fun hc => ?_) (fun hc => ?_)
 ·simp only [Bool.and_eq_true, decide_eq_true_eq] at hc
  have nx : X2 ≠ [] := fun h => by subst h; simp at h2; omega
  have ny : Y1 ≠ [] := fun h => by subst h; simp at h3; omega
  have := zo6 (T := T) lo hi nl (P ++ X1) X2 Y1 (Y2 ++ R) s m e (by omega) (by rw [List.length_append]; omega) h2 h3 nx ny (by omega) hlen
  rw [show P ++ (X1 ++ (X2 ++ (Y1 ++ (Y2 ++ R)))) = (P ++ X1) ++ (X2 ++ (Y1 ++ (Y2 ++ R))) by simp]
  refine this.mono ?_
  rintro r h' ⟨rfl, rfl⟩
  refine ⟨_, ⟨rfl, rfl⟩, ⟨trivial, ⟨rfl, rfl, hl1 ?_⟩, trivial⟩, ?_⟩
  ·simp only [List.length_append]; omega
  ·rw [List.append_assoc P]; exact t2
 ·simp only [Bool.and_eq_true, decide_eq_true_eq] at hc
  have hz : X2 = [] ∨ Y1 = [] := by
   rcases Nat.eq_zero_or_pos X2.length with h | h
   ·exact .inl (List.length_eq_zero_iff.1 h)
   ·exact .inr (List.length_eq_zero_iff.1 (by omega))
  have e : P ++ (X1 ++ (X2 ++ (Y1 ++ (Y2 ++ R)))) = P ++ (X1 ++ (Y1 ++ (X2 ++ (Y2 ++ R)))) := by
   rcases hz with h | h <;> subst h <;> simp
  rw [e]; exact t2
end
end Go.Eng



namespace Go.Eng
open Go Go.Proofs Go.Eng.Rows Go.Eng.Srt
section
variable {key : Int -> Int} {T : PV}
theorem zgb (hc : iO T key) (lo hi : Nat) (nl : Bool) (hlen : hi < 1000000000000) : ∀ N : Nat, zga lo hi nl T key N := by
 intro N
 induction N with
 | zero =>
   intro P X Y R a m b ha hP hm hb hx hy hhi hr hX hY hN
   omega
 | succ N ih =>
   intro P X Y R a m b ha hP hm hb hx hy hhi hr hX hY hN
   have hxl := List.length_pos_iff.2 hx
   have hyl := List.length_pos_iff.2 hy
   by_cases hx1 : X.length = 1
   ·obtain ⟨x, rfl⟩ := List.length_eq_one_iff.1 hx1
    exact zo8 hc lo hi nl P Y R x a m b ha hP (by simpa using hm) hb hhi hr hlen hY
   by_cases hy1 : Y.length = 1
   ·obtain ⟨y, rfl⟩ := List.length_eq_one_iff.1 hy1
    exact zo9 hc lo hi nl P X R y a m b ha hP hm hx1 (by simpa using hb) hhi hr hlen hX
   obtain ⟨mid, hmid⟩ : ∃ mid, mid = (a + b) / 2 := ⟨_, rfl⟩
   have hat : ∀ h : Int, a <= h -> h < m -> (P ++ (X ++ (Y ++ R)))[lo + h.toNat]? = some (X.getD (h - a).toNat 0) := fun h h1 h2 => by
    rw [List.getElem?_append_right (by omega), show lo + h.toNat - P.length = (h - a).toNat by omega, List.getElem?_append_left (by omega)]
    exact p9 (by omega)
   have hbt : ∀ h : Int, m <= h -> h < b -> (P ++ (X ++ (Y ++ R)))[lo + h.toNat]? = some (Y.getD (h - m).toNat 0) := fun h h1 h2 => by
    rw [<- List.append_assoc, List.getElem?_append_right (by rw [List.length_append]; omega), show lo + h.toNat - (P ++ X).length = (h - m).toNat by rw [List.length_append]; omega, List.getElem?_append_left (by omega)]
    exact p9 (by omega)
   obtain ⟨s0, hs0⟩ : ∃ s0, s0 = if m > mid then mid + m - b else a := ⟨_, rfl⟩
   obtain ⟨r0, hr0⟩ : ∃ r0, r0 = if m > mid then mid else m := ⟨_, rfl⟩
   have rng : a <= s0 /\ s0 <= r0 /\ r0 <= m /\ mid + m - s0 <= b /\ m <= mid + m - r0 := by
    rw [hs0, hr0]; split <;> omega
   refine wI _ _ _ _ _ _ _ _
    (fun _ _ _ => True) (fun _ _ _ => 0) (fun _ _ _ => True) (fun _ _ _ => 0) (fun _ _ _ => True) (fun _ _ _ => 0) (fun _ _ _ => True) (fun _ _ _ => 0)
    (fun i j s => s = aA (P ++ (X ++ (Y ++ R))) /\ s0 <= i /\ i <= j /\ j <= r0 /\ (∀ c, s0 <= c -> c < i -> ¬ key (Y.getD (mid - 1 - c).toNat 0) < key (X.getD (c - a).toNat 0)) /\ (∀ c, j <= c -> c < r0 -> key (Y.getD (mid - 1 - c).toNat 0) < key (X.getD (c - a).toNat 0))) (fun i j _ => (j - i).toNat) ?_
   unfold sQ
   have w1 : i64.wrap (m - a) = X.length := by rw [aD (by omega) (by omega)]; omega
   have w2 : i64.wrap (b - m) = Y.length := by rw [aD (by omega) (by omega)]; omega
   have w3 : i64.wrap (mid + m) = mid + m := aD (by omega) (by omega)
   have w4 : i64.wrap (mid + m - b) = mid + m - b := aD (by omega) (by omega)
   have w5 : i64.wrap (mid + m - 1) = mid + m - 1 := aD (by omega) (by omega)
   rw [w1, w2, qA ha (by omega) (by omega), <- hmid, w3, w4, w5]
   -- what the loop is, and what follows it
   have body : ∀ (x20 x21 : Int) (s : List (List PV)), (s = aA (P ++ (X ++ (Y ++ R))) /\ s0 <= x20 /\ x20 <= x21 /\ x21 <= r0 /\ (∀ c, s0 <= c -> c < x20 -> ¬ key (Y.getD (mid - 1 - c).toNat 0) < key (X.getD (c - a).toNat 0)) /\ (∀ c, x21 <= c -> c < r0 -> key (Y.getD (mid - 1 - c).toNat 0) < key (X.getD (c - a).toNat 0))) ->
    (x20 < x21 -> ∃ h, h = (x20 + x21) / 2 /\ i64.wrap (mid + m - 1 - h) = mid + m - 1 - h /\ i64.wrap (h + 1) = h + 1 /\ (0 <= mid + m - 1 - h /\ mid + m - 1 - h < (hi : Int) - lo /\ (s.getD (lo + (mid + m - 1 - h).toNat) []).length = 1) /\ (0 <= h /\ h < (hi : Int) - lo /\ (s.getD (lo + h.toNat) []).length = 1) /\
     ∃ n n1, (List.drop 0 (s.getD (lo + (mid + m - 1 - h).toNat) [])).head? = some (PV.int .i32 n) /\ (List.drop 0 (s.getD (lo + h.toNat) [])).head? = some (PV.int .i32 n1) /\ (-2147483648 <= n /\ n <= 2147483647) /\ (-2147483648 <= n1 /\ n1 <= 2147483647) /\
     (¬ key n < key n1 -> (s = aA (P ++ (X ++ (Y ++ R))) /\ s0 <= h + 1 /\ h + 1 <= x21 /\ x21 <= r0 /\ (∀ c, s0 <= c -> c < h + 1 -> ¬ key (Y.getD (mid - 1 - c).toNat 0) < key (X.getD (c - a).toNat 0)) /\ (∀ c, x21 <= c -> c < r0 -> key (Y.getD (mid - 1 - c).toNat 0) < key (X.getD (c - a).toNat 0))) /\ (x21 - (h + 1)).toNat < (x21 - x20).toNat) /\
     (key n < key n1 -> (s = aA (P ++ (X ++ (Y ++ R))) /\ s0 <= x20 /\ x20 <= h /\ h <= r0 /\ (∀ c, s0 <= c -> c < x20 -> ¬ key (Y.getD (mid - 1 - c).toNat 0) < key (X.getD (c - a).toNat 0)) /\ (∀ c, h <= c -> c < r0 -> key (Y.getD (mid - 1 - c).toNat 0) < key (X.getD (c - a).toNat 0))) /\ (h - x20).toNat < (x21 - x20).toNat)) /\
    (¬ x20 < x21 -> i64.wrap (mid + m - x20) = mid + m - x20 /\ yQ lo hi nl T a x20 m mid (mid + m - x20) b (iP key nl T P (X ++ Y) R) s) := by
    rintro i j _ ⟨rfl, i0, hij, hjr, hge, hlt⟩
    refine ⟨fun hc1 => ?_, fun hc1 => ?_⟩
    ·obtain ⟨h, hh⟩ : ∃ h, h = (i + j) / 2 := ⟨_, rfl⟩
     have b1 : i <= h /\ h < j := by omega
     have gx := hat h (by omega) (by omega)
     have gy := hbt (mid + m - 1 - h) (by omega) (by omega)
     rw [show (mid + m - 1 - h - m).toNat = (mid - 1 - h).toNat by omega] at gy
     refine ⟨h, hh, aD (by omega) (by omega), aD (by omega) (by omega), ⟨by omega, by omega, by rw [cQ gy]; rfl⟩, ⟨by omega, by omega, by rw [cQ gx]; rfl⟩, _, _, by rw [cQ gy]; rfl, by rw [cQ gx]; rfl, kP hr gy, kP hr gx, fun hk => ?_, fun hk => ?_⟩
     ·refine ⟨⟨rfl, by omega, by omega, hjr, fun c c1 c2 => ?_, hlt⟩, by omega⟩
      have u := hX.get (i := (c - a).toNat) (j := (h - a).toNat) (by omega) (by omega)
      have v := hY.get (i := (mid - 1 - h).toNat) (j := (mid - 1 - c).toNat) (by omega) (by omega)
      omega
     ·refine ⟨⟨rfl, i0, by omega, by omega, hge, fun c c1 c2 => ?_⟩, by omega⟩
      have u := hX.get (i := (h - a).toNat) (j := (c - a).toNat) (by omega) (by omega)
      have v := hY.get (i := (mid - 1 - c).toNat) (j := (mid - 1 - h).toNat) (by omega) (by omega)
      omega
    ·have hij2 : i = j := by omega
     subst hij2
     refine ⟨aD (by omega) (by omega), ?_⟩
     have l1 : (X.take (i - a).toNat).length = (i - a).toNat := by rw [List.length_take]; omega
     have l2 : (X.drop (i - a).toNat).length = X.length - (i - a).toNat := List.length_drop
     have l3 : (Y.take (mid - i).toNat).length = (mid - i).toNat := by rw [List.length_take]; omega
     have l4 : (Y.drop (mid - i).toNat).length = Y.length - (mid - i).toNat := List.length_drop
     have eX : X.take (i - a).toNat ++ X.drop (i - a).toNat = X := List.take_append_drop _ _
     have eY : Y.take (mid - i).toNat ++ Y.drop (mid - i).toNat = Y := List.take_append_drop _ _
     have tk : ∀ (L : List Int) (k q : Nat), q < k -> (L.take k).getD q 0 = L.getD q 0 := fun L k q h => by simp only [List.getD]; rw [List.getElem?_take_of_lt h]
     have dk : ∀ (L : List Int) (k q : Nat), (L.drop k).getD q 0 = L.getD (k + q) 0 := fun L k q => by simp only [List.getD, List.getElem?_drop]
     have f1 : ∀ x ∈ X.drop (i - a).toNat, ∀ y ∈ Y.take (mid - i).toNat, key y < key x := fun x hx y hy => by
      obtain ⟨q, hq, rfl⟩ := kQ hx
      obtain ⟨p, hp, rfl⟩ := kQ hy
      rw [l2] at hq
      rw [l3] at hp
      rw [tk _ _ _ hp, dk]
      have hir : i < r0 := by rw [hr0]; split <;> omega
      have k0 := hlt i (Int.le_refl _) hir
      have u := hX.get (i := (i - a).toNat) (j := (i - a).toNat + q) (by omega) (by omega)
      have v := hY.get (i := p) (j := (mid - 1 - i).toNat) (by omega) (by omega)
      omega
     have f2 : ∀ x ∈ X.take (i - a).toNat, ∀ y ∈ Y.drop (mid - i).toNat, key x <= key y := fun x hx y hy => by
      obtain ⟨q, hq, rfl⟩ := kQ hx
      obtain ⟨p, hp, rfl⟩ := kQ hy
      rw [l1] at hq
      rw [l4] at hp
      rw [tk _ _ _ hq, dk]
      have his : s0 <= i - 1 := by rw [hs0]; split <;> omega
      have k0 := hge (i - 1) his (by omega)
      rw [show (mid - 1 - (i - 1)).toNat = (mid - i).toNat by omega] at k0
      have u := hX.get (i := q) (j := (i - 1 - a).toNat) (by omega) (by omega)
      have v := hY.get (i := (mid - i).toNat) (j := (mid - i).toNat + p) (by omega) (by omega)
      omega
     have := zpa lo hi nl (N := N) ih hlen P (X.take (i - a).toNat) (X.drop (i - a).toNat) (Y.take (mid - i).toNat) (Y.drop (mid - i).toNat) R a i m mid (mid + m - i) b ha hP (by omega) (by omega) (by omega) (by omega) (by omega) hhi
      (by rw [<- List.append_assoc (Y.take _), eY, <- List.append_assoc (X.take _), eX]; exact hr) (by rw [eX]; exact hX) (by rw [eY]; exact hY) f1 f2 (by omega) (by omega)
     rw [<- List.append_assoc (Y.take _) _ R, eY, <- List.append_assoc (X.take _) _ (Y ++ R), eX] at this
     exact this
   refine bA (by simp; omega) (bA (by simp; omega) ?_)
   refine aF (fun hm2 => ?_) (fun hm2 => ?_)
   ·simp only [decide_eq_true_eq] at hm2
    rw [if_pos hm2] at hs0 hr0
    refine ⟨⟨rfl, rfl, by omega, by omega, by omega, fun c c1 c2 => by omega, fun c c1 c2 => by omega⟩, ?_⟩
    rintro i j s hJ
    obtain ⟨b1, b2⟩ := body i j s hJ
    refine aF (fun hc1 => ?_) (fun hc1 => ?_)
    ·simp only [decide_eq_true_eq] at hc1
     obtain ⟨h, hh, e1, e2, e3, e4, n, n1, g1, g2, r1, r2, k1, k2⟩ := b1 hc1
     rw [qA (by omega) (by omega) (by omega), <- hh, e1, e2]
     refine ⟨e3, n, g1, e4, n1, g2, ?_⟩
     refine (hc n n1 r1 r2).mono ?_
     rintro _ ⟨n2, rfl, hn2⟩
     refine ⟨n2, rfl, rfl, aF (fun hl => ?_) (fun hl => ?_)⟩
     ·simp only [Bool.not_eq_true', decide_eq_false_iff_not] at hl
      obtain ⟨q1, q2⟩ := k1 fun h => hl (hn2.2 h)
      exact ⟨rfl, q1, q2⟩
     ·simp only [Bool.not_eq_true', decide_eq_false_iff_not, Decidable.not_not] at hl
      obtain ⟨q1, q2⟩ := k2 (hn2.1 hl)
      exact ⟨rfl, q1, q2⟩
    ·simp only [decide_eq_true_eq] at hc1
     obtain ⟨e1, e2⟩ := b2 hc1
     rw [e1]
     exact e2
   ·simp only [decide_eq_true_eq] at hm2
    rw [if_neg hm2] at hs0 hr0
    refine ⟨⟨rfl, rfl, by omega, by omega, by omega, fun c c1 c2 => by omega, fun c c1 c2 => by omega⟩, ?_⟩
    rintro i j s hJ
    obtain ⟨b1, b2⟩ := body i j s hJ
    refine aF (fun hc1 => ?_) (fun hc1 => ?_)
    ·simp only [decide_eq_true_eq] at hc1
     obtain ⟨h, hh, e1, e2, e3, e4, n, n1, g1, g2, r1, r2, k1, k2⟩ := b1 hc1
     rw [qA (by omega) (by omega) (by omega), <- hh, e1, e2]
     refine ⟨e3, n, g1, e4, n1, g2, ?_⟩
     refine (hc n n1 r1 r2).mono ?_
     rintro _ ⟨n2, rfl, hn2⟩
     refine ⟨n2, rfl, rfl, aF (fun hl => ?_) (fun hl => ?_)⟩
     ·simp only [Bool.not_eq_true', decide_eq_false_iff_not] at hl
      obtain ⟨q1, q2⟩ := k1 fun h => hl (hn2.2 h)
      exact ⟨rfl, q1, q2⟩
     ·simp only [Bool.not_eq_true', decide_eq_false_iff_not, Decidable.not_not] at hl
      obtain ⟨q1, q2⟩ := k2 (hn2.1 hl)
      exact ⟨rfl, q1, q2⟩
    ·simp only [decide_eq_true_eq] at hc1
     obtain ⟨e1, e2⟩ := b2 hc1
     rw [e1]
     exact e2
end
end Go.Eng



namespace Go.Eng
open Go Go.Proofs Go.Eng.Rows Go.Eng.Srt
section
variable {key : Int -> Int} {T : PV}
def l6 (key : Int -> Int) (k : Nat) (Bs : List (List Int)) : Prop := ∀ B ∈ Bs, B.length = k /\ Srtd key B
theorem yR {k : Nat} : ∀ {Bs : List (List Int)}, l6 key k Bs -> Bs.flatten.length = k * Bs.length
 | [], _ => by simp
 | B :: Bs, h => by
   rw [List.flatten_cons, List.length_append, (h B List.mem_cons_self).1, yR (Bs := Bs) fun C hC => h C (List.mem_cons_of_mem _ hC), List.length_cons, Nat.mul_add]; omega
theorem tJ (Bs : List (List Int)) : Bs = [] ∨ (∃ X, Bs = [X]) ∨ ∃ X Y Bs', Bs = X :: Y :: Bs' := by
 match Bs with
 | [] => exact .inl rfl
 | [X] => exact .inr (.inl ⟨X, rfl⟩)
 | X :: Y :: Bs' => exact .inr (.inr ⟨X, Y, Bs', rfl⟩)
theorem zgc {k : Nat} {Bs : List (List Int)} {B : List Int} (h : l6 key k Bs) (hl : B.length = k) (hs : Srtd key B) : l6 key k (Bs ++ [B]) := fun C hC => by
 rcases List.mem_append.1 hC with hC | hC
 ·exact h C hC
 ·simp only [List.mem_singleton] at hC; subst hC; exact ⟨hl, hs⟩
theorem yS {P S R S' : List Int} (h : R32 (P ++ (S ++ R))) (k : Stab key S S') : R32 (P ++ (S' ++ R)) := h.of fun x hx => by
 simp only [List.mem_append] at hx ⊢
 rcases hx with hx | hx | hx
 ·exact .inl hx
 ·exact .inr (.inl (k.mem.2 hx))
 ·exact .inr (.inr hx)
theorem zpb (hc : iO T key) (lo hi : Nat) (nl : Bool) (P S R : List Int) (hP : P.length = lo) (hS : hi = lo + S.length) (hr : R32 (P ++ (S ++ R))) (hlen : hi < 1000000000000) :
 ACall Tryz.prog 162 [.sub 0 lo hi, .pv (.int .i64 ((hi - lo : Nat) : Int)), .fn 145 [.box 1 0]] (iQ nl T (aA (P ++ (S ++ R)))) (iP key nl T P S R) := by
 have hl1 : ∀ {u v : List Int}, u.length = v.length -> (aA u).length = (aA v).length := fun h => by simp [h]
 obtain ⟨n, hn⟩ : ∃ n : Int, n = ((hi - lo : Nat) : Int) := ⟨_, rfl⟩
 rw [<- hn]
 have hnS : n = S.length := by omega
 refine zlb _ _ _ _ _ _
  (fun a b s => b = a + 20 /\ 0 <= a /\ ∃ Bs C, s = aA (P ++ (Bs.flatten ++ C ++ R)) /\ l6 key 20 Bs /\ (Bs.flatten.length : Int) = a /\ Stab key S (Bs.flatten ++ C)) (fun a _ _ => (n + 1 - a).toNat)
  (fun k s => 0 < k /\ ∃ Bs C, s = aA (P ++ (Bs.flatten ++ C ++ R)) /\ l6 key k.toNat Bs /\ Srtd key C /\ (C.length : Int) < k /\ Stab key S (Bs.flatten ++ C)) (fun k _ => (n - k).toNat)
  (fun k _ _ _ k' a b s => k = k' /\ b = a + 2 * k /\ 0 <= a /\ ∃ B2 Bs C, s = aA (P ++ (B2.flatten ++ (Bs.flatten ++ C) ++ R)) /\ l6 key (2 * k).toNat B2 /\ l6 key k.toNat Bs /\ Srtd key C /\ (C.length : Int) < k /\ (B2.flatten.length : Int) = a /\ Stab key S (B2.flatten ++ (Bs.flatten ++ C))) (fun k a _ _ => (n + 1 - a).toNat) ?_
 unfold zc6
 refine ⟨⟨rfl, rfl, Int.le_refl _, [], S, by simp, fun B hB => (by cases hB), rfl, by simpa using Stab.refl S⟩, ?_⟩
 rintro a b _ ⟨rfl, a0, Bs, C, rfl, hBs, hBl, hst⟩
 have hsl := hst.len
 rw [List.length_append] at hsl
 refine aF (fun hc1 => ?_) (fun hc1 => ?_)
 ·simp only [decide_eq_true_eq] at hc1
  have wa : i64.wrap (a + 20 + 20) = a + 20 + 20 := aD (by omega) (by omega)
  rw [wa]
  have hC : C.take 20 ++ C.drop 20 = C := List.take_append_drop _ _
  have hCl : (C.take 20).length = 20 := by rw [List.length_take]; omega
  have e1 : P ++ (Bs.flatten ++ C ++ R) = (P ++ Bs.flatten) ++ C.take 20 ++ (C.drop 20 ++ R) := by
   rw [show Bs.flatten ++ C ++ R = Bs.flatten ++ ((C.take 20 ++ C.drop 20) ++ R) by rw [hC]; simp]
   simp only [List.append_assoc]
  have := zf8 hc lo hi nl (P ++ Bs.flatten) (C.take 20) (C.drop 20 ++ R) a (a + 20) a0 (by rw [List.length_append]; omega) (by omega) (by omega) (by rw [<- e1]; exact yS hr hst) hlen
  rw [e1]
  refine this.mono ?_
  rintro r h' ⟨S1, rfl, rfl, s1, k1⟩
  have k1l := k1.len
  refine ⟨_, ⟨rfl, rfl⟩, ⟨trivial, ⟨rfl, rfl, hl1 (by simp only [List.length_append]; omega)⟩, trivial⟩, rfl, ⟨rfl, by omega, Bs ++ [S1], C.drop 20, by simp, zgc hBs (by omega) s1, by simp only [List.flatten_append, List.flatten_cons, List.flatten_nil, List.append_nil, List.length_append]; omega, ?_⟩, by dsimp only; omega⟩
  refine hst.trans ?_
  have := (Stab.refl (key := key) Bs.flatten).app (k1.app (Stab.refl (C.drop 20)))
  rw [hC] at this
  simpa using this
 ·simp only [decide_eq_true_eq] at hc1
  have e1 : P ++ (Bs.flatten ++ C ++ R) = (P ++ Bs.flatten) ++ C ++ R := by simp
  have := zf8 hc lo hi nl (P ++ Bs.flatten) C R a n a0 (by rw [List.length_append]; omega) (by omega) (by omega) (by rw [<- e1]; exact yS hr hst) hlen
  rw [e1]
  refine this.mono ?_
  rintro r h' ⟨C1, rfl, rfl, s1, k1⟩
  have k1l := k1.len
  refine ⟨_, ⟨rfl, rfl⟩, ⟨trivial, ⟨rfl, rfl, hl1 (by simp only [List.length_append]; omega)⟩, trivial⟩, ⟨rfl, by omega, Bs, C1, by simp, hBs, s1, by omega, hst.trans ((Stab.refl _).app k1)⟩, ?_⟩
  clear hBs hBl hst hsl hc1 e1 this s1 k1 k1l
  rintro k _ ⟨k0, Bs, C, rfl, hBs, hCs, hCk, hst⟩
  have hsl := hst.len
  rw [List.length_append] at hsl
  have hbl := yR hBs
  refine aF (fun hc2 => ?_) (fun hc2 => ?_)
  ·simp only [decide_eq_true_eq] at hc2
   have w2 : i64.wrap (2 * k) = 2 * k := aD (by omega) (by omega)
   have w3 : i64.wrap (k * 2) = 2 * k := by rw [aD (by omega) (by omega)]; omega
   rw [w2]
   refine ⟨⟨rfl, rfl, by omega, Int.le_refl _, [], Bs, C, by simp, fun B hB => (by cases hB), hBs, hCs, hCk, rfl, by simpa using hst⟩, ?_⟩
   clear hBs hCs hCk hst hsl hbl
   rintro _ a b _ ⟨rfl, rfl, a0, B2, Bs, C, rfl, hB2, hBs, hCs, hCk, hBl, hst⟩
   have hsl := hst.len
   rw [List.length_append, List.length_append] at hsl
   have hbl := yR hBs
   have hRs : R32 (P ++ (B2.flatten ++ (Bs.flatten ++ C) ++ R)) := yS hr hst
   rw [w2, w3]
   have hkn : (k.toNat : Int) = k := by omega
   refine aF (fun hc3 => ?_) (fun hc3 => ?_)
   ·simp only [decide_eq_true_eq] at hc3
    have w4 : i64.wrap (a + k) = a + k := aD (by omega) (by omega)
    have w5 : i64.wrap (a + 2 * k + 2 * k) = a + 2 * k + 2 * k := aD (by omega) (by omega)
    rw [w4, w5]
    obtain ⟨X, Y, Bs', rfl⟩ : ∃ X Y Bs', Bs = X :: Y :: Bs' := by
     rcases tJ Bs with rfl | ⟨X, rfl⟩ | h
     ·simp only [List.flatten_nil, List.length_nil] at hsl; omega
     ·have h1 := (hBs X (by simp)).1
      simp only [List.flatten_cons, List.flatten_nil, List.append_nil] at hsl; omega
     ·exact h
    obtain ⟨hXl, hXs⟩ := hBs X (by simp)
    obtain ⟨hYl, hYs⟩ := hBs Y (by simp)
    have nx : X ≠ [] := fun h => by subst h; simp at hXl; omega
    have ny : Y ≠ [] := fun h => by subst h; simp at hYl; omega
    have e1 : P ++ (B2.flatten ++ ((X :: Y :: Bs').flatten ++ C) ++ R) = (P ++ B2.flatten) ++ (X ++ (Y ++ (Bs'.flatten ++ C ++ R))) := by simp
    have := zgb hc lo hi nl hlen (2 * k + 1).toNat (P ++ B2.flatten) X Y (Bs'.flatten ++ C ++ R) a (a + k) (a + 2 * k) a0 (by rw [List.length_append]; omega) (by omega) (by omega) nx ny (by omega) (by rw [<- e1]; exact hRs) hXs hYs (by omega)
    rw [e1]
    refine this.mono ?_
    rintro r h' ⟨S1, rfl, rfl, s1, k1⟩
    have k1l := k1.len
    rw [List.length_append] at k1l
    refine ⟨_, ⟨rfl, rfl⟩, ⟨trivial, ⟨rfl, rfl, hl1 (by simp only [List.length_append]; omega)⟩, trivial⟩, rfl, ⟨rfl, rfl, by omega, B2 ++ [S1], Bs', C, by simp, zgc hB2 (by omega) s1, fun B hB => hBs B (by simp [hB]), hCs, hCk, by simp only [List.flatten_append, List.flatten_cons, List.flatten_nil, List.append_nil, List.length_append]; omega, ?_⟩, by dsimp only; omega⟩
    refine hst.trans ?_
    have := (Stab.refl (key := key) B2.flatten).app (k1.app (Stab.refl (Bs'.flatten ++ C)))
    simpa using this
   ·simp only [decide_eq_true_eq] at hc3
    have w4 : i64.wrap (a + k) = a + k := aD (by omega) (by omega)
    rw [w4]
    refine aF (fun hc4 => ?_) (fun hc4 => ?_)
    ·simp only [decide_eq_true_eq] at hc4
     obtain ⟨X, rfl⟩ : ∃ X, Bs = [X] := by
      rcases tJ Bs with rfl | h | ⟨X, Y, Bs', rfl⟩
      ·simp only [List.flatten_nil, List.length_nil] at hsl; omega
      ·exact h
      ·have h1 := (hBs X (by simp)).1
       have h2 := (hBs Y (by simp)).1
       simp only [List.flatten_cons, List.length_append] at hsl
       omega
     obtain ⟨hXl, hXs⟩ := hBs X (by simp)
     have nx : X ≠ [] := fun h => by subst h; simp at hXl; omega
     simp only [List.flatten_cons, List.flatten_nil, List.append_nil] at hsl hst
     have ny : C ≠ [] := fun h => by subst h; simp only [List.length_nil] at hsl; omega
     have e1 : P ++ (B2.flatten ++ ([X].flatten ++ C) ++ R) = (P ++ B2.flatten) ++ (X ++ (C ++ R)) := by simp
     have := zgb hc lo hi nl hlen (2 * k + 1).toNat (P ++ B2.flatten) X C R a (a + k) n a0 (by rw [List.length_append]; omega) (by omega) (by omega) nx ny (by omega) (by rw [<- e1]; exact hRs) hXs hCs (by omega)
     rw [e1]
     refine this.mono ?_
     rintro r h' ⟨S1, rfl, rfl, s1, k1⟩
     have k1l := k1.len
     rw [List.length_append] at k1l
     exact ⟨_, ⟨rfl, rfl⟩, ⟨trivial, ⟨rfl, rfl, hl1 (by simp only [List.length_append]; omega)⟩, trivial⟩, rfl, ⟨by omega, B2, S1, by simp, hB2, s1, by omega, hst.trans ((Stab.refl _).app k1)⟩, by dsimp only; omega⟩
    ·simp only [decide_eq_true_eq] at hc4
     have hCs2 : Srtd key (Bs.flatten ++ C) /\ ((Bs.flatten ++ C).length : Int) < 2 * k := by
      rcases tJ Bs with rfl | ⟨X, rfl⟩ | ⟨X, Y, Bs', rfl⟩
      ·exact ⟨by simpa using hCs, by simp; omega⟩
      ·have h1 := hBs X (by simp)
       simp only [List.flatten_cons, List.flatten_nil, List.append_nil] at hsl ⊢
       have hC0 : C = [] := List.length_eq_zero_iff.1 (by omega)
       subst hC0
       exact ⟨by simpa using h1.2, by simp; omega⟩
      ·exfalso
       have h1 := (hBs X (by simp)).1
       have h2 := (hBs Y (by simp)).1
       simp only [List.flatten_cons, List.length_append] at hsl
       omega
     exact ⟨rfl, ⟨by omega, B2, Bs.flatten ++ C, by simp, hB2, hCs2.1, hCs2.2, hst⟩, by dsimp only; omega⟩
  ·simp only [decide_eq_true_eq] at hc2
   have hz : Srtd key (Bs.flatten ++ C) := by
    rcases tJ Bs with rfl | ⟨X, rfl⟩ | ⟨X, Y, Bs', rfl⟩
    ·simpa using hCs
    ·have h1 := hBs X (by simp)
     simp only [List.flatten_cons, List.flatten_nil, List.append_nil] at hsl ⊢
     have hC0 : C = [] := List.length_eq_zero_iff.1 (by omega)
     subst hC0
     simpa using h1.2
    ·exfalso
     have h1 := (hBs X (by simp)).1
     have h2 := (hBs Y (by simp)).1
     simp only [List.flatten_cons, List.length_append] at hsl
     omega
   exact ⟨Bs.flatten ++ C, rfl, rfl, hz, hst⟩
theorem zpc (hc : iO T key) (lo hi : Nat) (nl : Bool) (P S R : List Int) (hP : P.length = lo) (hS : hi = lo + S.length) (hr : R32 (P ++ (S ++ R))) (hlen : hi < 1000000000000) :
 ACall Tryz.prog 144 [.sub 0 lo hi, .fn 145 [.box 1 0]] (iQ nl T (aA (P ++ (S ++ R)))) (iP key nl T P S R) := by
 refine zlc _ _ _ _ _ ?_
 unfold zc7
 refine (zpb hc lo hi nl P S R hP hS hr hlen).mono ?_
 rintro r h' ⟨S1, rfl, rfl, s1, k1⟩
 exact ⟨_, ⟨rfl, rfl⟩, ⟨trivial, ⟨rfl, rfl, by have := k1.len; simp; omega⟩, trivial⟩, S1, rfl, rfl, s1, k1⟩
end
end Go.Eng



namespace Go.Eng
open Go Go.Proofs Go.Eng.Rows Go.Eng.Srt
section
variable {Z : World -> (Nat -> Prop) -> (Nat -> Pl) -> Hp -> Prop} {key : Int -> Int} {nl : Bool} {T : PV} {l : Nat}
def YQ (key : Int -> Int) (L : List Int) (f i : Nat) (L' : List Int) : Prop := ∃ S', L' = L.take f ++ (S' ++ L.drop i) /\ Srtd key S' /\ Stab key ((L.take i).drop f) S'
def yT (Z : World -> (Nat -> Prop) -> (Nat -> Pl) -> Hp -> Prop) (key : Int -> Int) (nl : Bool) (T : PV) (l N0 : Nat) : Prop :=
 ∀ (w : World) (I : Nat -> Prop) (G : Nat -> Pl) (L : List Int) (f i : Nat), HRel w I G (aL nl T (aA L)) -> Z w I G (aL nl T (aA L)) -> f + 1 < i -> i <= L.length -> R32 L -> L.length < 1000000000000 -> L.length = N0 ->
  ∃ fn tmps assign body, (Instr.yield l #[.int .i64 f, .int .i64 i]).run Tryz.prog w = .ok (.round l fn tmps assign body) w /\ RoundIn Fence.wide 0 Tryz.prog l fn tmps assign body w fun e w' =>
   e = .returned (.bool true) /\ ∃ L' I' G', YQ key L f i L' /\ HRel w' I' G' (aL nl T (aA L')) /\ Keeps w I w' I' /\ Like G G' (aL nl T (aA L)) (aL nl T (aA L')) /\ Z w' I' G' (aL nl T (aA L'))
def o8 (ops : Array Oper) : Oper := ops.toList.getD 8 default
theorem e6a (y : Value) (es : List (List PV)) (i f : Int) (K : Env -> Hp -> Prop) : bO Tryz.prog (fun _ => none) 39 (bU (c4 Tryz.f161)).toList ((bU (c4 Tryz.f161)).toList.take 8) (eM y i f) (aL nl T es) K =
 K ((35, LV.spec 32 true (.pv (.int .i64 i))) :: (34, LV.spec 32 true (.pv (.int .i64 f))) :: (33, LV.spec 32 true (.pv (.raw y))) :: (32, .pv (.bool (decide (i64.wrap (i - f) > (1 : Int))))) :: (31, .pv (.bool (decide (i64.wrap (i - f) > (1 : Int))))) ::
  (30, .pv (.int .i64 (i64.wrap (i - f)))) :: (29, .pv (.int .i64 f)) :: (28, .pv (.int .i64 i)) :: eM y i f) (aL nl T es) := by kernel_rfl
theorem e6b (y : Value) (es : List (List PV)) (i f : Int) (K : Env -> Hp -> Prop) : bO Tryz.prog (fun _ => none) 39 (bU (c4 Tryz.f161)).toList ((bU (c4 Tryz.f161)).toList.drop 9) ((36, .pv (.bool true)) :: (32, .pv (.bool true)) :: eM y i f) (aL nl T es) K =
 K ((38, .pv (.bool false)) :: (37, .spec 32 true (.pv (.bool false))) :: (36, .pv (.bool true)) :: (32, .pv (.bool true)) :: eM y i f) (aL nl T es) := by kernel_rfl
theorem e6c (y : Value) (es : List (List PV)) (i f : Int) (K : Env -> Hp -> Prop) : bO Tryz.prog (fun _ => none) 39 (bU (c4 Tryz.f161)).toList ((bU (c4 Tryz.f161)).toList.drop 9) ((32, .pv (.bool false)) :: eM y i f) (aL nl T es) K =
 K ((38, .pv (.bool false)) :: (37, .pv .unit) :: (32, .pv (.bool false)) :: (32, .pv (.bool false)) :: eM y i f) (aL nl T es) := by kernel_rfl
theorem zpd : c4 Tryz.f161 = .region 6 (bU (c4 Tryz.f161)) false := by kernel_rfl
theorem zpe : (bU (c4 Tryz.f161)).size = 11 /\ iI (bU (c4 Tryz.f161)).toList = true /\ (bU (c4 Tryz.f161)).toList.length = 11 /\ (bU (c4 Tryz.f161))[8]? = some (o8 (bU (c4 Tryz.f161))) /\
 (o8 (bU (c4 Tryz.f161))).dst = some 36 /\ (o8 (bU (c4 Tryz.f161))).guard = some (4, true) /\ (o8 (bU (c4 Tryz.f161))).op = .call { callee := .value (.tmp 33), args := #[.tmp 34, .tmp 35], argTypes := #[3, 3] } /\
 ((bU (c4 Tryz.f161))[4]?).bind (·.dst) = some 32 :=
 ⟨by kernel_rfl, by kernel_rfl, by kernel_rfl, by kernel_rfl, by kernel_rfl, by kernel_rfl, by kernel_rfl, by kernel_rfl⟩
theorem zpf {F : Fence} {n : Nat} {P : Program} {ops : Array Oper} {Q : Exit -> Act -> World -> Prop} {i : Nat} {rest : List Nat} {a : Act} {w : World} {o : Oper} (ho : ops[i]? = some o)
 (h : if Region.wanted o (yielded ops a.tmps) then o.wpIn F n P a w (wpOpsIn F n P ops Q rest) Q else (∀ f, o.about P w a.eval = some f -> F.fn f) /\ wpOpsIn F n P ops Q rest (a.put o.dst undef) w) : wpOpsIn F n P ops Q (i :: rest) a w := by
 simp only [wpOpsIn, ho]; exact h
theorem zpg {w : World} {I : Nat -> Prop} {G : Nat -> Pl} {h : Hp} {tm : Array Value} {s : Nat} {b : Bool} (hr : LRel w I G h (.pv (.bool b)) (tm.getD s undef)) : tm[s]? = some (.bool b) := by
 have := hr.bool_eq
 rw [Array.getD_eq_getD_getElem?] at this
 cases hx : tm[s]? with
 | none => rw [hx] at this; simp [undef] at this
 | some v => rw [hx] at this; simpa using this
theorem LRel.raw_eq {w : World} {I : Nat -> Prop} {G : Nat -> Pl} {h : Hp} {v cv : Value} (hr : LRel w I G h (.pv (.raw v)) cv) : cv = v := by cases hr with | pv _ _ h1 => cases h1; rfl
theorem zph {N0 : Nat} (hY : yT Z key nl T l N0) (hZ : ∀ w I G h w' I' G' h', Z w I G h -> HRel w I G h -> HRel w' I' G' h' -> TrN 5 w I G h w' I' G' h' -> Z w' I' G' h') (L : List Int) (f i : Nat) (hf : f <= i) (hi : i <= L.length) (hr : R32 L) (hL : L.length < 1000000000000) (hN : L.length = N0) :
 CodeZ Z Tryz.prog 39 (c4 Tryz.f161) (eM (.func (.yield l) #[] #[]) i f) (aL nl T (aA L)) fun x e h => ∃ L', x = .normal /\ (if f + 1 < i then YQ key L f i L' else L' = L) /\ e = (38, .pv (.bool false)) :: eM (.func (.yield l) #[] #[]) i f /\ h = aL nl T (aA L') := by
 intro w I G a Qx hs hz hq
 obtain ⟨q1, q2, q3, q4, q5, q6, q7, q8⟩ := zpe
 rw [zpd]
 have ea := e6a (nl := nl) (T := T) (.func (.yield l) #[] #[]) (aA L) i f
 have eb := fun es => e6b (nl := nl) (T := T) (.func (.yield l) #[] #[]) es i f
 have ec := e6c (nl := nl) (T := T) (.func (.yield l) #[] #[]) (aA L) i f
 generalize bU (c4 Tryz.f161) = O at *
 generalize o8 O = o at *
 have ww : i64.wrap ((i : Int) - f) = (i : Int) - f := aD (by omega) (by omega)
 rw [ww] at ea
 refine wp_mono (Q := fun x a' w' => x = .normal /\ ∃ L' I' G', (if f + 1 < i then YQ key L f i L' else L' = L) /\ SRel w' I' G' ((38, .pv (.bool false)) :: eM (.func (.yield l) #[] #[]) i f) (aL nl T (aA L')) 39 a' /\ a'.defers = a.defers /\ Z w' I' G' (aL nl T (aA L'))) ((wpIn_wide (n := 0)).1 (wpIn_region (F := wd none) ?_)) ?_
 rotate_left
 ·rintro x a' w' ⟨rfl, L', I', G', h1, h2, h3, h4⟩
  exact hq .normal _ _ w' I' G' a' ⟨L', rfl, h1, rfl, rfl⟩ h2 h3 h4
 rw [q1, show List.range 11 = List.range' 0 8 ++ (8 :: List.range' 9 2) from rfl]
 refine sH ?_
 rw [show (8 : Nat) = (O.toList.take 8).length by simp [q3]]
 have hsuf : ∀ j, j < (O.toList.drop 9).length -> (O.toList.drop 9)[j]? = O[9 + j]? := fun j _ => by rw [List.getElem?_drop]; simp
 have hl2 : (O.toList.drop 9).length = 2 := by simp [q3]
 refine wH (ro := none) q2 (fun j hj => ?_) (by rw [ea]; exact ⟨rfl, rfl⟩ : bO Tryz.prog (fun _ => none) 39 O.toList (O.toList.take 8) _ _ (fun e' h' => e' = _ /\ h' = aL nl T (aA L))) hs (fun a w h => nomatch h.1) ?_
 ·rw [List.getElem?_take, if_pos (by simp only [List.length_take] at hj; omega)]; simp
 rintro _ _ w1 I1 G1 a1 ⟨rfl, rfl⟩ hs1 hd1 ht1
 rw [show (O.toList.take 8).length = 8 by simp [q3]]
 have hz1 := hZ _ _ _ _ _ _ _ _ hz hs.hh hs1.hh ht1.toN
 have h32 := zpg (hs1.he 32 _ rfl)
 have hyl : yielded O a1.tmps 4 = some (decide ((i : Int) - f > 1)) := by
  unfold yielded
  rw [q8]; simp [h32]
 have hwd : Region.wanted o (yielded O a1.tmps) = decide ((i : Int) - f > 1) := by unfold Region.wanted; rw [q6]; simp [hyl]
 show wpOpsIn (wd none) 0 Tryz.prog O _ (8 :: List.range' 9 2) a1 w1
 refine zpf q4 ?_
 rw [hwd]
 have hdst : gT 39 o = true := by unfold gT; rw [q5]; rfl
 by_cases hc : f + 1 < i
 ·have hd' : decide ((i : Int) - f > 1) = true := by simp; omega
  rw [hd'] at hs1 h32 ⊢
  rw [if_pos rfl]
  refine ⟨fun _ _ => trivial, ?_⟩
  have h32' : a1.tmps.getD 32 undef = .bool true := (hs1.he 32 _ rfl).bool_eq
  have v33 := ((hs1.he 33 _ rfl).1 h32').raw_eq
  have v34 := ((hs1.he 34 _ rfl).1 h32').int_eq
  have v35 := ((hs1.he 35 _ rfl).1 h32').int_eq
  obtain ⟨fn, tmps, assign, body, hy, hR⟩ := hY w1 I1 G1 L f i hs1.hh hz1 hc hi hr hL hN
  have hrun : (o.semAt none a1.eval).run Tryz.prog w1 = .ok (.round l fn tmps assign body) w1 := by
   rw [Oper.semAt_none]
   unfold execOp
   rw [q7]
   have e33 : a1.eval (.tmp 33) = .func (.yield l) #[] #[] := v33
   have e34 : a1.eval (.tmp 34) = .int .i64 f := v34
   have e35 : a1.eval (.tmp 35) = .int .i64 i := v35
   have hres : resolve a1.eval { callee := .value (.tmp 33), args := #[.tmp 34, .tmp 35], argTypes := #[3, 3] } o.type = pure { target := .fn (.yield l) #[], args := #[.int .i64 f, .int .i64 i] } := by
    simp [resolve, e33, e34, e35, Deferred.ofValue]
   simp only [hres, pure_bind]
   exact hy
  rw [hrun]
  refine ⟨(fun x => by cases x), hR.mono ?_⟩
  rintro e w2 ⟨rfl, L', I2, G2, y1, y2, y3, y4, y5⟩
  have hs2 : SRel w2 I2 G2 ((36, .pv (.bool true)) :: (32, .pv (.bool true)) :: eM (.func (.yield l) #[] #[]) i f) (aL nl T (aA L')) 39 (a1.put o.dst (.bool true)) := by
   have s1 : SRel w1 I1 G1 ((32, .pv (.bool true)) :: eM (.func (.yield l) #[] #[]) i f) (aL nl T (aA L)) 39 a1 := hs1.le (LeE.le ⟨rfl, rfl, rfl, rfl, rfl, rfl, trivial⟩)
   obtain ⟨p1, p2⟩ := j7 (v := .pv (.bool true)) hdst s1.hn y2 (s1.he.mono y3 y4) (.pv _ _ (.bool true))
   have : put o (.pv (.bool true)) ((32, .pv (.bool true)) :: eM (.func (.yield l) #[] #[]) i f) = (36, .pv (.bool true)) :: (32, .pv (.bool true)) :: eM (.func (.yield l) #[] #[]) i f := by unfold put; rw [q5]; rfl
   rwa [this] at p1
  have := wH (ro := none) (n := 0) (k := 9) q2 hsuf (by rw [eb]; exact ⟨rfl, rfl⟩ : bO Tryz.prog (fun _ => none) 39 O.toList (O.toList.drop 9) _ _ (fun e' h' => e' = _ /\ h' = aL nl T (aA L'))) hs2 (Q := fun x a' w' => x = .normal /\ ∃ L' I' G', (if f + 1 < i then YQ key L f i L' else L' = L) /\ SRel w' I' G' ((38, .pv (.bool false)) :: eM (.func (.yield l) #[] #[]) i f) (aL nl T (aA L')) 39 a' /\ a'.defers = a.defers /\ Z w' I' G' (aL nl T (aA L'))) (fun a w h => nomatch h.1) (by
   rintro _ _ w3 I3 G3 a3 ⟨rfl, rfl⟩ hs3 hd3 ht3
   refine ⟨rfl, L', I3, G3, by rw [if_pos hc]; exact y1, hs3.le (LeE.le ⟨rfl, rfl, rfl, rfl, rfl, rfl, trivial⟩), hd3.trans ((by unfold Act.put; cases o.dst <;> rfl : (a1.put o.dst (.bool true)).defers = a1.defers).trans hd1), hZ _ _ _ _ _ _ _ _ y5 hs2.hh hs3.hh ht3.toN⟩)
  rw [hl2] at this
  exact this
 ·have hd' : decide ((i : Int) - f > 1) = false := by simp; omega
  rw [hd'] at hs1 h32 ⊢
  rw [if_neg (by simp)]
  refine ⟨fun _ _ => trivial, ?_⟩
  have hlt : 36 < a1.tmps.size := by rw [hs1.hn]; omega
  have hs2 : SRel w1 I1 G1 ((32, .pv (.bool false)) :: eM (.func (.yield l) #[] #[]) i f) (aL nl T (aA L)) 39 (a1.put o.dst undef) := by
   have s1 : SRel w1 I1 G1 ((32, .pv (.bool false)) :: eM (.func (.yield l) #[] #[]) i f) (aL nl T (aA L)) 39 a1 := hs1.le (LeE.le ⟨rfl, rfl, rfl, rfl, rfl, rfl, trivial⟩)
   obtain ⟨p1, p2⟩ := j7 (v := .bot) (cv := undef) hdst s1.hn s1.hh s1.he (.bot _)
   have : put o .bot ((32, .pv (.bool false)) :: eM (.func (.yield l) #[] #[]) i f) = (36, .bot) :: (32, .pv (.bool false)) :: eM (.func (.yield l) #[] #[]) i f := by unfold put; rw [q5]; rfl
   rw [this] at p1
   exact p1.le (LeE.le ⟨rfl, rfl, rfl, rfl, rfl, rfl, trivial⟩)
  have := wH (ro := none) (n := 0) (k := 9) q2 hsuf (by rw [ec]; exact ⟨rfl, rfl⟩ : bO Tryz.prog (fun _ => none) 39 O.toList (O.toList.drop 9) _ _ (fun e' h' => e' = _ /\ h' = aL nl T (aA L))) hs2 (Q := fun x a' w' => x = .normal /\ ∃ L' I' G', (if f + 1 < i then YQ key L f i L' else L' = L) /\ SRel w' I' G' ((38, .pv (.bool false)) :: eM (.func (.yield l) #[] #[]) i f) (aL nl T (aA L')) 39 a' /\ a'.defers = a.defers /\ Z w' I' G' (aL nl T (aA L'))) (fun a w h => nomatch h.1) (by
   rintro _ _ w3 I3 G3 a3 ⟨rfl, rfl⟩ hs3 hd3 ht3
   exact ⟨rfl, L, I3, G3, by rw [if_neg hc], hs3.le (LeE.le ⟨rfl, rfl, rfl, rfl, rfl, rfl, trivial⟩), hd3.trans ((by unfold Act.put; cases o.dst <;> rfl : (a1.put o.dst undef).defers = a1.defers).trans hd1), hZ _ _ _ _ _ _ _ _ hz1 hs2.hh hs3.hh ht3.toN⟩)
  rw [hl2] at this
  exact this
end
end Go.Eng



namespace Go.Eng.Srt
open Go Go.Eng
section
variable (key : Int -> Int)
def dV (x y : Int) : Bool := decide (key x ≠ 0) && decide (key x < key y)
def qB (x : Int) : List Int -> List Int
 | [] => [x]
 | y :: r => if dV key x y = true then y :: qB x r else x :: y :: r
def ins (l : List Int) (x : Int) : List Int := (qB key x l.reverse).reverse
def bS (l : List Int) : List Int := l.foldl (ins key) []
inductive Eqv : List Int -> List Int -> Prop
 | refl (a : List Int) : Eqv a a
 | swap (u v w : List Int) (x y : Int) (hx : key x ≠ 0) (hy : key y ≠ 0) (hxy : key x ≠ key y) (h : Eqv (u ++ y :: x :: v) w) : Eqv (u ++ x :: y :: v) w
def bY : List Int -> Prop
 | x :: y :: r => (key y ≠ 0 -> key x <= key y) /\ bY (y :: r)
 | _ => True
end
variable {key : Int -> Int}
theorem nH {x y : Int} : dV key x y = true ↔ key x ≠ 0 /\ key x < key y := by simp [dV]
theorem tK {x y : Int} : dV key x y = false ↔ key x = 0 ∨ key y <= key x := by
 simp only [dV, Bool.and_eq_false_imp, decide_eq_true_eq, decide_eq_false_iff_not]
 constructor
 ·intro h; by_cases h0 : key x = 0
  ·exact .inl h0
  ·exact .inr (by have := h h0; omega)
 ·rintro (h | h) h0
  ·exact absurd h h0
  ·omega
theorem zgd {x : Int} : ∀ {B A : List Int}, (∀ y ∈ B, dV key x y = true) -> (A = [] ∨ ∃ z A', A = z :: A' /\ dV key x z = false) -> qB key x (B ++ A) = B ++ x :: A
 | [], A, _, h => by
   rcases h with rfl | ⟨z, A', rfl, h⟩
   ·rfl
   ·simp [qB, h]
 | y :: B, A, hB, h => by
   rw [List.cons_append, qB, if_pos (hB y List.mem_cons_self), zgd (fun z hz => hB z (List.mem_cons_of_mem _ hz)) h]; rfl
theorem l7 {x : Int} {A B : List Int} (h1 : ∀ y ∈ B, dV key x y = true) (h2 : A = [] ∨ ∃ A' z, A = A' ++ [z] /\ dV key x z = false) : ins key (A ++ B) x = A ++ x :: B := by
 unfold ins
 rw [List.reverse_append, zgd (fun y hy => h1 y (List.mem_reverse.1 hy)) (h2.elim (fun e => .inl (by rw [e]; rfl)) fun ⟨A', z, e, h⟩ => .inr ⟨z, A'.reverse, by rw [e]; simp, h⟩)]
 simp
theorem yU (l : List Int) (x : Int) : ∃ A B, l = A ++ B /\ (∀ y ∈ B, dV key x y = true) /\ (A = [] ∨ ∃ A' z, A = A' ++ [z] /\ dV key x z = false) := by
 have : ∀ r : List Int, ∃ B A, r = B ++ A /\ (∀ y ∈ B, dV key x y = true) /\ (A = [] ∨ ∃ z A', A = z :: A' /\ dV key x z = false) := by
  intro r
  induction r with
  | nil => exact ⟨[], [], rfl, (fun y hy => by cases hy), .inl rfl⟩
  | cons y r ih =>
    cases hp : dV key x y with
    | true =>
      obtain ⟨B, A, e, h1, h2⟩ := ih
      exact ⟨y :: B, A, by rw [e]; rfl, fun z hz => by rcases List.mem_cons.1 hz with rfl | hz; exact hp; exact h1 z hz, h2⟩
    | false => exact ⟨[], y :: r, rfl, (fun y hy => by cases hy), .inr ⟨y, r, rfl, hp⟩⟩
 obtain ⟨B, A, e, h1, h2⟩ := this l.reverse
 refine ⟨A.reverse, B.reverse, by rw [<- List.reverse_append, <- e]; simp, fun y hy => h1 y (List.mem_reverse.1 hy), h2.elim (fun e => .inl (by rw [e]; rfl)) fun ⟨z, A', e, h⟩ => .inr ⟨A'.reverse, z, by rw [e]; simp, h⟩⟩
theorem zge {l : List Int} {x y : Int} (hx : key x ≠ 0) (hxy : key x < key y) : ins key (ins key l y) x = ins key (ins key l x) y := by
 obtain ⟨B1, B2, rfl, b1, b2⟩ := yU (key := key) l y
 obtain ⟨C1, C2, rfl, c1, c2⟩ := yU (key := key) B1 x
 have px : ∀ z ∈ B2, dV key x z = true := fun z hz => nH.2 ⟨hx, by have := (nH.1 (b1 z hz)).2; omega⟩
 rw [l7 b1 b2]
 have e1 : C1 ++ C2 ++ y :: B2 = C1 ++ (C2 ++ y :: B2) := by simp
 have e2 : C1 ++ C2 ++ B2 = C1 ++ (C2 ++ B2) := by simp
 rw [e1, l7 (B := C2 ++ y :: B2) (fun z hz => ?_) c2, e2, l7 (B := C2 ++ B2) (fun z hz => ?_) c2]
 ·have e3 : C1 ++ x :: (C2 ++ B2) = (C1 ++ x :: C2) ++ B2 := by simp
  rw [e3, l7 b1 (.inr ?_)]
  ·simp
  ·rcases C2.eq_nil_or_concat with rfl | ⟨D, z, rfl⟩
   ·exact ⟨C1, x, rfl, tK.2 (.inr (by omega))⟩
   ·refine ⟨C1 ++ x :: D, z, by simp, ?_⟩
    rcases b2 with e | ⟨A', z', e, h⟩
    ·simp at e
    ·have : z = z' := by
      have := congrArg List.getLast? e
      simp at this; exact this
     rw [this]; exact h
 ·rcases List.mem_append.1 hz with hz | hz
  ·exact c1 z hz
  ·exact px z hz
 ·rcases List.mem_append.1 hz with hz | hz
  ·exact c1 z hz
  ·rcases List.mem_cons.1 hz with rfl | hz
   ·exact nH.2 ⟨hx, hxy⟩
   ·exact px z hz
theorem zpi {l : List Int} {x y : Int} (hx : key x ≠ 0) (hy : key y ≠ 0) (hxy : key x ≠ key y) : ins key (ins key l x) y = ins key (ins key l y) x := by
 rcases Int.lt_or_gt_of_ne hxy with h | h
 ·exact (zge hx h).symm
 ·exact zge hy h
theorem yV (l : List Int) (x : Int) : bS key (l ++ [x]) = ins key (bS key l) x := by simp [bS]
theorem Eqv.trans {a b c : List Int} (h : Eqv key a b) (k : Eqv key b c) : Eqv key a c := by
 induction h with
 | refl a => exact k
 | swap u v w x y hx hy hxy h ih => exact .swap u v c x y hx hy hxy (ih k)
theorem Eqv.app {a b : List Int} (h : Eqv key a b) (p q : List Int) : Eqv key (p ++ (a ++ q)) (p ++ (b ++ q)) := by
 induction h with
 | refl a => exact .refl _
 | swap u v w x y hx hy hxy h ih =>
   have := Eqv.swap (p ++ u) (v ++ q) _ x y hx hy hxy (by simpa using ih)
   simpa using this
theorem Eqv.symm {a b : List Int} (h : Eqv key a b) : Eqv key b a := by
 induction h with
 | refl a => exact .refl _
 | swap u v w x y hx hy hxy h ih => exact ih.trans (.swap u v _ y x hy hx (Ne.symm hxy) (.refl _))
theorem zpj {a b : List Int} (h : Eqv key a b) : bS key a = bS key b := by
 induction h with
 | refl a => rfl
 | swap u v w x y hx hy hxy h ih =>
   rw [<- ih]
   simp only [bS, List.foldl_append, List.foldl_cons]
   rw [zpi hx hy hxy]
theorem Eqv.len {a b : List Int} (h : Eqv key a b) : a.length = b.length := by
 induction h with
 | refl a => rfl
 | swap u v w x y hx hy hxy h ih => rw [<- ih]; simp
theorem Eqv.mem {a b : List Int} (h : Eqv key a b) {z : Int} : z ∈ a ↔ z ∈ b := by
 induction h with
 | refl a => exact Iff.rfl
 | swap u v w x y hx hy hxy h ih => rw [<- ih]; simp only [List.mem_append, List.mem_cons]; exact or_congr_right ⟨fun h => h.elim (fun e => .inr (.inl e)) (fun h => h.elim .inl fun h => .inr (.inr h)), fun h => h.elim (fun e => .inr (.inl e)) (fun h => h.elim .inl fun h => .inr (.inr h))⟩
theorem Eqv.ahead {x : Int} (hx : key x ≠ 0) : ∀ {B : List Int} (q : List Int), (∀ y ∈ B, key y ≠ 0 /\ key y ≠ key x) -> Eqv key (B ++ x :: q) (x :: (B ++ q))
 | [], q, _ => .refl _
 | y :: B, q, h => by
   have h1 := Eqv.ahead hx (B := B) q fun z hz => h z (List.mem_cons_of_mem _ hz)
   have h2 := h1.app [y] []
   simp only [List.append_nil, List.cons_append, List.nil_append] at h2
   obtain ⟨hy, hyx⟩ := h y List.mem_cons_self
   exact h2.trans (.swap [] (B ++ q) _ y x hy hx hyx (.refl _))
theorem zpk (hk : ∀ x, 0 <= key x) (l : List Int) (x : Int) : Eqv key (l ++ [x]) (ins key l x) := by
 obtain ⟨A, B, rfl, h1, h2⟩ := yU (key := key) l x
 rw [l7 h1 h2]
 by_cases hB : B = []
 ·subst hB; simp; exact .refl _
 ·obtain ⟨y, hy⟩ := List.exists_mem_of_ne_nil B hB
  have hx := (nH.1 (h1 y hy)).1
  have := (Eqv.ahead hx (B := B) [] fun z hz => by have := (nH.1 (h1 z hz)).2; have := hk x; omega).app A []
  simpa using this
theorem kR {p : List Int -> Prop} (h0 : p []) (h1 : ∀ l x, p l -> p (l ++ [x])) (l : List Int) : p l := by
 have : ∀ r : List Int, p r.reverse := by
  intro r
  induction r with
  | nil => exact h0
  | cons x r ih => rw [List.reverse_cons]; exact h1 _ _ ih
 have := this l.reverse
 rwa [List.reverse_reverse] at this
theorem tL (hk : ∀ x, 0 <= key x) (l : List Int) : Eqv key l (bS key l) := by
 induction l using kR with
 | h0 => exact .refl _
 | h1 l x ih =>
   rw [yV]
   have := ih.app [] [x]
   exact Eqv.trans (by simpa using this) (zpk hk _ x)
theorem l8 : ∀ {A B : List Int}, bY key (A ++ B) ↔ bY key A /\ bY key B /\ (∀ z x, A.getLast? = some z -> B.head? = some x -> key x ≠ 0 -> key z <= key x)
 | [], B => by simp [bY]
 | [a], [] => by simp [bY]
 | [a], b :: B => by simp [bY, and_comm]
 | a :: c :: A, B => by
   have := l8 (A := c :: A) (B := B)
   simp only [List.cons_append, bY] at this ⊢
   rw [this, List.getLast?_cons_cons, and_assoc]
theorem zpl {l : List Int} (h : bY key l) : bS key l = l := by
 revert h
 induction l using kR with
 | h0 => exact fun _ => rfl
 | h1 l x ih =>
   intro h
   obtain ⟨q1, q2, q3⟩ := l8.1 h
   rw [yV, ih q1]
   have := l7 (key := key) (x := x) (A := l) (B := []) (fun y hy => by cases hy) (by
    rcases l.eq_nil_or_concat with rfl | ⟨D, z, rfl⟩
    ·exact .inl rfl
    ·refine .inr ⟨D, z, by simp, tK.2 ?_⟩
     by_cases hx : key x = 0
     ·exact .inl hx
     ·exact .inr (q3 z x (by simp) rfl hx))
   simpa using this
theorem zgf : ∀ {S' S : List Int}, Stab key S S' -> (∀ x ∈ S, key x ≠ 0) -> Eqv key S S'
 | [], S, h, _ => by have := h.len; cases S with | nil => exact .refl _ | cons => simp at this
 | y :: r, S, h, h0 => by
   have hf := h.2 (key y)
   rw [List.filter_cons, if_pos (by simp)] at hf
   obtain ⟨A, B, rfl, hA, hB⟩ := List.filter_eq_cons_iff.1 hf
   have hy : key y ≠ 0 := h0 y (by simp)
   have hA' : ∀ z ∈ A, key z ≠ key y := fun z hz => by have := hA z hz; simpa using this
   have e1 := Eqv.ahead hy (B := A) B fun z hz => ⟨h0 z (by simp [hz]), hA' z hz⟩
   have hs : Stab key (A ++ B) r := by
    refine ⟨(List.perm_cons y).1 ((List.perm_middle.symm).trans h.1), fun c => ?_⟩
    have := h.2 c
    rw [List.filter_append, List.filter_cons, List.filter_cons] at this
    rw [List.filter_append]
    by_cases hc : key y = c
    ·have hn : A.filter (fun x => decide (key x = c)) = [] := List.filter_eq_nil_iff.2 fun z hz => by simp only [decide_eq_true_eq]; intro e; exact hA' z hz (e.trans hc.symm)
     rw [hn] at this ⊢
     simp only [hc, decide_true, if_true, List.nil_append, List.cons.injEq, true_and] at this
     exact this
    ·simp only [hc, decide_false, Bool.false_eq_true, if_false] at this
     exact this
   have e2 := (zgf hs fun z hz => h0 z (by rcases List.mem_append.1 hz with hz | hz <;> simp [hz])).app [y] []
   simp only [List.append_nil, List.cons_append, List.nil_append] at e2
   exact e1.trans e2
theorem zgg : ∀ {S : List Int}, Srtd key S -> bY key S
 | [], _ => trivial
 | [a], _ => trivial
 | a :: b :: S, h => ⟨fun _ => (List.pairwise_cons.1 h).1 b List.mem_cons_self, zgg (List.pairwise_cons.1 h).2⟩
theorem tM (L : List Int) {i j : Nat} (hij : i <= j) (hj : j <= L.length) : L = L.take i ++ ((L.take j).drop i ++ L.drop j) /\ (L.take i).length = i /\ ((L.take j).drop i).length = j - i := by
 refine ⟨?_, by rw [List.length_take]; omega, by rw [List.length_drop, List.length_take]; omega⟩
 have h1 : L = L.take j ++ L.drop j := (List.take_append_drop j L).symm
 have h2 : L.take j = (L.take j).take i ++ (L.take j).drop i := (List.take_append_drop i _).symm
 rw [List.take_take, Nat.min_eq_left hij] at h2
 rw [<- List.append_assoc, <- h2]; exact h1
theorem zpm (hk : ∀ x, 0 <= key x) {L : List Int} {i j : Nat} (hij : i <= j) (hj : j <= L.length) (hb : i = 0 ∨ key (L.getD (i - 1) 0) = 0) (hnz : ∀ k, i <= k -> k < j -> key (L.getD k 0) ≠ 0) (hend : j = L.length ∨ key (L.getD j 0) = 0)
 (hc : bY key (L.take i)) {S' : List Int} (hs : Srtd key S') (hst : Stab key ((L.take j).drop i) S') :
 Eqv key L (L.take i ++ (S' ++ L.drop j)) /\ bY key ((L.take i ++ (S' ++ L.drop j)).take (j + 1)) /\ (j < L.length -> key ((L.take i ++ (S' ++ L.drop j)).getD j 0) = 0) := by
 obtain ⟨c1, c2, c3⟩ := tM L hij hj
 have hl : S'.length = j - i := by rw [<- hst.len]; exact c3
 refine ⟨?_, ?_, fun hlt => ?_⟩
 ·have hm : ∀ x ∈ (L.take j).drop i, key x ≠ 0 := fun x hx => by
   obtain ⟨k, hk1, hk2⟩ := List.getElem_of_mem hx
   have := hnz (i + k) (by omega) (by omega)
   rw [List.getElem_drop, List.getElem_take] at hk2
   have hl2 : i + k < L.length := by omega
   simp only [List.getD, List.getElem?_eq_getElem hl2, Option.getD_some, hk2] at this
   exact this
  have := (zgf hst hm).app (L.take i) (L.drop j)
  rwa [<- c1] at this
 ·rw [List.take_append, c2, List.take_of_length_le (by omega), List.take_append, hl, List.take_of_length_le (by omega : S'.length <= j + 1 - i), show j + 1 - i - (j - i) = 1 by omega]
  have hR : ∀ x, ((L.drop j).take 1).head? = some x -> key x = 0 := fun x hx => by
   rcases hend with e | e
   ·rw [List.drop_eq_nil_of_le (by omega)] at hx; cases hx
   ·rcases Nat.lt_or_ge j L.length with h' | h'
    ·rw [List.drop_eq_getElem_cons h'] at hx
     simp only [List.take_succ_cons, List.head?_cons, Option.some.injEq] at hx
     rw [<- hx]
     simpa [List.getD, List.getElem?_eq_getElem h'] using e
    ·rw [List.drop_eq_nil_of_le h'] at hx; cases hx
  refine l8.2 ⟨hc, l8.2 ⟨zgg hs, ?_, fun z x _ hx h0 => absurd (hR x hx) h0⟩, fun z x hz hx h0 => ?_⟩
  ·cases L.drop j with
   | nil => trivial
   | cons a r => trivial
  ·have : key z = 0 := by
    rcases hb with rfl | hb
    ·simp at hz
    ·rw [List.getLast?_eq_getElem?, c2] at hz
     by_cases h0 : i = 0
     ·subst h0; simp at hz
     ·rw [List.getElem?_take, if_pos (by omega)] at hz
      simpa [List.getD, hz] using hb
   rw [this]; exact hk x
 ·rcases hend with e | e
  ·omega
  ·rw [<- List.append_assoc]
   simp only [List.getD] at e ⊢
   rw [List.getElem?_append_right (by simp only [List.length_append]; omega), List.length_append, c2, hl, List.getElem?_drop, show j + (j - (i + (j - i))) = j by omega]
   exact e
theorem zpn {S : List Int} (h : S.length <= 1) : Srtd key S := by
 match S, h with
 | [], _ => exact List.Pairwise.nil
 | [a], _ => exact List.pairwise_singleton _ _
end Go.Eng.Srt



namespace Go.Eng
open Go Go.Proofs Go.Eng.Rows Go.Eng.Srt
section
variable {Z : World -> (Nat -> Prop) -> (Nat -> Pl) -> Hp -> Prop} {key : Int -> Int} {nl : Bool} {T : PV} {l : Nat} {y : Value} {es : List (List PV)}
theorem eI0 (Q : Qt) : cZ Tryz.prog (fun _ => none) 5 39 lM (fun _ => none) (dB (cM Tryz.f161)) (eT [.pv (.raw y), .box 4 0, .box 3 0] 0) (aL nl T es) Q = Q .normal (eN y 0) (aL nl T es) := by kernel_rfl
theorem eI1 (i : Int) (Q : Qt) : cZ Tryz.prog (fun _ => none) 5 39 lM (fun _ => none) (dB (cL Tryz.f161)) (eN y i) (aL nl T es) Q =
 if decide (i < (es.length : Int)) = true then Q .normal [(0, .pv (.raw y)), (1, .box 4 0), (2, .box 3 0), (4, .pv (.int .i64 i)), (9, .pv (.bool (decide (i < (es.length : Int)))))] (aL nl T es)
 else Q (.exit 0) [(0, .pv (.raw y)), (1, .box 4 0), (2, .box 3 0), (4, .pv (.int .i64 i)), (9, .pv (.bool (decide (i < (es.length : Int)))))] (aL nl T es) := by kernel_rfl
theorem eI3 (i : Int) (Q : Qt) : cZ Tryz.prog (fun _ => none) 5 39 lM (fun _ => none) (dB (cB Tryz.f161)) (eN y i) (aL nl T es) Q = Q .normal (eM y i i) (aL nl T es) := by kernel_rfl
theorem eI2 (i : Int) (Q : Qt) : cZ Tryz.prog (fun _ => none) 5 39 lM (fun _ => none) (cD (cD (cL Tryz.f161))) (eN y i) (aL nl T es) Q = Q .normal (eN y (i64.wrap (i + 1))) (aL nl T es) := by kernel_rfl
def yW (y : Value) (i f : Int) (b : Bool) : Env := [(0, .pv (.raw y)), (1, .box 4 0), (2, .box 3 0), (4, .pv (.int .i64 i)), (5, .pv (.int .i64 f)), (25, .pv (.bool b))]
theorem eI4 (i f : Int) (J : Int -> Prop) (μ : Int -> Nat) (Q : Qt) : cZ Tryz.prog (fun _ => none) 5 39 lM (fun zz_ => match zz_ with | 4 => some ⟨Int × Unit, fun s => (eM y s.1 f, aL nl T es), fun _ s => J s.1, fun s => μ s.1, fun e h => (gI e 4, ()), [], [0, 1, 2, 4, 5], [], fun p => ∀ (x4 : Int), p (x4, ()), fun p h s => h s.1⟩ | _ => none) (dB (cD (cB Tryz.f161))) (eM y i f) (aL nl T es) Q =
 ((SameSt (eM y i f, aL nl T es) (eM y i f, aL nl T es) /\ J i) /\ ∀ (x4 : Int), J x4 -> if decide (x4 < (es.length : Int)) = true then aM es x4 1 /\ ∃ (n : Int), (List.drop 0 (es.getD x4.toNat [])).head? = some (.int .i32 n) /\ PCall Tryz.prog 80 [T, .int .i32 n] fun (v : PV) => ∃ (n1 : Int), v = .int .i64 n1 /\
  if (n1 != (0 : Int)) = true then SameSt (eM y (i64.wrap (x4 + 1)) f, aL nl T es) (eM y (i64.wrap (x4 + 1)) f, aL nl T es) /\ J (i64.wrap (x4 + 1)) /\ μ (i64.wrap (x4 + 1)) < μ x4
  else Q .normal (yW y x4 f (n1 != (0 : Int))) (aL nl T es)
   else Q .normal (yW y x4 f false) (aL nl T es)) := by kernel_rfl
theorem yX : cM Tryz.f161 = .seq (dB (cM Tryz.f161)) (.block 0 (.loop (cL Tryz.f161))) /\
 cL Tryz.f161 = .seq (dB (cL Tryz.f161)) (.seq (.block 1 (cB Tryz.f161)) (cD (cD (cL Tryz.f161)))) /\
 cB Tryz.f161 = .seq (dB (cB Tryz.f161)) (.seq (dB (cD (cB Tryz.f161))) (.seq (c4 Tryz.f161) (.cond (.tmp 38) .ret .skip))) := ⟨by kernel_rfl, by kernel_rfl, by kernel_rfl⟩
theorem CodeZ.le {P : Program} {N : Nat} {c : Code} {e e' : Env} {h : Hp} {Q : Qt} (hl : LeE e' e) (hK : CodeZ Z P N c e' h Q) : CodeZ Z P N c e h Q :=
 fun w I G a Qx hs hz hq => hK w I G a Qx (hs.le hl.le) hz hq
theorem zpo (hk : ∀ x, 0 <= key x) (hT : ∀ r : Int, (-2147483648 <= r /\ r <= 2147483647) -> PCall Tryz.prog 80 [T, .int .i32 r] fun v => v = .int .i64 (key r)) 
 (hZ : ∀ w I G h w' I' G' h', Z w I G h -> HRel w I G h -> HRel w' I' G' h' -> TrN 5 w I G h w' I' G' h' -> Z w' I' G' h') (L0 : List Int) (hY : yT Z key nl T l L0.length) (hr : R32 L0) (hL : L0.length < 1000000000000) :
 CodeZ Z Tryz.prog 39 (cM Tryz.f161) (eT [.pv (.raw (.func (.yield l) #[] #[])), .box 4 0, .box 3 0] 0) (aL nl T (aA L0)) fun x e h => x = .normal /\ h = aL nl T (aA (bS key L0)) := by
 obtain ⟨y, hy⟩ : ∃ y : Value, y = .func (.yield l) #[] #[] := ⟨_, rfl⟩
 rw [yX.1, <- hy]
 refine CodeZ.seq (CodeZ.of (n0 := 5) hZ (fZ (Eq.mpr (eI0 _) ?_)))
 show CodeZ Z Tryz.prog 39 (.block 0 (.loop (cL Tryz.f161))) (eN y 0) (aL nl T (aA L0)) _
 refine CodeZ.block (CodeZ.loop (σ := Nat × List Int) (fun s => (eN y s.1, aL nl T (aA s.2))) (fun s => s.1 <= L0.length + 1 /\ Eqv key L0 s.2 /\ bY key (s.2.take s.1) /\ (s.1 = 0 ∨ L0.length < s.1 ∨ key (s.2.getD (s.1 - 1) 0) = 0)) (fun s => L0.length + 1 - s.1) (0, L0) (LeE.le ⟨rfl, rfl, rfl, rfl, trivial⟩) rfl ⟨by omega, .refl _, by simp [bY], .inl rfl⟩ ?_)
 rintro ⟨i, L⟩ ⟨hi, hq, hc, hb⟩
 have hlen := hq.len
 have hr' : R32 L := fun x hx => hr x (hq.mem.2 hx)
 dsimp only at hi hq hc hb hlen ⊢
 rw [yX.2.1]
 refine CodeZ.seq (CodeZ.of (n0 := 5) hZ (fZ (Eq.mpr (eI1 _ _) ?_)))
 by_cases hlt : i < L.length
 ·rw [if_pos (by simpa using hlt)]
  show CodeZ Z Tryz.prog 39 (.seq (.block 1 (cB Tryz.f161)) (cD (cD (cL Tryz.f161)))) _ _ _
  refine CodeZ.le (e' := eN y i) ⟨rfl, rfl, rfl, rfl, trivial⟩ (CodeZ.seq (CodeZ.block ?_))
  rw [yX.2.2]
  refine CodeZ.seq (CodeZ.of (n0 := 5) hZ (fZ (Eq.mpr (eI3 _ _) ?_)))
  show CodeZ Z Tryz.prog 39 (.seq (dB (cD (cB Tryz.f161))) (.seq (c4 Tryz.f161) (.cond (.tmp 38) .ret .skip))) (eM y i i) _ _
  refine CodeZ.seq (CodeZ.of (n0 := 5) hZ (fZ (Eq.mpr (eI4 _ _ (fun x => ∃ j : Nat, x = j /\ i <= j /\ j <= L.length /\ ∀ k, i <= k -> k < j -> key (L.getD k 0) ≠ 0) (fun x => ((L.length : Int) - x).toNat) _) ?_)))
  refine ⟨⟨rfl, i, rfl, Nat.le_refl _, by omega, fun k h1 h2 => by omega⟩, ?_⟩
  rintro _ ⟨j, rfl, hij, hj, hnz⟩
  -- what follows the row of marks
  have rest : ∀ b, (j = L.length ∨ key (L.getD j 0) = 0) -> CodeZ Z Tryz.prog 39 (.seq (c4 Tryz.f161) (.cond (.tmp 38) .ret .skip)) (yW y j i b) (aL nl T (aA L)) fun x e h => match x with
   | .normal => CodeZ Z Tryz.prog 39 (cD (cD (cL Tryz.f161))) e h fun x e h => match x with
     | .normal => ∃ s' : Nat × List Int, (∀ i v, get (eN y s'.1) i = some v -> get e i = some v) /\ h = aL nl T (aA s'.2) /\ (s'.1 <= L0.length + 1 /\ Eqv key L0 s'.2 /\ bY key (s'.2.take s'.1) /\ (s'.1 = 0 ∨ L0.length < s'.1 ∨ key (s'.2.getD (s'.1 - 1) 0) = 0)) /\ L0.length + 1 - s'.1 < L0.length + 1 - i
     | _ => False
   | _ => False := fun b hend => by
   refine CodeZ.le (e' := eM y j i) ⟨rfl, rfl, rfl, rfl, rfl, trivial⟩ (CodeZ.seq ?_)
   rw [hy]
   refine (zph hY hZ L i j hij hj hr' (by omega) hlen.symm).mono ?_
   rintro _ _ _ ⟨L', rfl, hL', rfl, rfl⟩
   refine CodeZ.cond (t := false) rfl ?_
   simp only [Bool.false_eq_true, if_false]
   refine CodeZ.skip ?_
   rw [<- hy]
   refine CodeZ.le (e' := eN y j) ⟨rfl, rfl, rfl, rfl, trivial⟩ (CodeZ.of (n0 := 5) hZ (fZ (Eq.mpr (eI2 _ _) ?_)))
   have wj : i64.wrap ((j : Int) + 1) = ((j + 1 : Nat) : Int) := by rw [aD (by omega) (by omega)]; omega
   rw [wj]
   have hb' : i = 0 ∨ key (L.getD (i - 1) 0) = 0 := by
    rcases hb with h | h | h
    ·exact .inl h
    ·omega
    ·exact .inr h
   obtain ⟨S', hs, hst, rfl⟩ : ∃ S', Srtd key S' /\ Stab key ((L.take j).drop i) S' /\ L' = L.take i ++ (S' ++ L.drop j) := by
    by_cases h1 : i + 1 < j
    ·rw [if_pos h1] at hL'
     obtain ⟨S', e, h2, h3⟩ := hL'
     exact ⟨S', h2, h3, e⟩
    ·rw [if_neg h1] at hL'
     obtain ⟨c1, c2, c3⟩ := tM L hij hj
     exact ⟨_, zpn (by omega), Stab.refl _, hL'.trans c1⟩
   obtain ⟨g1, g2, g3⟩ := zpm hk hij hj hb' hnz hend hc hs hst
   refine ⟨(j + 1, _), LeE.le ⟨rfl, rfl, rfl, rfl, trivial⟩, rfl, ⟨by dsimp only; omega, hq.trans g1, g2, ?_⟩, by dsimp only; omega⟩
   rcases Nat.lt_or_ge j L.length with h | h
   ·exact .inr (.inr (g3 h))
   ·exact .inr (.inl (by dsimp only; omega))
  by_cases hjl : j < L.length
  ·rw [if_pos (by simpa using hjl)]
   refine ⟨bK (enc := fun n => [PV.int .i32 n]) (l := L) (fun _ => rfl) (by omega) (by omega), L.getD j 0, by rw [Int.toNat_natCast, zcp hjl]; rfl, (hT _ (hr' _ (List.mem_of_getElem? (p9 hjl)))).mono ?_⟩
   rintro _ rfl
   refine ⟨_, rfl, ?_⟩
   by_cases hz : key (L.getD j 0) = 0
   ·rw [if_neg (by simpa using hz)]
    exact (rest _ (.inr hz)).mono fun x e h hx => by cases x <;> first | exact hx.elim | exact CodeZ.mono hx fun x e h hx => (by cases x <;> first | exact hx | exact hx.elim)
   ·rw [if_pos (by simpa using hz)]
    have wj : i64.wrap ((j : Int) + 1) = ((j + 1 : Nat) : Int) := by rw [aD (by omega) (by omega)]; omega
    rw [wj]
    refine ⟨rfl, ⟨j + 1, rfl, by omega, hjl, fun k h1 h2 => ?_⟩, by omega⟩
    rcases Nat.lt_or_ge k j with h | h
    ·exact hnz k h1 h
    ·have : k = j := by omega
     subst this; exact hz
  ·rw [if_neg (by simpa using hjl)]
   exact (rest _ (.inl (by omega))).mono fun x e h hx => by cases x <;> first | exact hx.elim | exact CodeZ.mono hx fun x e h hx => (by cases x <;> first | exact hx | exact hx.elim)
 ·rw [if_neg (by simpa using hlt)]
  refine ⟨rfl, ?_⟩
  rw [List.take_of_length_le (by omega)] at hc
  rw [zpj hq, zpl hc]
end
end Go.Eng



namespace Go.Eng
open Go Go.Proofs Go.Eng.Rows Go.Eng.Srt
section
variable {w w' : World} {I I' : Nat -> Prop} {G G' : Nat -> Pl} {h h' : Hp}
theorem HRel.off (hh : HRel w I G h) {l : Nat} (o : Obj) (hI : ¬ I l) (ho : ¬ aW h G l) : HRel (w.putObj l o) I G h := by
 have hw : ∀ b, b ≠ l -> (w.putObj l o).heap[b]? = w.heap[b]? := fun b hb => World.putObj_heap_other hb
 have hk : Keeps w I (w.putObj l o) I := ⟨fun b hb _ => hw b fun e => hI (e ▸ hb), fun b hb _ => hb⟩
 have blk : ∀ (i : Nat) x, h[i]? = some x -> x.alive (G i) -> (G i).blk ≠ l := fun i x hx ha e => ho ⟨i, x, hx, ha, e⟩
 refine ⟨fun i x hx => ?_, hh.sep, hh.nI, fun b hb => by rw [World.putObj_size]; exact hh.cl b hb⟩
 have := hh.obs i x hx
 cases x with
 | dead => trivial
 | box cs => obtain ⟨vs, ty, e1, e2, e3⟩ := this; exact ⟨vs, ty, by rw [hw _ (blk i _ hx trivial)]; exact e1, e2, fun k v hv => ⟨(e3 k v hv).1.mono hk (.refl _ _), (e3 k v hv).2⟩⟩
 | arr cs => obtain ⟨vs, ty, e1, e2, e3⟩ := this; exact ⟨vs, ty, by rw [hw _ (blk i _ hx trivial)]; exact e1, e2, fun k v hv => ⟨(e3 k v hv).1.mono hk.1 hk.2, (e3 k v hv).2⟩⟩
 | sl ty m n es =>
   cases n with
   | true => exact this
   | false =>
     obtain ⟨e1, e2, e3, e3', e4, e5⟩ := this
     refine ⟨e1, e2, e3, e3', e4, fun hc => ?_⟩
     obtain ⟨vs, f1, f2, f3⟩ := e5 hc
     exact ⟨vs, by rw [hw _ (blk i _ hx ⟨rfl, hc⟩)]; exact f1, f2, fun i' e he k v hv => ⟨(f3 i' e he k v hv).1.mono hk.1 hk.2, (f3 i' e he k v hv).2⟩⟩
 | mp kvs => obtain ⟨es, ck, e1, e2, e3⟩ := this; exact ⟨es, ck, by rw [hw _ (blk i _ hx trivial)]; exact e1, e2, fun k kv hv => ⟨(e3 k kv hv).1.mono hk.1 hk.2, (e3 k kv hv).2.mono hk.1 hk.2⟩⟩
 | iter ty rem cur => exact IterRel.mono this (hw _ (blk i _ hx trivial)) hk
theorem jN (hh : HRel w I G h) {b : Nat} {o : Obj} (ho : w.heap[b]? = some o) (hn : (match o with | .cells .. => true | .map .. => true | .mapIter .. => true | _ => false) = false) : ¬ aW h G b := by
 rintro ⟨i, ob, hi, ha, rfl⟩
 have := hh.obs i ob hi
 cases ob with
 | dead => exact ha
 | box cs => obtain ⟨vs, ty, e1, _⟩ := this; rw [ho] at e1; cases e1; cases hn
 | arr cs => obtain ⟨vs, ty, e1, _⟩ := this; rw [ho] at e1; cases e1; cases hn
 | sl ty m n es =>
   cases n with
   | true => exact absurd ha.1 (by simp)
   | false => obtain ⟨vs, e1, _⟩ := this.2.2.2.2.2 ha.2; rw [ho] at e1; cases e1; cases hn
 | mp kvs => obtain ⟨es, ck, e1, _⟩ := this; rw [ho] at e1; cases e1; cases hn
 | iter ty rem cur => obtain ⟨_, _, _, _, _, _, e1, _⟩ := this; rw [ho] at e1; cases e1; cases hn
theorem Tr.off {own own' : Nat -> Prop} (t : Tr w I own w' I' own') {l : Nat} (hl : w.heap.size <= l) (o : Obj) : Tr w I own (w'.putObj l o) I' own' :=
 ⟨t.os, t.tape, t.output, by rw [World.putObj_size]; exact t.size, fun b hb hn => (World.putObj_heap_other (by omega)).trans (t.keep b hb hn), t.i1, t.i2, t.own2,
  fun a ha => (World.frozen?_of_block (World.putObj_heap_other (by omega))).trans (t.frz a ha), t.drawn⟩
theorem TrN.off {n0 : Nat} (t : TrN n0 w I G h w' I' G' h') {l : Nat} (hl : w.heap.size <= l) (o : Obj) : TrN n0 w I G h (w'.putObj l o) I' G' h' := ⟨t.t.off hl o, t.len, t.stay⟩
theorem qC (hh : HRel w I G h) (t : Tr w I (aW h G) w' I' (aW h' G')) : Keeps w I w' I' :=
 ⟨fun b hb hlt => t.keep b hlt fun ⟨o, ob, h1, h2, e⟩ => hh.nI o ob h1 h2 (e ▸ hb), fun b hb _ => t.i1 b hb⟩
theorem Keeps.trans {w1 w2 : World} {I1 I2 : Nat -> Prop} (h : Keeps w I w1 I1) (hs : w.heap.size <= w1.heap.size) (k : Keeps w1 I1 w2 I2) : Keeps w I w2 I2 :=
 ⟨fun b hb hlt => (k.1 b (h.2 b hb hlt) (Nat.lt_of_lt_of_le hlt hs)).trans (h.1 b hb hlt), fun b hb hlt => k.2 b (h.2 b hb hlt) (Nat.lt_of_lt_of_le hlt hs)⟩
theorem Keeps.off {l : Nat} (hI : ¬ I l) (o : Obj) : Keeps w I (w.putObj l o) I := ⟨fun b hb _ => World.putObj_heap_other fun e => hI (e ▸ hb), fun b hb _ => hb⟩
structure ZR (W0 : World) (I0 : Nat -> Prop) (G0 : Nat -> Pl) (h0 : Hp) (l D : Nat) (rec : Loop) (W : World) (I : Nat -> Prop) (G : Nat -> Pl) (h : Hp) : Prop where
 t : TrN 5 W0 I0 G0 h0 W I G h
 hl : W.heap[l]? = some (.loop rec)
 hD : W.heap[D]? = some (.deferred (some []))
 nl : ¬ I l
 nD : ¬ I D
theorem ZR.step {W0 : World} {I0 : Nat -> Prop} {G0 : Nat -> Pl} {h0 : Hp} {l D : Nat} {rec : Loop} (z : ZR W0 I0 G0 h0 l D rec w I G h) (hh : HRel w I G h) (t : TrN 5 w I G h w' I' G' h') : ZR W0 I0 G0 h0 l D rec w' I' G' h' := by
 have l1 := (Array.getElem?_eq_some_iff.1 z.hl).1
 have l2 := (Array.getElem?_eq_some_iff.1 z.hD).1
 have n1 := jN hh z.hl rfl
 have n2 := jN hh z.hD rfl
 exact ⟨z.t.trans t, (t.t.keep l l1 n1).trans z.hl, (t.t.keep D l2 n2).trans z.hD, fun x => (t.t.i2 l x).elim z.nl (fun x => x.elim n1 fun x => by omega), fun x => (t.t.i2 D x).elim z.nD (fun x => x.elim n2 fun x => by omega)⟩
end
section
variable {key : Int -> Int} {nl : Bool} {T : PV}
theorem yY {G G' : Nat -> Pl} {es es' : List (List PV)} (hl : es.length = es'.length) (hG : ∀ o, o < 5 -> G' o = G o) : Like G G' (aL nl T es) (aL nl T es') := by
 intro o ob ho
 have hlt : o < 5 := (List.getElem?_eq_some_iff.1 ho).1
 refine ⟨?_, fun _ => hG o hlt⟩
 match o, ho with
 | 0, ho => cases ho; exact ⟨_, rfl, trivial⟩
 | 1, ho => cases ho; exact ⟨_, rfl, rfl, rfl, hl⟩
 | 2, ho => cases ho; exact ⟨_, rfl, trivial⟩
 | 3, ho => cases ho; exact ⟨_, rfl, trivial⟩
 | 4, ho => cases ho; exact ⟨_, rfl, trivial⟩
theorem tN {w w' : World} {I I' : Nat -> Prop} {G G' : Nat -> Pl} {es es' : List (List PV)} (t : TrN 5 w I G (aL nl T es) w' I' G' (aL nl T es')) : ∀ o, o < 5 -> G' o = G o := by
 intro o ho
 have hs := t.stay (Nat.le_refl _)
 match o, ho with
 | 0, _ => exact (hs 0 _ (by omega) rfl rfl).1
 | 1, _ => exact (hs 1 _ (by omega) rfl rfl).1
 | 2, _ => exact (hs 2 _ (by omega) rfl rfl).1
 | 3, _ => exact (hs 3 _ (by omega) rfl rfl).1
 | 4, _ => exact (hs 4 _ (by omega) rfl rfl).1
theorem eA3 (es : List (List PV)) (i f : Int) (K : Env -> Hp -> Prop) : bO Tryz.prog (fun _ => none) 22 (bU (dB (fF (cE Tryz.f121)))).toList (bU (dB (fF (cE Tryz.f121)))).toList (eO f i) (aL nl T es) K = K ((6, .pv (.int .i64 f)) :: eO f i) (aL nl T es) := by kernel_rfl
theorem eA4 (es : List (List PV)) (i f : Int) (K : Env -> Hp -> Prop) : bO Tryz.prog (fun _ => none) 22 (bU (cD (fF (cE Tryz.f121)))).toList (bU (cD (fF (cE Tryz.f121)))).toList ((6, .pv (.int .i64 f)) :: eO f i) (aL nl T es) K = K ((7, .pv (.int .i64 i)) :: (6, .pv (.int .i64 f)) :: eO f i) (aL nl T es) := by kernel_rfl
theorem eA5 (es : List (List PV)) (i f : Int) (K : Env -> Hp -> Prop) : bO Tryz.prog wF 22 (bU (gW (fG (cE Tryz.f121)))).toList (bU (gW (fG (cE Tryz.f121)))).toList ((7, .pv (.int .i64 i)) :: (6, .pv (.int .i64 f)) :: eO f i) (aL nl T es) K =
 (dK es.length (some f) (some i) none /\ ACall Tryz.prog 144 [.sub 0 f.toNat i.toNat, .fn 145 [.box 1 0]] [.sl (21, 1) false nl es, .box [.pv T]] fun (r : LV) (h' : Hp) => ∃ (t : List (List PV)), (r = .tup [] /\ h' = [.sl (21, 1) false nl t, .box [.pv T]]) /\
  (True /\ (((21, 1) : Nat × Nat) = (21, 1) /\ nl = nl /\ es.length = t.length) /\ True) /\ K ((20, .tup []) :: (19, .fn 145 [.box 0 0]) :: (18, .sub 1 f.toNat i.toNat) :: (17, .pv (.int .i64 i)) :: (16, .pv (.int .i64 f)) :: (15, .own 1) :: (7, .pv (.int .i64 i)) :: (6, .pv (.int .i64 f)) :: eO f i) (aL nl T t)) := by kernel_rfl
theorem zgh : fF (cE Tryz.f121) = .seq (.region 3 (bU (dB (fF (cE Tryz.f121)))) false) (.region 4 (bU (cD (fF (cE Tryz.f121)))) false) /\ fG (cE Tryz.f121) = .block 1 (.region 5 (bU (gW (fG (cE Tryz.f121)))) false) /\
 cE Tryz.f121 = .rangeFunc (.tmp 12) #[13, 14] (fF (cE Tryz.f121)) (fG (cE Tryz.f121)) /\ iI (bU (dB (fF (cE Tryz.f121)))).toList = true /\ iI (bU (cD (fF (cE Tryz.f121)))).toList = true /\ iI (bU (gW (fG (cE Tryz.f121)))).toList = true :=
 ⟨by kernel_rfl, by kernel_rfl, by kernel_rfl, by kernel_rfl, by kernel_rfl, by kernel_rfl⟩
theorem zpp (hc : iO T key) {W0 : World} {I0 : Nat -> Prop} {G0 : Nat -> Pl} {L0 : List Int} {a : Act} {v12 : LV} (hs0 : SRel W0 I0 G0 [(2, .box 0 0), (5, .box 2 0), (12, v12)] (aL nl T (aA L0)) 22 a) (rec : Loop)
 (r1 : rec.state = .ready) (r2 : rec.pending = none) (r3 : rec.tmps = a.tmps) (r4 : rec.params = #[13, 14]) (r5 : rec.assign = fF (cE Tryz.f121)) (r6 : rec.body = fG (cE Tryz.f121)) :
 yT (ZR W0 I0 G0 (aL nl T (aA L0)) (W0.heap.size + 1) W0.heap.size rec) key nl T (W0.heap.size + 1) L0.length := by
 intro w I G L f i hh hz hfi hil hr hLn hN
 obtain ⟨l, hl⟩ : ∃ l, l = W0.heap.size + 1 := ⟨_, rfl⟩
 have hWl : W0.heap.size <= l := by omega
 rw [<- hl] at hz ⊢
 refine ⟨_, _, _, _, run_yield (P := Tryz.prog) hz.hl (by rw [r4]; rfl), roundIn_of_wpIn trivial ?_⟩
 have hlt := (Array.getElem?_eq_some_iff.1 hz.hl).1
 have hel : ∀ L' : List Int, L'.length = L.length -> (aA L0).length = (aA L').length := fun L' h => by simp [hN, h]
 have hs : SRel w I G (eO f i) (aL nl T (aA L)) 22 { tmps := (a.tmps.setIfInBounds 13 (.int .i64 f)).setIfInBounds 14 (.int .i64 i), defers := [] } := by
  have h1 := hs0.he.mono (qC hs0.hh hz.t.t) (yY (hel L rfl) (tN hz.t))
  have h2 := h1.set (d := 13) (v := .pv (.int .i64 f)) (by rw [hs0.hn]; omega) (.pv _ _ (.int .i64 f)) (fun _ _ _ e => by cases e)
  have h3 := h2.set (d := 14) (v := .pv (.int .i64 i)) (by simp [hs0.hn]) (.pv _ _ (.int .i64 i)) (fun _ _ _ e => by cases e)
  exact ⟨hh, fun k v hk => h3 k v ((LeE.le (e' := eO f i) ⟨rfl, rfl, rfl, rfl, trivial⟩) k v hk), by simp [hs0.hn]⟩
 obtain ⟨q1, q2, q3, q4, q5, q6⟩ := zgh
 rw [r5, q1, r4, r3]
 have hfold : ∀ x y : Value, (((#[13, 14] : Array Tmp).zip #[x, y]).foldl (fun tmps (t, a) => tmps.setIfInBounds t a) a.tmps) = (a.tmps.setIfInBounds 13 x).setIfInBounds 14 y := fun x y => by simp
 rw [hfold]
 refine wpIn_seq ?_
 show Code.wpIn (wd (some l)) 0 Tryz.prog _ (Exit.then (Code.wpIn (wd (some l)) 0 Tryz.prog _ _) _) { tmps := (a.tmps.setIfInBounds 13 (.int .i64 f)).setIfInBounds 14 (.int .i64 i), defers := [] } w
 refine wG q4 (by rw [eA3]; exact ⟨rfl, rfl⟩ : bO Tryz.prog (fun _ => none) 22 _ _ _ _ (fun e' h' => e' = _ /\ h' = _)) hs ?_ ?_
 ·exact fun a w h => h
 rintro _ _ w1 I1 G1 a1 ⟨rfl, rfl⟩ hs1 hd1 ht1
 refine wG q5 (by rw [eA4]; exact ⟨rfl, rfl⟩ : bO Tryz.prog (fun _ => none) 22 _ _ _ _ (fun e' h' => e' = _ /\ h' = _)) hs1 ?_ ?_
 ·exact fun a w h => h
 rintro _ _ w2 I2 G2 a2 ⟨rfl, rfl⟩ hs2 hd2 ht2
 have z1 := hz.step hh ht1.toN
 have z2 := z1.step hs1.hh ht2.toN
 refine ⟨_, run_beginRound z2.hl r1, ?_⟩
 have n2 := jN hs2.hh z2.hl rfl
 have l2 := (Array.getElem?_eq_some_iff.1 z2.hl).1
 have hs3 : SRel (w2.putObj l (.loop { rec with state := .busy })) I2 G2 _ _ 22 a2 := ⟨hs2.hh.off _ z2.nl n2, hs2.he.mono (Keeps.off z2.nl _) (.refl _ _), hs2.hn⟩
 have hp3 : (w2.putObj l (.loop { rec with state := .busy })).heap[l]? = some (.loop { rec with state := .busy }) := World.putObj_heap_same l2
 have hb : ∀ {c : Code} {Q a w}, c = fG (cE Tryz.f121) -> Code.wpIn (wd (some l)) 0 Tryz.prog (.block 1 (.region 5 (bU (gW (fG (cE Tryz.f121)))) false)) Q a w -> Code.wpIn (wd (some l)) 0 Tryz.prog c Q a w := fun e h => by rw [e, q2]; exact h
 refine hb r6 ?_
 have h5 : bO Tryz.prog wF 22 (bU (gW (fG (cE Tryz.f121)))).toList (bU (gW (fG (cE Tryz.f121)))).toList ((7, .pv (.int .i64 i)) :: (6, .pv (.int .i64 f)) :: eO f i) (aL nl T (aA L)) (fun _ h' => ∃ L', YQ key L f i L' /\ h' = aL nl T (aA L')) := by
  rw [eA5, Int.toNat_natCast, Int.toNat_natCast]
  obtain ⟨c1, c2, c3⟩ := tM L (show f <= i by omega) hil
  have e : aA L = aA (L.take f ++ ((L.take i).drop f ++ L.drop i)) := congrArg aA c1
  refine ⟨⟨by simp, by simp; omega, by simp; omega, trivial⟩, ?_⟩
  rw [e]
  refine (zpc hc f i nl (L.take f) ((L.take i).drop f) (L.drop i) c2 (by omega) (by rw [<- c1]; exact hr) (by omega)).mono ?_
  rintro r h' ⟨S', rfl, rfl, s1, k1⟩
  refine ⟨_, ⟨rfl, rfl⟩, ⟨trivial, ⟨rfl, rfl, ?_⟩, trivial⟩, _, ⟨S', rfl, s1, k1⟩, rfl⟩
  have := k1.len
  simp only [bC, List.length_append]; omega
 refine wpIn_block ?_
 show Code.wpIn (wd (some l)) 0 Tryz.prog _ _ _ _
 refine wG (H := wF) (ro := some l) (n := 0) (id := 5) q6 h5 hs3 ?_ ?_
 ·exact fun a w h => h
 rintro e4 _ w4 I4 G4 a4 ⟨L', hYQ, rfl⟩ hs4 hd4 ht4
 have n3 := jN hs3.hh hp3 rfl
 have hl4 : w4.heap[l]? = some (.loop { rec with state := .busy }) := (ht4.t.keep l (by rw [World.putObj_size]; exact l2) n3).trans hp3
 have l4 := (Array.getElem?_eq_some_iff.1 hl4).1
 have nI4 : ∀ b, ¬ I2 b -> ¬ aW (aL nl T (aA L)) G2 b -> b < w2.heap.size -> ¬ I4 b := fun b x y z h => (ht4.t.i2 b h).elim x fun h => h.elim y fun h => by rw [World.putObj_size] at h; omega
 have nl4 := nI4 l z2.nl n2 l2
 have hDne : W0.heap.size ≠ l := by omega
 have nD2 := jN hs2.hh z2.hD rfl
 have lD := (Array.getElem?_eq_some_iff.1 z2.hD).1
 have hrec : ({ { rec with state := .busy } with state := if (none : Option Code).isNone then .ready else .done, pending := none } : Loop) = rec := by
  cases rec; simp only at r1 r2; subst r1; subst r2; rfl
 have hrun := run_endRound (P := Tryz.prog) none hl4
 rw [hrec] at hrun
 have hLL : L'.length = L.length := by
  obtain ⟨S', rfl, s1, k1⟩ := hYQ
  obtain ⟨c1, c2, c3⟩ := tM L (show f <= i by omega) hil
  have := k1.len
  rw [List.length_append, List.length_append, c2, <- this, c3, List.length_drop]; omega
 have tB : TrN 5 W0 I0 G0 (aL nl T (aA L0)) (w4.putObj l (.loop rec)) I4 G4 (aL nl T (aA L')) := ((z2.t.off hWl _).trans ht4.toN).off hWl _
 refine ⟨_, _, hrun, rfl, L', I4, G4, hYQ, hs4.hh.off _ nl4 (jN hs4.hh hl4 rfl), ?_, yY (by simp [hLL]) (fun o ho => (tN tB o ho).trans (tN hz.t o ho).symm), ⟨tB, World.putObj_heap_same l4, ?_, nl4, nI4 _ z2.nD nD2 lD⟩⟩
 ·have k1 := (qC hh ht1.t).trans ht1.t.size (qC hs1.hh ht2.t)
  have s2 := Nat.le_trans ht1.t.size ht2.t.size
  have k2 := (k1.trans s2 (Keeps.off z2.nl (.loop { rec with state := .busy }))).trans (by rw [World.putObj_size]; exact s2) (qC hs3.hh ht4.t)
  exact k2.trans (by have := ht4.t.size; rw [World.putObj_size] at this; omega) (Keeps.off nl4 _)
 ·rw [World.putObj_heap_other hDne]
  exact (ht4.t.keep _ (by rw [World.putObj_size]; exact lD) (jN hs3.hh ((World.putObj_heap_other hDne).trans z2.hD) rfl)).trans ((World.putObj_heap_other hDne).trans z2.hD)
end
end Go.Eng



namespace Go.Eng
open Go Go.Proofs
def zgi (nl fl : Bool) (es : LL) (R : LV -> Hp -> Prop) : Prop :=
 if (bif true then nl else !nl) = true then R (LV.pv (PV.sl true true [])) [] else gO true [] es 1 4 /\ R (LV.own 0) [Ob.sl (21, 1) false false ([] ++ es)]
theorem zpq (nl fl : Bool) (es : LL) {R : LV -> Hp -> Prop} (h : zgi nl fl es R) : ACall Tryz.prog 63 [.pv (.sl nl fl es)] [] R :=
 ACall.ofA Tryz.func63 (by kernel_rfl) (by kernel_rfl) (zl (by kernel_rfl)) (Eq.mpr (by kernel_rfl : pM Tryz.prog (fun _ => none) Tryz.f63 [0, 2, 4] (fun _ => none) (Tryz.f63.body.getD .skip) [.pv (.sl nl fl es)] [] R = _) h)

def zpr (nl : Bool) (ts : List PV) (es : LL) (R : LV -> Hp -> Prop) : Prop :=
 R (LV.fn 161 [LV.box 2 0, LV.box 1 0]) [Ob.sl (21, 1) false nl es, Ob.box [LV.pv (PV.ptr ts)], Ob.box [LV.own 0]]
theorem zps (nl : Bool) (ts : List PV) (es : LL) {R : LV -> Hp -> Prop} (h : zpr nl ts es R) : ACall Tryz.prog 143 [.pv (.ptr ts), .own 0] [.sl (21, 1) false nl es] R :=
 ACall.of Tryz.func143 (by kernel_rfl) (by kernel_rfl) (zl (by kernel_rfl)) (Eq.mpr (by kernel_rfl : dL Tryz.prog (fun _ => none) Tryz.f143 [0, 1, 2, 3, 4] (fun _ => none) [0, 1, 2] (Tryz.f143.body.getD .skip) [.pv (.ptr ts), .own 0] [.sl (21, 1) false nl es] R = _) h)

end Go.Eng



namespace Go.Eng
open Go Go.Proofs Go.Eng.Rows Go.Eng.Srt
theorem ACall.nilOwn {P : Program} {f : Nat} {args : List LV} {Q Q' : LV -> Hp -> Prop} {ty : Nat × Nat} (hc : ACall P f args [] Q) (hq : ∀ r h', Q r h' -> Q' r h' ∨ ∃ fl, r = .pv (.sl true fl []) /\ h' = [] /\ Q' (.own 0) [.sl ty false true []]) : ACall P f args [] Q' :=
 ⟨hc.1, fun w I G cargs h1 h2 h3 => (hc.2 w I G cargs h1 h2 h3).mono fun e w' ⟨cv, r, h', I', G', e1, e2, e3, e4, e5⟩ => (hq r h' e2).elim (fun q => ⟨cv, r, h', I', G', e1, q, e3, e4, e5⟩) fun ⟨fl, hr, hh, q⟩ => by
  subst hr; subst hh
  have hcv : cv = .slice none 0 0 := by cases e4 with | pv _ _ h => cases h; rfl
  subst hcv
  have one : ∀ {o : Nat} {ob : Ob}, [Ob.sl ty false true []][o]? = some ob -> ob = .sl ty false true [] := fun {o ob} h => by
   cases o with
   | zero => cases h; rfl
   | succ o => simp at h
  have dead : ∀ {p : Pl}, ¬ (Ob.sl ty false true []).alive p := fun h => by cases h.1
  have noB : ∀ b, ¬ aW [Ob.sl ty false true []] G' b := fun b ⟨o, ob, ho, ha, _⟩ => by rw [one ho] at ha; exact dead ha
  refine ⟨_, .own 0, [.sl ty false true []], I', G', e1, q, ⟨fun o ob ho => by rw [one ho]; rfl, fun o o' ob ob' ho ha => by rw [one ho] at ha; exact (dead ha).elim, fun o ob ho ha => by rw [one ho] at ha; exact (dead ha).elim, e3.cl⟩, .ownNil 0 ty false [] rfl, ?_, by simp, fun o ob' ho => by simp at ho⟩
  have t := e5.t
  exact ⟨t.os, t.tape, t.output, t.size, t.keep, t.i1, t.i2, fun b hb => (noB b hb).elim, t.frz, t.drawn⟩⟩
theorem yZ (nl fl : Bool) (es : List (List PV)) (hn : nl = true -> es = []) (ha : gO true [] es 1 4) : ACall Tryz.prog 63 [.pv (.sl nl fl es)] [] fun r h' => r = .own 0 /\ h' = [.sl (21, 1) false nl es] := by
 refine ACall.nilOwn (ty := (21, 1)) (Q := fun r h' => (nl = true /\ r = .pv (.sl true true []) /\ h' = []) ∨ (nl = false /\ r = .own 0 /\ h' = [.sl (21, 1) false nl es])) (zpq nl fl es ?_) ?_
 ·unfold zgi
  cases nl with
  | true => exact .inl ⟨rfl, rfl, rfl⟩
  | false => exact ⟨ha, .inr ⟨rfl, rfl, by simp⟩⟩
 ·rintro r h' (⟨rfl, rfl, rfl⟩ | ⟨rfl, rfl, rfl⟩)
  ·rw [hn rfl]; exact .inr ⟨true, rfl, rfl, rfl, rfl⟩
  ·exact .inl ⟨rfl, rfl⟩
theorem tO {P : Program} {n0 N : Nat} {c : Code} {e E : Env} {h Hh : Hp} (hS : CodeS P n0 N c e h fun x e' h' => x = .normal /\ e' = E /\ h' = Hh) {w : World} {I : Nat -> Prop} {G : Nat -> Pl} {a : Act} (hs : SRel w I G e h N a) {Q : Exit -> Act -> World -> Prop}
 (hq : ∀ w' I' G' a', SRel w' I' G' E Hh N a' -> a'.defers = a.defers -> TrN n0 w I G h w' I' G' Hh -> Q .normal a' w') : c.wp P Q a w :=
 hS w I G a Q hs fun x e' h' w' I' G' a' hk hs' hd ht => by obtain ⟨rfl, rfl, rfl⟩ := hk; exact hq w' I' G' a' hs' hd ht
section
variable {nl fl : Bool} {ts : List PV} {es : List (List PV)}
theorem eB0 (Q : Qt) : cZ Tryz.prog (fun _ => none) 0 22 [1, 2, 4] (fun _ => none) (cO0 Tryz.f121) (eT [.pv (.ptr ts), .pv (.sl nl fl es)] 0) [] Q = Q .normal [(1, .pv (.sl nl fl es)), (2, .box 0 0), (4, .pv (.sl true true []))] [.box [.pv (.ptr ts)]] := by kernel_rfl
theorem eB1 (Q : Qt) : cZ Tryz.prog zc0 0 22 [2, 5] (fun _ => none) (cO1 Tryz.f121) [(1, .pv (.sl nl fl es)), (2, .box 0 0)] [.box [.pv (.ptr ts)]] Q =
 ACall Tryz.prog 63 [.pv (.sl nl fl es)] [] fun (r : LV) (h' : Hp) => ∃ (_ : Unit), (r = .own 0 /\ h' = [.sl (21, 1) false nl es]) /\ True /\ Q .normal [(2, .box 0 0), (5, .box 2 0)] [.box [.pv (.ptr ts)], .sl (21, 1) false nl es, .box [.own 1]] := by kernel_rfl
theorem eB2 (Q : Qt) : cZ Tryz.prog zc0 0 22 [2, 5, 12] (fun _ => none) (cO2 Tryz.f121) [(2, .box 0 0), (5, .box 2 0)] [.box [.pv (.ptr ts)], .sl (21, 1) false nl es, .box [.own 1]] Q =
 ACall Tryz.prog 143 [.pv (.ptr ts), .own 0] [.sl (21, 1) false nl es] fun (r : LV) (h' : Hp) => ∃ (_ : Unit), (r = .fn 161 [.box 2 0, .box 1 0] /\ h' = [.sl (21, 1) false nl es, .box [.pv (.ptr ts)], .box [.own 0]]) /\
  ((((21, 1) : Nat × Nat) = (21, 1) /\ nl = nl /\ es.length = es.length) /\ True) /\ Q .normal [(2, .box 0 0), (5, .box 2 0), (12, .fn 161 [.box 4 0, .box 3 0])] (aL nl (.ptr ts) es) := by kernel_rfl
theorem eB6 (Q : Qt) : cZ Tryz.prog (fun _ => none) 5 22 [4] (fun _ => none) (cO6 Tryz.f121) [(2, .box 0 0), (5, .box 2 0)] (aL nl (.ptr ts) es) Q = Q .normal [(4, .own 1)] (aL nl (.ptr ts) es) := by kernel_rfl
theorem y0 : cM Tryz.f121 = .seq (cO0 Tryz.f121) (.seq (cO1 Tryz.f121) (.seq (.seq (cO2 Tryz.f121) (.block 0 (cE Tryz.f121))) (.seq (cO6 Tryz.f121) .ret))) /\ Tryz.f121.body = some (cM Tryz.f121) /\ Tryz.f121.ntmps = 22 /\
 Tryz.f161.body = some (cM Tryz.f161) /\ Tryz.f161.ntmps = 39 /\ Tryz.f121.results = #[.tmp 4] /\ Tryz.f161.results = #[] /\ Tryz.f121.body.isNone = false /\ (Tryz.f121.name == "runtime.NumGoroutine") = false /\ Tryz.f161.body.isNone = false /\ (Tryz.f161.name == "runtime.NumGoroutine") = false :=
 ⟨by kernel_rfl, by kernel_rfl, by kernel_rfl, by kernel_rfl, by kernel_rfl, by kernel_rfl, by kernel_rfl, by kernel_rfl, by kernel_rfl, by kernel_rfl, by kernel_rfl⟩
variable {key : Int -> Int}
theorem Tr.alloc0 {w : World} {I own : Nat -> Prop} (o : Obj) : Tr w I own (w.alloc o) I own :=
 ⟨rfl, rfl, rfl, by simp, fun b hb _ => cH w o hb, fun _ h => h, fun _ h => .inl h, fun _ h => .inl h, fun a ha => World.frozen?_of_block (cH w o ha), Nat.le_refl _⟩
theorem KA.alloc0 (w : World) (o : Obj) : KA w (w.alloc o) := ⟨by simp, fun b hb => cH w o hb⟩
theorem zpt (hk : ∀ x, 0 <= key x) (hT : ∀ r : Int, (-2147483648 <= r /\ r <= 2147483647) -> PCall Tryz.prog 80 [.ptr ts, .int .i32 r] fun v => v = .int .i64 (key r)) (hc : iO (.ptr ts) key) (L : List Int) (hr : R32 L) (hL : L.length < 1000000000000)
 {w3 : World} {I3 : Nat -> Prop} {G3 : Nat -> Pl} {a3 : Act} {v12 : LV} (hs3 : SRel w3 I3 G3 [(2, .box 0 0), (5, .box 2 0), (12, v12)] (aL nl (.ptr ts) (aA L)) 22 a3) (rec : Loop) (r1 : rec.state = .ready) (r2 : rec.pending = none) (r3 : rec.tmps = a3.tmps) (r4 : rec.params = #[13, 14])
 (r5 : rec.assign = fF (cE Tryz.f121)) (r6 : rec.body = fG (cE Tryz.f121)) (vs : Array Value) (hvsz : vs.size = 2) (hvs : ∀ (k : Nat) v, [LV.box 4 0, LV.box 3 0][k]? = some v -> LRel w3 I3 G3 (aL nl (.ptr ts) (aA L)) v (vs.getD k undef)) :
 Calls Tryz.prog 161 (#[Value.func (.yield (w3.heap.size + 1)) #[] #[]] ++ vs) ((w3.alloc (.deferred (some []))).alloc (.loop rec)) fun e w4 => (∃ v, e = .returned v) /\ ∃ I4 G4, HRel w4 I4 G4 (aL nl (.ptr ts) (aA (bS key L))) /\
  ZR w3 I3 G3 (aL nl (.ptr ts) (aA L)) (w3.heap.size + 1) w3.heap.size rec w4 I4 G4 (aL nl (.ptr ts) (aA (bS key L))) := by
 obtain ⟨k1, k2, k3, k4, k5, k6, k7, k8, k9, k10, k11⟩ := y0
 obtain ⟨W1, hW1⟩ : ∃ W1, W1 = (w3.alloc (.deferred (some []))).alloc (.loop rec) := ⟨_, rfl⟩
 rw [<- hW1]
 have tA : Tr w3 I3 (aW (aL nl (.ptr ts) (aA L)) G3) W1 I3 (aW (aL nl (.ptr ts) (aA L)) G3) := by rw [hW1]; exact (Tr.alloc0 _).trans (Tr.alloc0 _)
 have ka : KA w3 W1 := by rw [hW1]; exact (KA.alloc0 _ _).trans (KA.alloc0 _ _)
 have hl1 : W1.heap[w3.heap.size + 1]? = some (.loop rec) := by rw [hW1]; have := World.alloc_heap_new (w3.alloc (.deferred (some []))) (.loop rec); rwa [World.size_alloc] at this
 have hD1 : W1.heap[w3.heap.size]? = some (.deferred (some [])) := by rw [hW1]; exact (cH _ _ (by simp)).trans (World.alloc_heap_new w3 _)
 have z1 : ZR w3 I3 G3 (aL nl (.ptr ts) (aA L)) (w3.heap.size + 1) w3.heap.size rec W1 I3 G3 (aL nl (.ptr ts) (aA L)) := ⟨(TrH.same tA).toN, hl1, hD1, fun h => by have := hs3.hh.cl _ h; omega, fun h => by have := hs3.hh.cl _ h; omega⟩
 have hRd := zpp hc hs3 rec r1 r2 r3 r4 r5 r6
 have hwalk := zpo hk hT (fun w I G h w' I' G' h' z hh _ t => z.step hh t) L hRd hr hL
 have hsW : SRel W1 I3 G3 (eT [.pv (.raw (Value.func (.yield (w3.heap.size + 1)) #[] #[])), .box 4 0, .box 3 0] 0) (aL nl (.ptr ts) (aA L)) 39 { tmps := (#[Value.func (.yield (w3.heap.size + 1)) #[] #[]] ++ vs) ++ Array.replicate (39 - (#[Value.func (.yield (w3.heap.size + 1)) #[] #[]] ++ vs).size) undef, defers := [] } := by
  obtain ⟨y, hy⟩ : ∃ y, y = Value.func (.yield (w3.heap.size + 1)) #[] #[] := ⟨_, rfl⟩
  rw [<- hy]
  obtain ⟨x0, x1, rfl⟩ : ∃ x0 x1, vs = #[x0, x1] := by
   obtain ⟨l⟩ := vs
   match l, hvsz with
   | [a, b], _ => exact ⟨a, b, rfl⟩
  have hk : Keeps w3 I3 W1 I3 := ⟨fun b _ hb => ka.2 b hb, fun b hb _ => hb⟩
  have h1 := (hvs 0 _ rfl).mono hk (.refl _ _)
  have h2 := (hvs 1 _ rfl).mono hk (.refl _ _)
  have e0 : ∀ r : Array Value, (#[y] ++ #[x0, x1] ++ r).getD 0 undef = y := fun r => by rw [Array.getD_eq_getD_getElem?, Array.getElem?_append_left (by simp)]; rfl
  have e1 : ∀ r : Array Value, (#[y] ++ #[x0, x1] ++ r).getD 1 undef = x0 := fun r => by rw [Array.getD_eq_getD_getElem?, Array.getElem?_append_left (by simp)]; rfl
  have e2 : ∀ r : Array Value, (#[y] ++ #[x0, x1] ++ r).getD 2 undef = x1 := fun r => by rw [Array.getD_eq_getD_getElem?, Array.getElem?_append_left (by simp)]; rfl
  refine ⟨hs3.hh.ka ka, ?_, by simp⟩
  have he : ERel W1 I3 G3 (aL nl (.ptr ts) (aA L)) [(0, .pv (.raw y)), (1, .box 4 0), (2, .box 3 0)] (#[y] ++ #[x0, x1] ++ Array.replicate (39 - (#[y] ++ #[x0, x1]).size) undef) :=
   ((ERel.nil _ _ _ _ _).cons (s := 2) (v := .box 3 0) (by rw [e2]; exact h2)).cons (s := 1) (v := .box 4 0) (by rw [e1]; exact h1) |>.cons (s := 0) (v := .pv (.raw y)) (by rw [e0]; exact .pv _ _ (.raw _))
  exact he
 refine calls_of_wp Tryz.func161 k4 ?_
 rw [k5]
 refine hwalk W1 I3 G3 _ _ hsW z1 ?_
 rintro x e' _ w4 I4 G4 a4 ⟨rfl, rfl⟩ hs4 hd4 z4
 exact ⟨hd4, _, results_none k7 _ _ _, ⟨_, rfl⟩, I4, G4, hs4.hh, z4⟩
theorem zpu (hk : ∀ x, 0 <= key x) (L : List Int) {w w3 w4 : World} {I I3 I4 : Nat -> Prop} {G G3 G4 : Nat -> Pl} {a3 : Act} {v12 : LV} (hs3 : SRel w3 I3 G3 [(2, .box 0 0), (5, .box 2 0), (12, v12)] (aL nl (.ptr ts) (aA L)) 22 a3) (hd30 : a3.defers = []) {rec : Loop}
 (ht3 : Tr w I (aW [] G) w3 I3 (aW (aL nl (.ptr ts) (aA L)) G3)) (hh4 : HRel w4 I4 G4 (aL nl (.ptr ts) (aA (bS key L)))) (z4 : ZR w3 I3 G3 (aL nl (.ptr ts) (aA L)) (w3.heap.size + 1) w3.heap.size rec w4 I4 G4 (aL nl (.ptr ts) (aA (bS key L)))) :
 (Code.seq (cO6 Tryz.f121) .ret).wp Tryz.prog (bodyPostM Fence.wide 0 Tryz.prog Tryz.f121 fun e w' => ∃ cv r h' I' G', e = .returned cv /\ (r = .own 0 /\ h' = [.sl (21, 1) false nl (aA (bS key L))]) /\ HRel w' I' G' h' /\ LRel w' I' G' h' r cv /\ TrH w I G [] w' I' G' h')
  { tmps := a3.tmps, defers := [{ target := .collected w3.heap.size, args := #[] }] ++ a3.defers } (w4.putObj (w3.heap.size + 1) (.loop { rec with state := .exhausted })) := by
 obtain ⟨k1, k2, k3, k4, k5, k6, k7, k8, k9, k10, k11⟩ := y0
 have hll := (tL (key := key) hk L).len
 have n4 := jN hh4 z4.hl rfl
 have l4 := (Array.getElem?_eq_some_iff.1 z4.hl).1
 have z5 : ZR w3 I3 G3 (aL nl (.ptr ts) (aA L)) (w3.heap.size + 1) w3.heap.size { rec with state := .exhausted } (w4.putObj (w3.heap.size + 1) (.loop { rec with state := .exhausted })) I4 G4 (aL nl (.ptr ts) (aA (bS key L))) :=
  ⟨z4.t.off (by omega) _, World.putObj_heap_same l4, (World.putObj_heap_other (by omega)).trans z4.hD, z4.nl, z4.nD⟩
 have hs5 : SRel (w4.putObj (w3.heap.size + 1) (.loop { rec with state := .exhausted })) I4 G4 [(2, .box 0 0), (5, .box 2 0)] (aL nl (.ptr ts) (aA (bS key L))) 22 { tmps := a3.tmps, defers := [{ target := .collected w3.heap.size, args := #[] }] ++ a3.defers } :=
  ⟨hh4.off _ z4.nl n4, fun i v hi => ((hs3.he.mono (qC hs3.hh z4.t.t) (yY (by simp [hll]) (tN z4.t))).mono (Keeps.off z4.nl _) (.refl _ _)) i v ((LeE.le (e' := [(2, .box 0 0), (5, .box 2 0)]) ⟨rfl, rfl, trivial⟩) i v hi), hs3.hn⟩
 refine wp_seq (tO (E := [(4, .own 1)]) (Hh := aL nl (.ptr ts) (aA (bS key L))) (fZ (Eq.mpr (eB6 _) ⟨rfl, rfl, rfl⟩)) hs5 fun w6 I6 G6 a6 hs6 hd6 ht6 => ?_)
 have z6 := z5.step hs5.hh ht6
 refine wp_ret ?_
 show LeavesInM Fence.wide 0 Tryz.prog _ a6.tmps _ a6.defers .returning w6
 rw [hd6, hd30]
 refine ⟨by simp, .inl ⟨_, _, rfl, run_takeDeferred z6.hD, ?_⟩⟩
 refine ⟨_, results_tmp k6 _ _ _, ?_⟩
 have hh7 := hs6.hh.off (.deferred none) z6.nD (jN hs6.hh z6.hD rfl)
 have hv7 : LRel (w6.putObj w3.heap.size (.deferred none)) I6 G6 (aL nl (.ptr ts) (aA (bS key L))) (.own 1) (a6.tmps.getD 4 undef) := LRel.mono (hs6.he 4 _ rfl) (Keeps.off z6.nD (.deferred none)) (.refl _ _)
 have hs7 : SRel (w6.putObj w3.heap.size (.deferred none)) I6 G6 [(4, .own 1)] (aL nl (.ptr ts) (aA (bS key L))) 22 a6 := ⟨hh7, (ERel.nil _ _ _ _ _).cons (s := 4) (v := .own 1) hv7, hs6.hn⟩
 obtain ⟨s1, s2⟩ := hs7.sub [1] [] rfl
 have g2 := LRel.mapV (o7 (os := [1])) (Keeps.refl _ _) hv7
 have ht := (ht3.trans z6.t.t).off (l := w3.heap.size) ht3.size (.deferred none)
 exact ⟨_, .own 0, _, I6, _, rfl, ⟨rfl, rfl⟩, s1.hh, g2, ⟨ht.trans (Tr.less s2), Nat.zero_le _, fun o ob ho => by simp at ho⟩⟩
theorem zpv (hk : ∀ x, 0 <= key x) (hT : ∀ r : Int, (-2147483648 <= r /\ r <= 2147483647) -> PCall Tryz.prog 80 [.ptr ts, .int .i32 r] fun v => v = .int .i64 (key r)) (hc : iO (.ptr ts) key) (L : List Int) (hr : R32 L) (hL : L.length < 1000000000000) :
 ACall Tryz.prog 121 [.pv (.ptr ts), .pv (.sl nl fl (aA L))] [] fun r h' => r = .own 0 /\ h' = [.sl (21, 1) false nl (aA (bS key L))] := by
 obtain ⟨k1, k2, k3, k4, k5, k6, k7, k8, k9, k10, k11⟩ := y0
 refine ⟨⟨_, Tryz.func121, k8, k9⟩, fun w I G cargs hh hsz hrel => ?_⟩
 simp only [List.length_map, List.length_cons, List.length_nil] at hsz
 have hn : nl = true -> L = [] := fun hn => by
  subst hn
  have h1 := hrel 1 _ rfl
  generalize cargs.getD 1 undef = c1 at h1
  cases h1 with
  | pv _ _ h1 =>
    generalize hes : aA L = es at h1
    cases h1 with
    | slnil => exact List.map_eq_nil_iff.1 hes
 refine (callsIn_wide (n := 0)).1 (callsIn_of_wp_marks Tryz.func121 k2 trivial (wpIn_wide.2 ?_))
 rw [k3]
 have hs : SRel w I G (eT [.pv (.ptr ts), .pv (.sl nl fl (aA L))] 0) [] 22 { tmps := cargs ++ Array.replicate (22 - cargs.size) undef, defers := [] } := by
  refine ⟨hh, fun i v hi => ?_, by simp; omega⟩
  obtain ⟨_, h2⟩ := pL hi
  rw [Nat.sub_zero] at h2
  have hlt : i < cargs.size := by have := (List.getElem?_eq_some_iff.1 h2).1; simp at this; omega
  have := hrel i v h2
  have e1 : (cargs ++ Array.replicate (22 - cargs.size) undef).getD i undef = cargs.getD i undef := by
   rw [Array.getD_eq_getD_getElem?, Array.getD_eq_getD_getElem?, Array.getElem?_append_left hlt]
  simp only [e1]
  exact VRel.of_plain this
 rw [k1]
 -- what begins it
 refine wp_seq (tO (E := [(1, .pv (.sl nl fl (aA L))), (2, .box 0 0), (4, .pv (.sl true true []))]) (Hh := [.box [.pv (.ptr ts)]]) (fZ (Eq.mpr (eB0 _) ⟨rfl, rfl, rfl⟩)) hs fun w1 I1 G1 a1 hs1 hd1 ht1 => ?_)
 have hs1' := hs1.le (LeE.le (e' := [(1, .pv (.sl nl fl (aA L))), (2, .box 0 0)]) ⟨rfl, rfl, trivial⟩)
 refine wp_seq (tO (E := [(2, .box 0 0), (5, .box 2 0)]) (Hh := [.box [.pv (.ptr ts)], .sl (21, 1) false nl (aA L), .box [.own 1]]) (fZ (Eq.mpr (eB1 _) ((yZ nl fl (aA L) (fun h => by rw [hn h]; rfl) ?_).mono fun r h' hq => ⟨(), hq, trivial, rfl, rfl, rfl⟩))) hs1' fun w2 I2 G2 a2 hs2 hd2 ht2 => ?_)
 ·exact ⟨rfl, .inl rfl, fun e he => (by cases he), fun e he => by obtain ⟨x, _, rfl⟩ := List.mem_map.1 (List.mem_of_mem_head? he); rfl, by simp; omega⟩
 refine wp_seq (wp_seq (tO (E := [(2, .box 0 0), (5, .box 2 0), (12, .fn 161 [.box 4 0, .box 3 0])]) (Hh := aL nl (.ptr ts) (aA L)) (fZ (Eq.mpr (eB2 _) (zps nl ts (aA L) ?_))) hs2 fun w3 I3 G3 a3 hs3 hd3 ht3 => ?_))
 ·exact ⟨(), ⟨rfl, rfl⟩, ⟨⟨rfl, rfl, rfl⟩, trivial⟩, rfl, rfl, rfl⟩
 -- the loop
 have hd30 : a3.defers = [] := hd3.trans (hd2.trans hd1)
 obtain ⟨q1, q2, q3, _, _, _⟩ := zgh
 refine wp_block ?_
 rw [q3]
 obtain ⟨vs, hv12, hvsz, hvs⟩ : ∃ vs : Array Value, a3.tmps.getD 12 undef = .func (.func 161) #[] vs /\ vs.size = 2 /\ ∀ (k : Nat) v, [LV.box 4 0, LV.box 3 0][k]? = some v -> LRel w3 I3 G3 (aL nl (.ptr ts) (aA L)) v (vs.getD k undef) := by
  have := hs3.he 12 _ rfl
  generalize a3.tmps.getD 12 undef = cv at this
  cases this with
  | fn f cs vs h1 h6 => exact ⟨vs, rfl, h1, h6⟩
 refine (wpIn_wide (n := 0)).1 (wpIn_rangeFunc (F := Fence.wide) fun fn _ => ?_)
 obtain ⟨rec, hrec⟩ : ∃ rec : Loop, rec = { state := .ready, pending := none, fn := fn, tmps := a3.tmps, params := #[13, 14], assign := fF (cE Tryz.f121), body := fG (cE Tryz.f121), defers := w3.heap.size } := ⟨_, rfl⟩
 refine ⟨w3.heap.size + 1, [{ target := .collected w3.heap.size, args := #[] }], (w3.alloc (.deferred (some []))).alloc (.loop rec), { target := .fn (.func 161) vs, args := #[.func (.yield (w3.heap.size + 1)) #[] #[]] }, (w3.alloc (.deferred (some []))).alloc (.loop rec), 161,
  #[.func (.yield (w3.heap.size + 1)) #[] #[]] ++ vs, (w3.alloc (.deferred (some []))).alloc (.loop rec), ?_, ?_, fun _ _ => trivial, ?_, fun x => (by cases x), ?_⟩
 ·rw [hrec]; exact run_enterLoop_outer _ _ _ _ _
 ·have he : a3.eval (.tmp 12) = .func (.func 161) #[] vs := hv12
  simp only [resolve, he]
  simp [go_sem]
 ·simp only [invoke]
  exact uN ⟨_, Tryz.func161, k10, k11⟩
 refine (callsIn_wide).2 (Calls.mono (zpt hk hT hc L hr hL hs3 rec (by rw [hrec]) (by rw [hrec]) (by rw [hrec]) (by rw [hrec]) (by rw [hrec]) (by rw [hrec]) vs hvsz hvs) ?_)
 rintro e w4 ⟨⟨v, rfl⟩, I4, G4, hh4, z4⟩
 have hp : rec.pending = none := by rw [hrec]
 refine ⟨none, _, (run_endLoop z4.hl (by rw [hrec]; simp)).trans (congrArg (fun j => Result.ok j _) hp), ?_⟩
 exact zpu hk L hs3 hd30 ((ht1.t.trans ht2.t).trans ht3.t) hh4 z4
end
end Go.Eng



namespace Go.Eng
open Go Go.Proofs
def zgj (n f : Bool) (es : LL) (k : Int) (R : PV -> Prop) : Prop :=
 if decide ((↑es.length : Int) > k) = true then (dK es.length none (some k) none /\ aR es 1) /\ R (PV.sl n (f && decide (k = (↑es.length : Int))) (List.drop 0 (List.take k.toNat es))) else R (PV.sl n f es)
theorem zpw (n f : Bool) (es : LL) (k : Int) {R : PV -> Prop} (h : zgj n f es k R) : PCall Tryz.prog 14 [.sl n f es, .int .i64 k] R :=
 PCall.of Tryz.func14 (by kernel_rfl) (by kernel_rfl) (zl (by kernel_rfl)) (Eq.mpr (by kernel_rfl : aT Tryz.prog (fun _ => none) Tryz.f14 [0, 1, 4, 8] (fun _ => none) (Tryz.f14.body.getD .skip) [.sl n f es, .int .i64 k] R = _) h)

def y6 (n f : Bool) (es : LL) (n2 f2 : Bool) (es2 : LL) (x5 : Int) : Env × Hp := ([(0, LV.pv (PV.sl n f es)), (1, LV.pv (PV.sl n2 f2 es2)), (5, Y6 x5)], [])
def y7 (n f : Bool) (es : LL) (n2 f2 : Bool) (es2 : LL) (J : Int -> Prop) (μ : Int -> Nat) (R : PV -> Prop) : Prop :=
 if ((↑es.length : Int) != (↑es2.length : Int)) = true then R (Zb false) else (aB (y6 n f es n2 f2 es2 (0 : Int)) /\ J (0 : Int)) /\ ∀ (x5 : Int), J x5 -> if decide (x5 < (↑es.length : Int)) = true then aM es x5 1 /\ ∃ (n1 : Int),
 (es.getD x5.toNat []).head? = some (Z3 n1) /\ aM es2 x5 1 /\ ∃ n3, (es2.getD x5.toNat []).head? = some (Z3 n3) /\ if (n1 != n3) = true then R (Zb false) else aB (y6 n f es n2 f2 es2 (i64.wrap (x5 + 1))) /\ J
 (i64.wrap (x5 + 1)) /\ μ (i64.wrap (x5 + 1)) < μ x5 else R (Zb true)
theorem zpx (n f : Bool) (es : LL) (n2 f2 : Bool) (es2 : LL) (J : Int -> Prop) (μ : Int -> Nat) {R : PV -> Prop} (h : y7 n f es n2 f2 es2 J μ R) : PCall Tryz.prog 26 [.sl n f es, .sl n2 f2 es2] R :=
 PCall.of Tryz.func26 (by kernel_rfl) (by kernel_rfl) (zl (by kernel_rfl)) (Eq.mpr (by kernel_rfl : aT Tryz.prog (fun _ => none) Tryz.f26 [0, 1, 4, 5, 10, 14, 25] (fun zz_ => match zz_ with | 4 => some ⟨Int × Unit, fun s => y6 n f es n2 f2 es2 s.1, fun _ s => J s.1, fun s => μ s.1, fun e h => (((gI e 5), ())), [], [0, 1, 5], [], fun p => ∀ (x5 : Int), p (x5, ()), fun p h s => h s.1⟩ | _ => none) (Tryz.f26.body.getD .skip) [.sl n f es, .sl n2 f2 es2] R = _) h)

def tP (n f : Bool) (es : LL) (n2 f2 : Bool) (ss : LL) (x7 : Int) (n_0 : Bool) (s_0 : LL) (n_1 : Bool) (s_1 : LL) : Env × Hp := ([(0, LV.pv (PV.sl n f es)), (1, LV.pv (PV.sl n2 f2 ss)), (5, LV.own 0), (6, LV.own 1), (7, Y6 x7)], [.sl (21, 1) true n_0 s_0, .sl (3, 1) true n_1 s_1])
def y8 (n f : Bool) (es : LL) (n2 f2 : Bool) (ss : LL) (x7 x8 x9 : Int) (n_0 : Bool) (s_0 : LL) (n_1 : Bool) (s_1 : LL) : Env × Hp := ([(0, LV.pv (PV.sl n f es)), (1, LV.pv (PV.sl n2 f2 ss)), (5, LV.own 0), (6, LV.own 1), (7, Y6 x7), (8, Y6 x8), (9, Y6 x9)], [.sl (21, 1) true n_0 s_0, .sl (3, 1) true n_1 s_1])
def zgk (n f : Bool) (es : LL) (n2 f2 : Bool) (ss : LL) (J : Int -> Bool -> LL -> Bool -> LL -> Prop) (μ : Int -> Bool -> LL -> Bool -> LL -> Nat) (J2 : Int -> Int -> Int -> Bool -> LL -> Bool -> LL -> Int -> Int -> Int -> Bool -> LL -> Bool -> LL -> Prop) (μ2 : Int -> Int -> Int -> Bool -> LL -> Bool -> LL -> Nat) (R : PV -> Prop) : Prop :=
 (aB (tP n f es n2 f2 ss (0 : Int) true [] true []) /\ J (0 : Int) true [] true []) /\ ∀ (x7 : Int) (n_0 : Bool) (s_0 : LL) (n_1 : Bool) (s_1 : LL), J x7 n_0 s_0 n_1 s_1 -> if decide (x7 < (↑ss.length : Int)) = true then aM ss x7 1 /\ ∃
 (n1 : Int), (ss.getD x7.toNat []).head? = some (Z3 n1) /\ PCall Tryz.prog 75 [PV.sl n f es, Z3 n1] fun v => ∃ n3, v = Z6 n3 /\ aM ss x7 1 /\ ∃ n4, (ss.getD x7.toNat []).head? = some (Z3 n4) /\ (aR [[Z3 n4]] 1 /\
 (s_0.length + 1) * 4 <= 140737488355328) /\ (aR [[Z6 n3]] 1 /\ (s_1.length + 1) * 8 <= 140737488355328) /\ (aB (y8 n f es n2 f2 ss x7 n3 (↑s_0.length : Int) (n_0 && false) (s_0 ++ [[Z3 n4]]) (n_1 && false) (s_1 ++ [[Z6 n3]])) /\ J2 x7 n3
 (↑s_0.length : Int) (n_0 && false) (s_0 ++ [[Z3 n4]]) (n_1 && false) (s_1 ++ [[Z6 n3]]) x7 n3 (↑s_0.length : Int) (n_0 && false) (s_0 ++ [[Z3 n4]]) (n_1 && false) (s_1 ++ [[Z6 n3]])) /\ ∀ (x71 x8 x9 : Int) (n_01 : Bool) (s_01 : LL) (n_11 :
 Bool) (s_11 : LL), J2 x7 n3 (↑s_0.length : Int) (n_0 && false) (s_0 ++ [[Z3 n4]]) (n_1 && false) (s_1 ++ [[Z6 n3]]) x71 x8 x9 n_01 s_01 n_11 s_11 -> if (decide (x9 > 0) && x8 != 0) = true then aM s_11 (i64.wrap (x9 - 1)) 1 /\ ∃ (n5
 : Int), (List.drop 0 (s_11.getD (i64.wrap (x9 - 1)).toNat [])).head? = some (Z6 n5) /\ if decide (n5 > x8) = true then aM s_01 (i64.wrap (x9 - 1)) 1 /\ ∃ n6, (List.drop 0 (s_01.getD (i64.wrap (x9 - 1)).toNat
 [])).head? = some (Z3 n6) /\ aM s_01 x9 1 /\ (1 = 1 /\ 1 <= (s_01.getD x9.toNat []).length) /\ aM s_11 (i64.wrap (x9 - 1)) 1 /\ ∃ n7, (List.drop 0 (s_11.getD (i64.wrap (x9 - 1)).toNat [])).head? = some (Z6 n7) /\
 aM s_11 x9 1 /\ (1 = 1 /\ 1 <= (s_11.getD x9.toNat []).length) /\ aM ss x71 1 /\ ∃ n8, (ss.getD x71.toNat []).head? = some (Z3 n8) /\ aM (s_01.set x9.toNat (Z3 n6 :: zq (List.drop 1 (s_01.getD x9.toNat
 [])))) (i64.wrap (x9 - 1)) 1 /\ (1 = 1 /\ 1 <= ((s_01.set x9.toNat (Z3 n6 :: zq (List.drop 1 (s_01.getD x9.toNat [])))).getD (i64.wrap (x9 - 1)).toNat []).length) /\ aM (s_11.set x9.toNat (Z6 n7 ::
 zq (List.drop 1 (s_11.getD x9.toNat [])))) (i64.wrap (x9 - 1)) 1 /\ (1 = 1 /\ 1 <= ((s_11.set x9.toNat (Z6 n7 :: zq (List.drop 1 (s_11.getD x9.toNat [])))).getD (i64.wrap (x9
 - 1)).toNat []).length) /\ aB (y8 n f es n2 f2 ss x71 x8 (i64.wrap (x9 - 1)) n_01 ((s_01.set x9.toNat (Z3 n6 :: zq (List.drop 1 (s_01.getD x9.toNat [])))).set (i64.wrap (x9 - 1)).toNat (Z3 n8
 :: zq (List.drop 1 ((s_01.set x9.toNat (Z3 n6 :: zq (List.drop 1 (s_01.getD x9.toNat [])))).getD (i64.wrap (x9 - 1)).toNat [])))) n_11 ((s_11.set x9.toNat (Z6 n7 :: List.append._f
 [] PUnit.unit (List.drop 1 (s_11.getD x9.toNat [])))).set (i64.wrap (x9 - 1)).toNat (Z6 x8 :: zq (List.drop 1 ((s_11.set x9.toNat (Z6 n7 :: zq (List.drop 1 (s_11.getD x9.toNat
 [])))).getD (i64.wrap (x9 - 1)).toNat []))))) /\ J2 x7 n3 (↑s_0.length : Int) (n_0 && false) (s_0 ++ [[Z3 n4]]) (n_1 && false) (s_1 ++ [[Z6 n3]]) x71 x8 (i64.wrap (x9 - 1)) n_01 ((s_01.set x9.toNat (Z3 n6 :: List.append._f []
 PUnit.unit (List.drop 1 (s_01.getD x9.toNat [])))).set (i64.wrap (x9 - 1)).toNat (Z3 n8 :: zq (List.drop 1 ((s_01.set x9.toNat (Z3 n6 :: zq (List.drop 1 (s_01.getD x9.toNat
 [])))).getD (i64.wrap (x9 - 1)).toNat [])))) n_11 ((s_11.set x9.toNat (Z6 n7 :: zq (List.drop 1 (s_11.getD x9.toNat [])))).set (i64.wrap (x9 - 1)).toNat (Z6 x8 :: zq
 (List.drop 1 ((s_11.set x9.toNat (Z6 n7 :: zq (List.drop 1 (s_11.getD x9.toNat [])))).getD (i64.wrap (x9 - 1)).toNat [])))) /\ μ2 x71 x8 (i64.wrap (x9 - 1)) n_01 ((s_01.set x9.toNat (Z3 n6 ::
 zq (List.drop 1 (s_01.getD x9.toNat [])))).set (i64.wrap (x9 - 1)).toNat (Z3 n8 :: zq (List.drop 1 ((s_01.set x9.toNat (Z3 n6 :: zq (List.drop 1
 (s_01.getD x9.toNat [])))).getD (i64.wrap (x9 - 1)).toNat [])))) n_11 ((s_11.set x9.toNat (Z6 n7 :: zq (List.drop 1 (s_11.getD x9.toNat [])))).set (i64.wrap (x9 - 1)).toNat (Z6 x8 :: List.append._f
 [] PUnit.unit (List.drop 1 ((s_11.set x9.toNat (Z6 n7 :: zq (List.drop 1 (s_11.getD x9.toNat [])))).getD (i64.wrap (x9 - 1)).toNat [])))) < μ2 x71 x8 x9 n_01 s_01 n_11 s_11 else aB (tP n f es n2 f2 ss
 (i64.wrap (x71 + 1)) n_01 s_01 n_11 s_11) /\ J (i64.wrap (x71 + 1)) n_01 s_01 n_11 s_11 /\ μ (i64.wrap (x71 + 1)) n_01 s_01 n_11 s_11 < μ x7 n_0 s_0 n_1 s_1 else aB (tP n f es n2 f2 ss (i64.wrap (x71 +
 1)) n_01 s_01 n_11 s_11) /\ J (i64.wrap (x71 + 1)) n_01 s_01 n_11 s_11 /\ μ (i64.wrap (x71 + 1)) n_01 s_01 n_11 s_11 < μ x7 n_0 s_0 n_1 s_1 else R (PV.sl n_0 false s_0)
theorem zpy (n f : Bool) (es : LL) (n2 f2 : Bool) (ss : LL) (J : Int -> Bool -> LL -> Bool -> LL -> Prop) (μ : Int -> Bool -> LL -> Bool -> LL -> Nat) (J2 : Int -> Int -> Int -> Bool -> LL -> Bool -> LL -> Int -> Int -> Int -> Bool -> LL -> Bool -> LL -> Prop) (μ2 : Int -> Int -> Int -> Bool -> LL -> Bool -> LL -> Nat) {R : PV -> Prop} (h : zgk n f es n2 f2 ss J μ J2 μ2 R) : PCall Tryz.prog 74 [.sl n f es, .sl n2 f2 ss] R :=
 PCall.of Tryz.func74 (by kernel_rfl) (by kernel_rfl) (zl (by kernel_rfl)) (Eq.mpr (by kernel_rfl : aT Tryz.prog (fun _ => none) Tryz.f74 [0, 1, 4, 5, 6, 7, 8, 9, 13, 49] (fun zz_ => match zz_ with | 4 => some ⟨Int × Bool × LL × Bool × LL, fun s => tP n f es n2 f2 ss s.1 s.2.1 s.2.2.1 s.2.2.2.1 s.2.2.2.2, fun _ s => J s.1 s.2.1 s.2.2.1 s.2.2.2.1 s.2.2.2.2, fun s => μ s.1 s.2.1 s.2.2.1 s.2.2.2.1 s.2.2.2.2, fun e h => (gI e 7, oN h 0, oS h 0, oN h 1, oS h 1), [(5, 21, 1), (6, 3, 1)], [0, 1, 5, 6, 7], [], fun p => ∀ (x7 : Int) (n_0 : Bool) (s_0 : LL) (n_1 : Bool) (s_1 : LL), p (x7, n_0, s_0, n_1, s_1), fun p h s => h s.1 s.2.1 s.2.2.1 s.2.2.2.1 s.2.2.2.2⟩ | 10 => some ⟨Int × Int × Int × Bool × LL × Bool × LL, fun s => y8 n f es n2 f2 ss s.1 s.2.1 s.2.2.1 s.2.2.2.1 s.2.2.2.2.1 s.2.2.2.2.2.1 s.2.2.2.2.2.2, fun t s => J2 t.1 t.2.1 t.2.2.1 t.2.2.2.1 t.2.2.2.2.1 t.2.2.2.2.2.1 t.2.2.2.2.2.2 s.1 s.2.1 s.2.2.1 s.2.2.2.1 s.2.2.2.2.1 s.2.2.2.2.2.1 s.2.2.2.2.2.2, fun s => μ2 s.1 s.2.1 s.2.2.1 s.2.2.2.1 s.2.2.2.2.1 s.2.2.2.2.2.1 s.2.2.2.2.2.2, fun e h => (gI e 7, gI e 8, gI e 9, oN h 0, oS h 0, oN h 1, oS h 1), [], [0, 1, 5, 6, 7, 8, 9], [], fun p => ∀ (x7 x8 x9 : Int) (n_0 : Bool) (s_0 : LL) (n_1 : Bool) (s_1 : LL), p (x7, x8, x9, n_0, s_0, n_1, s_1), fun p h s => h s.1 s.2.1 s.2.2.1 s.2.2.2.1 s.2.2.2.2.1 s.2.2.2.2.2.1 s.2.2.2.2.2.2⟩ | _ => none) (Tryz.f74.body.getD .skip) [.sl n f es, .sl n2 f2 ss] R = _) h)

def y9 (tc tg tj tf tp : PV) (M S : List (PV × PV)) (n f : Bool) (es : LL) (x12 : Int) (h0_0 : PV) (n_1 : Bool) (s_1 : LL) : Env × Hp := ([(0, LV.pv (PV.ptr [tc, tg, tj, tf, tp, PV.mp M, PV.mp S])), (5, LV.box 0 0), (10, LV.pv (PV.sl n f es)), (11, Y6 ↑es.length), (12, Y6 x12)], [.box [.pv h0_0, LV.own 1], .sl (21, 1) true n_1 s_1])
def zgl (tc tg tj tf tp : PV) (M S : List (PV × PV)) (n f : Bool) (es : LL) (J : Int -> PV -> Bool -> LL -> Prop) (μ : Int -> PV -> Bool -> LL -> Nat) (R : PV -> Prop) : Prop :=
 dW (PV.ptr [tc, tg, tj, tf, tp, PV.mp M, PV.mp S]) = true /\ (aB (y9 tc tg tj tf tp M S n f es (0 : Int) (PV.ptr [tc, tg, tj, tf, tp, PV.mp M, PV.mp S]) true []) /\ J (0 : Int) (PV.ptr [tc, tg, tj, tf, tp, PV.mp M, PV.mp S]) true [])
 /\ ∀ (x12 : Int) (h0_0 : PV) (n_1 : Bool) (s_1 : LL), J x12 h0_0 n_1 s_1 -> if decide (x12 < (↑es.length : Int)) = true then aM es x12 1 /\ ∃ n1, (es.getD x12.toNat []).head? = some (Z3 n1) /\ ACall Tryz.prog 120 [LV.box 0 0, LV.pv
 (Z3 n1), Y6 8] [Ob.box [LV.pv h0_0, LV.own 1], Ob.sl (21, 1) false n_1 s_1] fun (r : LV) (h' : Hp) => ∃ (t : Bool × LL), (r = LV.tup [] /\ h' = [Ob.box [LV.pv h0_0, LV.own 1], Ob.sl (21, 1) true t.fst t.snd]) /\ (True /\ True /\ True) /\ aB
 (y9 tc tg tj tf tp M S n f es (i64.wrap (x12 + 1)) h0_0 t.fst t.snd) /\ J (i64.wrap (x12 + 1)) h0_0 t.fst t.snd /\ μ (i64.wrap (x12 + 1)) h0_0 t.fst t.snd < μ x12 h0_0 n_1 s_1 else PCall Tryz.prog 121 [PV.ptr [tc,
 tg, tj, tf, tp, PV.mp M, PV.mp S], PV.sl n_1 false s_1] fun v => ∃ n1 f1 es1, v = PV.sl n1 f1 es1 /\ R (PV.sl n1 f1 es1)
theorem zpz (tc tg tj tf tp : PV) (M S : List (PV × PV)) (n f : Bool) (es : LL) (J : Int -> PV -> Bool -> LL -> Prop) (μ : Int -> PV -> Bool -> LL -> Nat) {R : PV -> Prop} (h : zgl tc tg tj tf tp M S n f es J μ R) : PCall Tryz.prog 78 [.ptr [tc, tg, tj, tf, tp, .mp M, .mp S], .sl n f es] R :=
 PCall.of Tryz.func78 (by kernel_rfl) (by kernel_rfl) (zl (by kernel_rfl)) (Eq.mpr (by kernel_rfl : aT Tryz.prog (fun zz_ => match zz_ with | 120 => some ⟨Bool × LL, fun _ hs t => (.tup [], match hs with | [.box (x :: _), .sl ty _ _ _] => [.box [x, .own 1], .sl ty true t.1 t.2] | [.box (x :: _)] => [.box [x, .own 1], .sl (21, 1) true t.1 t.2] | h => h), none⟩ | _ => none) Tryz.f78 [0, 1, 4, 5, 7, 10, 11, 12, 13] (fun zz_ => match zz_ with | 3 => some ⟨Int × PV × Bool × LL, fun s => y9 tc tg tj tf tp M S n f es s.1 s.2.1 s.2.2.1 s.2.2.2, fun _ s => J s.1 s.2.1 s.2.2.1 s.2.2.2, fun s => μ s.1 s.2.1 s.2.2.1 s.2.2.2, fun e h => (gI e 12, hP h 0 0, oN h 1, oS h 1), [(1000001, 21, 1)], [0, 5, 10, 11, 12], [], fun p => ∀ (x12 : Int) (h0_0 : PV) (n_1 : Bool) (s_1 : LL), p (x12, h0_0, n_1, s_1), fun p h s => h s.1 s.2.1 s.2.2.1 s.2.2.2⟩ | _ => none) (Tryz.f78.body.getD .skip) [.ptr [tc, tg, tj, tf, tp, .mp M, .mp S], .sl n f es] R = _) h)

def tQ (n f : Bool) (es : LL) (n2 f2 : Bool) (ss : LL) (x6 : Int) (n_0 : Bool) (s_0 : LL) : Env × Hp := ([(0, LV.pv (PV.sl n f es)), (1, LV.pv (PV.sl n2 f2 ss)), (5, LV.own 0), (6, Y6 x6)], [.sl (21, 1) true n_0 s_0])
def zgm (n f : Bool) (es : LL) (n2 f2 : Bool) (ss : LL) (J : Int -> Bool -> LL -> Prop) (μ : Int -> Bool -> LL -> Nat) (R : PV -> Prop) : Prop :=
 (aB (tQ n f es n2 f2 ss (0 : Int) true []) /\ J (0 : Int) true []) /\ ∀ (x6 : Int) (n_0 : Bool) (s_0 : LL), J x6 n_0 s_0 -> if decide (x6 < (↑ss.length : Int)) = true then aM ss x6 1 /\ ∃ n1, (ss.getD x6.toNat []).head? = some
 (Z3 n1) /\ ACall Tryz.prog 73 [LV.pv (PV.sl n f es), LV.pv (Z3 n1), Y6 8] [] fun (r : LV) (h' : Hp) => (∃ (t : Bool × LL), (r = LV.own 0 /\ h' = [Ob.sl (21, 1) true t.fst t.snd]) /\ True /\ (aR t.snd 1 /\ (s_0.length + t.snd.length) * 4 <=
 140737488355328) /\ aB (tQ n f es n2 f2 ss (i64.wrap (x6 + 1)) (n_0 && t.snd.isEmpty) (s_0 ++ t.snd)) /\ J (i64.wrap (x6 + 1)) (n_0 && t.snd.isEmpty) (s_0 ++ t.snd) /\ μ (i64.wrap (x6 + 1)) (n_0 && t.snd.isEmpty)
 (s_0 ++ t.snd) < μ x6 n_0 s_0) ∨ ∃ (t : LL), (r = LV.pv (PV.sl false true t) /\ h' = []) /\ True /\ (aR t 1 /\ (s_0.length + t.length) * 4 <= 140737488355328) /\ aB (tQ n f es n2 f2 ss (i64.wrap (x6 + 1)) (n_0 && t.isEmpty) (s_0
 ++ t)) /\ J (i64.wrap (x6 + 1)) (n_0 && t.isEmpty) (s_0 ++ t) /\ μ (i64.wrap (x6 + 1)) (n_0 && t.isEmpty) (s_0 ++ t) < μ x6 n_0 s_0 else PCall Tryz.prog 74 [PV.sl n f es, PV.sl n_0 false s_0] fun v => ∃ n1, ∃
 (f1 : Bool), ∃ es1, v = PV.sl n1 f1 es1 /\ R (PV.sl n1 f1 es1)
theorem zp0 (n f : Bool) (es : LL) (n2 f2 : Bool) (ss : LL) (J : Int -> Bool -> LL -> Prop) (μ : Int -> Bool -> LL -> Nat) {R : PV -> Prop} (h : zgm n f es n2 f2 ss J μ R) : PCall Tryz.prog 32 [.sl n f es, .sl n2 f2 ss] R :=
 PCall.of Tryz.func32 (by kernel_rfl) (by kernel_rfl) (zl (by kernel_rfl)) (Eq.mpr (by kernel_rfl : aT Tryz.prog (fun zz_ => match zz_ with | 73 => some ⟨Bool × LL, fun _ hs t => (.own hs.length, hs ++ [.sl (21, 1) true t.1 t.2]), some ⟨LL, fun _ hs t => (.pv (.sl false true t), hs)⟩⟩ | _ => none) Tryz.f32 [0, 1, 4, 5, 6, 10] (fun zz_ => match zz_ with | 3 => some ⟨Int × Bool × LL, fun s => tQ n f es n2 f2 ss s.1 s.2.1 s.2.2, fun _ s => J s.1 s.2.1 s.2.2, fun s => μ s.1 s.2.1 s.2.2, fun e h => (gI e 6, oN h 0, oS h 0), [(5, 21, 1)], [0, 1, 5, 6], [], fun p => ∀ (x6 : Int) (n_0 : Bool) (s_0 : LL), p (x6, n_0, s_0), fun p h s => h s.1 s.2.1 s.2.2⟩ | _ => none) (Tryz.f32.body.getD .skip) [.sl n f es, .sl n2 f2 ss] R = _) h)

def zA (n f : Bool) (es : LL) (n2 f2 : Bool) (ss : LL) (x13 : Int) : Env × Hp := ([(0, LV.pv (PV.sl n f es)), (1, LV.pv (PV.sl n2 f2 ss)), (12, Y6 ↑es.length), (13, Y6 x13)], [])
def zB (n f : Bool) (es : LL) (n2 f2 : Bool) (ss : LL) (J : Int -> Prop) (μ : Int -> Nat) (R : PV -> Prop) : Prop :=
 if ((↑es.length : Int) != (↑ss.length : Int)) = true then R (Zb false) else (aB (zA n f es n2 f2 ss (0 : Int)) /\ J (0 : Int)) /\ ∀ (x13 : Int), J x13 -> if decide (x13 < (↑es.length : Int)) = true then aM es x13 1 /\ ∃ (n1 : Int),
 (es.getD x13.toNat []).head? = some (Z3 n1) /\ aM ss x13 1 /\ ∃ n3, (ss.getD x13.toNat []).head? = some (Z3 n3) /\ if (n1 != n3) = true then R (Zb false) else aB (zA n f es n2 f2 ss (i64.wrap (x13 + 1))) /\ J
 (i64.wrap (x13 + 1)) /\ μ (i64.wrap (x13 + 1)) < μ x13 else R (Zb true)
theorem zp1 (n f : Bool) (es : LL) (n2 f2 : Bool) (ss : LL) (J : Int -> Prop) (μ : Int -> Nat) {R : PV -> Prop} (h : zB n f es n2 f2 ss J μ R) : PCall Tryz.prog 70 [.sl n f es, .sl n2 f2 ss] R :=
 PCall.of Tryz.func70 (by kernel_rfl) (by kernel_rfl) (zl (by kernel_rfl)) (Eq.mpr (by kernel_rfl : aT Tryz.prog (fun _ => none) Tryz.f70 [0, 1, 4, 5, 10, 12, 13, 14, 24] (fun zz_ => match zz_ with | 4 => some ⟨Int × Unit, fun s => zA n f es n2 f2 ss s.1, fun _ s => J s.1, fun s => μ s.1, fun e h => (((gI e 13), ())), [], [0, 1, 12, 13], [], fun p => ∀ (x13 : Int), p (x13, ()), fun p h s => h s.1⟩ | _ => none) (Tryz.f70.body.getD .skip) [.sl n f es, .sl n2 f2 ss] R = _) h)

def zgn (n f : Bool) (es : LL) (n2 f2 : Bool) (ss : LL) (n3 f3 : Bool) (s3 : LL) (R : PV -> Prop) : Prop :=
 PCall Tryz.prog 32 [PV.sl n f es, PV.sl n2 f2 ss] fun v => ∃ n1 f1 es1, v = PV.sl n1 f1 es1 /\ PCall Tryz.prog 32 [PV.sl n f es, PV.sl n3 f3 s3] fun v1 => ∃ n4 f4, ∃ (es2 : LL),
 v1 = PV.sl n4 f4 es2 /\ PCall Tryz.prog 26 [PV.sl n1 f1 es1, PV.sl n4 f4 es2] fun v2 => ∃ b, v2 = Zb b /\ R (Zb b)
theorem zp2 (n f : Bool) (es : LL) (n2 f2 : Bool) (ss : LL) (n3 f3 : Bool) (s3 : LL) {R : PV -> Prop} (h : zgn n f es n2 f2 ss n3 f3 s3 R) : PCall Tryz.prog 65 [.sl n f es, .sl n2 f2 ss, .sl n3 f3 s3] R :=
 PCall.of Tryz.func65 (by kernel_rfl) (by kernel_rfl) (zl (by kernel_rfl)) (Eq.mpr (by kernel_rfl : aT Tryz.prog (fun _ => none) Tryz.f65 [0, 1, 2, 6] (fun _ => none) (Tryz.f65.body.getD .skip) [.sl n f es, .sl n2 f2 ss, .sl n3 f3 s3] R = _) h)

end Go.Eng



namespace Go.Eng.Rows
open Go Go.Eng Go.Eng.Trie
def qD (rows : List Row) : Bool -> Int -> List Int -> Int
 | m, _, [] => if m then 2 else 0
 | m, last, r :: l => if (decide (ofQ rows r = 1) || (!decide (aI rows 1 r = 0) && decide (aI rows 1 r < last))) then 1 else qD rows (m || decide (ofQ rows r = 2)) (aI rows 1 r) l
def zp3 (rows : List Row) : Bool := rows.all fun x => !decide (x.kind = 2) || ((decide (1 <= x.a) && decide (x.a <= 1114111)) && (decide (0 <= x.b) && decide (x.b <= 1114111)))
theorem zp4 {rows : List Row} (h : zp3 rows = true) : cK rows := fun x hx hk => by
 have := List.all_eq_true.1 h x hx
 simpa [hk] using this
def zp5 (rows : List Row) : Bool := rows.all fun x => !decide (x.kind = 1) || decide (0 <= x.a)
def c6 (rows : List Row) : Prop := ∀ r, 0 <= aI rows 1 r
theorem zp6 {rows : List Row} (h : zp5 rows = true) : c6 rows := fun r => by
 unfold aI
 cases hf : bV rows 1 r with
 | none => exact Int.le_refl _
 | some p =>
   obtain ⟨x, hx, hk, ha, _⟩ := nB hf
   have := List.all_eq_true.1 h x hx
   simp only [hk, decide_true, Bool.not_true, Bool.false_or, decide_eq_true_eq] at this
   simp only; omega
end Go.Eng.Rows



namespace Go.Eng
open Go Go.Proofs Go.Eng.Rows Go.Eng.Trie
theorem nJ : cK tab := zp4 (by kernel_rfl)
theorem qE : c6 tab := zp6 (by kernel_rfl)
theorem q1 : qD tab false 0 [101, 769] = 2 := by kernel_rfl
theorem q2 : qD tab false 0 [233] = 0 := by kernel_rfl
theorem q3 : qD tab false 0 [769, 807] = 1 := by kernel_rfl
theorem q4 : qD tab false 0 [8491] = 1 := by kernel_rfl
theorem q5 : yK tab 101 = true := by kernel_rfl
theorem q6 : yK tab 769 = false := by kernel_rfl
theorem q7 : yK tab 4449 = false := by kernel_rfl
end Go.Eng



namespace Go.Eng.Rows
open Go Go.Eng Go.Eng.Trie Go.Eng.Srt
def bN (rows : List Row) (l : List Int) : List Int := bS (aI rows 1) (l.flatMap (aO rows 8))
def c7 (rows : List Row) (x : Int) : Bool := !bW x && decide (aG rows x = (0, 0))
def zp7 (rows : List Row) : Prop := ∀ r, ∀ x ∈ aO rows 8 r, c7 rows x = true
theorem zp8 {rows : List Row} {r : Int} {p : Int × Int} (h : bV rows 2 r = some p) : ∃ x ∈ rows, x.kind = 2 /\ x.fr <= r /\ r <= x.to := by
 obtain ⟨x, h1, h2, _, _, h3, h4, _⟩ := nB h
 exact ⟨x, h1, h2, h3, h4⟩
theorem tR {rows : List Row} {x : Int} (h : c7 rows x = true) (d : Nat) : aO rows d x = [x] := by
 simp only [c7, Bool.and_eq_true, Bool.not_eq_true', decide_eq_true_eq] at h
 exact nE h.1 h.2
theorem zgo {rows : List Row} : ∀ {l : List Int}, (∀ x ∈ l, c7 rows x = true) -> l.flatMap (aO rows 8) = l
 | [], _ => rfl
 | x :: l, h => by
   rw [List.flatMap_cons, tR (h x List.mem_cons_self), zgo fun y hy => h y (List.mem_cons_of_mem _ hy)]; rfl
section
variable {rows : List Row} (hk : c6 rows)
include hk
theorem zgp (l : List Int) : (bN rows l).length <= 768 * l.length := by
 unfold bN
 rw [<- (tL hk _).len]
 induction l with
 | nil => simp
 | cons x l ih =>
   have := iM rows 8 x
   rw [List.flatMap_cons, List.length_append, List.length_cons]; omega
end
end Go.Eng.Rows



namespace Go.Eng
open Go Go.Proofs Go.Eng.Rows Go.Eng.Trie
end Go.Eng



namespace Go.Eng
open Go Go.Proofs Go.Eng.Rows Go.Eng.Trie
end Go.Eng



namespace Go.Eng
open Go Go.Proofs Go.Eng.Rows Go.Eng.Trie Go.Eng.Srt
theorem PCall.ofA {P : Program} {f : Nat} {args : List PV} {Q : LV -> Hp -> Prop} {R : PV -> Prop} (hc : ACall P f (args.map .pv) [] Q) (hq : ∀ r h', Q r h' -> ∃ p, i6 h' r = some p /\ R p) : PCall P f args R :=
 ⟨hc.1, fun w I G cargs h1 h2 h3 => (hc.2 w I G cargs h1 h2 h3).mono fun e w' ⟨cv, r, h', I', G', e1, e2, e3, e4, e5⟩ => by
  obtain ⟨p, hp, hR⟩ := hq r h' e2
  have ht := e5.t
  have hno : ∀ b, ¬ aW [] G b := fun b ⟨o, ob, ho, _⟩ => by simp at ho
  exact ⟨cv, .pv p, [], AllB I' h' G', G', e1, ⟨p, rfl, hR⟩, HRel.nil G' (fun b hb => hb.elim (e3.cl b) e3.blk_lt), .pv _ _ (rI e3 e4 hp),
   ⟨⟨ht.os, ht.tape, ht.output, ht.size, ht.keep, fun b hb => .inl (ht.i1 b hb), fun b hb => hb.elim (ht.i2 b) (fun ho => (ht.own2 b ho).elim (fun x => absurd x (hno b)) (fun x => .inr (.inr x))), fun b hb => absurd hb (fun ⟨o, ob, ho, _⟩ => by simp at ho), ht.frz, ht.drawn⟩, Nat.le_refl _, fun o ob ho => by simp at ho⟩⟩⟩
theorem zp9 (n f : Bool) (l : List Int) (k : Nat) (hk : k < 1000) : PCall Tryz.prog 14 [.sl n f (aA l), .int .i64 k] fun v => ∃ n f, v = .sl n f (aA (l.take k)) := by
 refine zpw _ _ _ _ ?_; unfold zgj
 refine aF (fun hc => ?_) (fun hc => ?_)
 ·simp only [decide_eq_true_eq, bC] at hc
  refine ⟨⟨by unfold dK; simp; omega, dC _⟩, n, _, by rw [show ((k : Int)).toNat = k by omega]; simp only [aA, List.map_take, List.drop_zero]; rfl⟩
 ·simp only [decide_eq_true_eq, bC] at hc
  rw [List.take_of_length_le (by omega)]
  exact ⟨_, _, rfl⟩
theorem zqa (n f n2 f2 : Bool) (l m : List Int) (hl : l.length < 1000000000000) : y7 n f (aA l) n2 f2 (aA m) (fun i => 0 <= i /\ i <= l.length /\ l.take i.toNat = m.take i.toNat) (fun i => l.length - i.toNat) fun v => v = .bool (decide (l = m)) := by
 unfold y7
 refine aF (fun hc => ?_) (fun hc => ?_)
 ·simp only [bC, bne_iff_ne, ne_eq] at hc
  have : l ≠ m := fun e => hc (by rw [e])
  simp [this]
 ·simp only [bC, bne_iff_ne, ne_eq, Decidable.not_not] at hc
  have hlm : l.length = m.length := by omega
  refine ⟨⟨rfl, Int.le_refl _, by omega, rfl⟩, ?_⟩
  rintro i ⟨i0, i1, he⟩
  refine aF (fun h => ?_) (fun h => ?_)
  ·simp only [decide_eq_true_eq, bC] at h
   have hi : i.toNat < l.length := by omega
   have hj : i.toNat < m.length := by omega
   obtain ⟨g1, g2⟩ := kO i0 hi
   obtain ⟨k1, k2⟩ := kO i0 hj
   have hw : i64.wrap (i + 1) = i + 1 := aD (by omega) (by omega)
   refine ⟨g1, l[i.toNat], by rw [g2]; rfl, k1, m[i.toNat], by rw [k2]; rfl, aF (fun hc2 => ?_) (fun hc2 => ?_)⟩
   ·simp only [bne_iff_ne, ne_eq] at hc2
    have : l ≠ m := fun e => hc2 (by subst e; rfl)
    simp [this]
   ·simp only [bne_iff_ne, ne_eq, Decidable.not_not] at hc2
    rw [hw]
    exact ⟨rfl, ⟨by omega, by omega, by rw [show (i + 1).toNat = i.toNat + 1 by omega, c5 hi, c5 hj, he, hc2]⟩, by dsimp only; omega⟩
  ·simp only [decide_eq_true_eq, bC] at h
   rw [List.take_of_length_le (by omega), List.take_of_length_le (by omega)] at he
   simp [he]
theorem zqb (n f n2 f2 : Bool) (l m : List Int) (hl : l.length < 1000000000000) : zB n f (aA l) n2 f2 (aA m) (fun i => 0 <= i /\ i <= l.length /\ l.take i.toNat = m.take i.toNat) (fun i => l.length - i.toNat) fun v => v = .bool (decide (l = m)) := by
 unfold zB
 refine aF (fun hc => ?_) (fun hc => ?_)
 ·simp only [bC, bne_iff_ne, ne_eq] at hc
  have : l ≠ m := fun e => hc (by rw [e])
  simp [this]
 ·simp only [bC, bne_iff_ne, ne_eq, Decidable.not_not] at hc
  have hlm : l.length = m.length := by omega
  refine ⟨⟨rfl, Int.le_refl _, by omega, rfl⟩, ?_⟩
  rintro i ⟨i0, i1, he⟩
  refine aF (fun h => ?_) (fun h => ?_)
  ·simp only [decide_eq_true_eq, bC] at h
   have hi : i.toNat < l.length := by omega
   have hj : i.toNat < m.length := by omega
   obtain ⟨g1, g2⟩ := kO i0 hi
   obtain ⟨k1, k2⟩ := kO i0 hj
   have hw : i64.wrap (i + 1) = i + 1 := aD (by omega) (by omega)
   refine ⟨g1, l[i.toNat], by rw [g2]; rfl, k1, m[i.toNat], by rw [k2]; rfl, aF (fun hc2 => ?_) (fun hc2 => ?_)⟩
   ·simp only [bne_iff_ne, ne_eq] at hc2
    have : l ≠ m := fun e => hc2 (by subst e; rfl)
    simp [this]
   ·simp only [bne_iff_ne, ne_eq, Decidable.not_not] at hc2
    rw [hw]
    exact ⟨rfl, ⟨by omega, by omega, by rw [show (i + 1).toNat = i.toNat + 1 by omega, c5 hi, c5 hj, he, hc2]⟩, by dsimp only; omega⟩
  ·simp only [decide_eq_true_eq, bC] at h
   rw [List.take_of_length_le (by omega), List.take_of_length_le (by omega)] at he
   simp [he]
theorem zqc (n f n2 f2 : Bool) (l m : List Int) (hl : l.length < 1000000000000) : PCall Tryz.prog 26 [.sl n f (aA l), .sl n2 f2 (aA m)] fun v => v = .bool (decide (l = m)) :=
 zpx _ _ _ _ _ _ _ _ (zqa n f n2 f2 l m hl)
theorem zqd (n f n2 f2 : Bool) (l m : List Int) (hl : l.length < 1000000000000) : PCall Tryz.prog 70 [.sl n f (aA l), .sl n2 f2 (aA m)] fun v => v = .bool (decide (l = m)) :=
 zp1 _ _ _ _ _ _ (fun i => 0 <= i /\ i <= l.length /\ l.take i.toNat = m.take i.toNat) (fun i => l.length - i.toNat) (zqb n f n2 f2 l m hl)
section
variable {rows : List Row}
end
end Go.Eng



namespace Go.Eng
open Go Go.Proofs Go.Eng.Rows Go.Eng.Trie Go.Eng.Srt
section
variable {rows : List Row}
theorem set1 {es : List (List PV)} {k : Nat} {v x : PV} (h : es.getD k [] = [x]) : es.set k (v :: zq (List.drop 1 (es.getD k []))) = es.set k [v] := by rw [h]; rfl
theorem zC (A : List Int) (x : Int) (B : List Int) : (aA (A ++ x :: B)).getD A.length [] = [.int .i32 x] := by
 rw [zcp (by simp)]; simp
theorem zD (A : List Int) (x : Int) (B : List Int) : (aV (A ++ x :: B)).getD A.length [] = [.int .i64 x] := by
 simp [aV]
theorem zqe (hk : c6 rows) (n f n2 f2 : Bool) (L : List Int) (hrl : rows.length < 1000000) (hL : L.length < 1000000000) (hr : R32 L) :
 PCall Tryz.prog 74 [.sl n f (bD rows), .sl n2 f2 (aA L)] fun v => ∃ n f, v = .sl n f (aA (bS (aI rows 1) L)) := by
 have olen : ∀ l, (bS (aI rows 1) l).length = l.length := fun l => ((tL (key := aI rows 1) hk l).len).symm
 refine zpy _ _ _ _ _ _
  (fun i _ s0 _ s1 => 0 <= i /\ i <= L.length /\ s0 = aA (bS (aI rows 1) (L.take i.toNat)) /\ s1 = aV ((bS (aI rows 1) (L.take i.toNat)).map (aI rows 1))) (fun i _ _ _ _ => L.length - i.toNat)
  (fun i0 _ _ _ _ _ _ i c k _ s0 _ s1 => i = i0 /\ 0 <= i /\ i.toNat < L.length /\ ∃ x A B, L[i.toNat]? = some x /\ c = aI rows 1 x /\ k = (A.length : Nat) /\ bS (aI rows 1) (L.take i.toNat) = A ++ B /\ (∀ y ∈ B, dV (aI rows 1) x y = true) /\ s0 = aA (A ++ x :: B) /\ s1 = aV ((A ++ x :: B).map (aI rows 1))) (fun _ _ k _ _ _ _ => k.toNat) ?_
 unfold zgk
 refine ⟨⟨rfl, Int.le_refl _, by omega, by simp [bS, aA], by simp [bS, aV]⟩, ?_⟩
 rintro i n0 _ n1 _ ⟨i0, i1, rfl, rfl⟩
 refine aF (fun hc => ?_) (fun hc => ?_)
 ·simp only [decide_eq_true_eq, bC] at hc
  have hi : i.toNat < L.length := by omega
  obtain ⟨g1, g2⟩ := kO i0 hi
  have hx := hr _ (List.getElem_mem hi)
  have hw : i64.wrap (i + 1) = i + 1 := aD (by omega) (by omega)
  have hol := olen (L.take i.toNat)
  rw [List.length_take] at hol
  refine ⟨g1, L[i.toNat], by rw [g2]; rfl, ?_⟩
  refine (zoz n f _ hrl hx).mono ?_
  rintro _ rfl
  refine ⟨_, rfl, g1, L[i.toNat], by rw [g2]; rfl, ⟨dC [_], by rw [bC]; omega⟩, ⟨pO (enc := fun n => [PV.int .i64 n]) (fun _ => rfl) [_], by rw [iL, List.length_map]; omega⟩, ⟨rfl, ?_⟩, ?_⟩
  ·refine ⟨rfl, i0, hi, L[i.toNat], bS (aI rows 1) (L.take i.toNat), [], List.getElem?_eq_getElem hi, rfl, by simp, by simp, fun y hy => (by cases hy), by simp [aA], by simp [aV]⟩
  ·rintro i' c k n01 _ n11 _ ⟨rfl, _, _, x, A, B, hxi, rfl, rfl, hord, hB, rfl, rfl⟩
   have hwi : i64.wrap (i' + 1) = i' + 1 := aD (by omega) (by omega)
   have hAB : A.length + B.length = min i'.toNat L.length := by rw [<- hol, hord, List.length_append]
   have hxe : L[i'.toNat] = x := (List.getElem?_eq_some_iff.1 hxi).2
   -- the end of the walk back
   have done : (A = [] ∨ ∃ A' z, A = A' ++ [z] /\ dV (aI rows 1) x z = false) -> 0 <= i' + 1 /\ i' + 1 <= L.length /\ aA (A ++ x :: B) = aA (bS (aI rows 1) (L.take (i' + 1).toNat)) /\ aV ((A ++ x :: B).map (aI rows 1)) = aV ((bS (aI rows 1) (L.take (i' + 1).toNat)).map (aI rows 1)) := fun h => by
    have : bS (aI rows 1) (L.take (i' + 1).toNat) = A ++ x :: B := by
     rw [show (i' + 1).toNat = i'.toNat + 1 by omega, c5 hi, yV, hord, hxe, l7 hB h]
    rw [this]
    exact ⟨by omega, by omega, rfl, rfl⟩
   have hmu : L.length - (i' + 1).toNat < L.length - i'.toNat := by omega
   refine aF (fun h1 => ?_) (fun h1 => ?_)
   ·simp only [Bool.and_eq_true, decide_eq_true_eq, bne_iff_ne, ne_eq] at h1
    obtain ⟨A', z, rfl⟩ : ∃ A' z, A = A' ++ [z] := by
     rcases A.eq_nil_or_concat with rfl | ⟨D, z, rfl⟩
     ·simp at h1
     ·exact ⟨D, z, by simp⟩
    have lA : (A' ++ [z]).length = A'.length + 1 := by simp
    rw [lA] at hAB
    have hwk : i64.wrap ((((A' ++ [z]).length : Nat) : Int) - 1) = (A'.length : Nat) := by rw [lA, aD (by omega) (by omega)]; omega
    have e0 : (A' ++ [z]) ++ x :: B = A' ++ z :: (x :: B) := by simp
    rw [hwk, e0]
    simp only [List.map_append, List.map_cons, Int.toNat_natCast]
    rw [lA]
    generalize hk2 : aI rows 1 = key at *
    have i1 : aM (aA (A' ++ z :: x :: B)) ((A'.length : Nat) : Int) 1 := bK (enc := fun n => [PV.int .i32 n]) (fun _ => rfl) (by omega) (by simp; omega)
    have i2 : aM (aA (A' ++ z :: x :: B)) ((A'.length + 1 : Nat) : Int) 1 := bK (enc := fun n => [PV.int .i32 n]) (fun _ => rfl) (by omega) (by simp; omega)
    have j1 : aM (aV (A'.map key ++ key z :: key x :: B.map key)) ((A'.length : Nat) : Int) 1 := bK lT (by omega) (by simp; omega)
    have j2 : aM (aV (A'.map key ++ key z :: key x :: B.map key)) ((A'.length + 1 : Nat) : Int) 1 := bK lT (by omega) (by simp; omega)
    have i3 : aM (aA (A' ++ z :: z :: B)) ((A'.length : Nat) : Int) 1 := bK (enc := fun n => [PV.int .i32 n]) (fun _ => rfl) (by omega) (by simp; omega)
    have j3 : aM (aV (A'.map key ++ key z :: key z :: B.map key)) ((A'.length : Nat) : Int) 1 := bK lT (by omega) (by simp; omega)
    have gz := zC A' z (x :: B)
    have gx : (aA (A' ++ z :: x :: B)).getD (A'.length + 1) [] = [.int .i32 x] := by have := zC (A' ++ [z]) x B; simpa using this
    have hz : (aV (A'.map key ++ key z :: key x :: B.map key)).getD A'.length [] = [.int .i64 (key z)] := by have := zD (A'.map key) (key z) (key x :: B.map key); simpa using this
    have hx2 : (aV (A'.map key ++ key z :: key x :: B.map key)).getD (A'.length + 1) [] = [.int .i64 (key x)] := by have := zD (A'.map key ++ [key z]) (key x) (B.map key); simpa using this
    have gz2 := zC A' z (z :: B)
    have hz2 : (aV (A'.map key ++ key z :: key z :: B.map key)).getD A'.length [] = [.int .i64 (key z)] := by have := zD (A'.map key) (key z) (key z :: B.map key); simpa using this
    have s1 : (aA (A' ++ z :: x :: B)).set (A'.length + 1) [.int .i32 z] = aA (A' ++ z :: z :: B) := by
     have := p8 (A' ++ [z]) B x z
     have e : (aA (A' ++ z :: x :: B)).set (A'.length + 1) [.int .i32 z] = aA ((A' ++ z :: x :: B).set (A'.length + 1) z) := by simp [aA, List.map_set]
     rw [e]; simp at this ⊢
    have s2 : (aA (A' ++ z :: z :: B)).set A'.length [.int .i32 x] = aA (A' ++ x :: z :: B) := by simp [aA]
    have t1 : (aV (A'.map key ++ key z :: key x :: B.map key)).set (A'.length + 1) [.int .i64 (key z)] = aV (A'.map key ++ key z :: key z :: B.map key) := by simp [aV]
    have t2 : (aV (A'.map key ++ key z :: key z :: B.map key)).set A'.length [.int .i64 (key x)] = aV (A'.map key ++ key x :: key z :: B.map key) := by simp [aV]
    refine ⟨j1, key z, by rw [hz]; rfl, aF (fun h2 => ?_) (fun h2 => ?_)⟩
    ·simp only [decide_eq_true_eq] at h2
     refine ⟨i1, z, by rw [gz]; rfl, i2, ⟨trivial, by rw [gx]; exact Nat.le_refl _⟩, j1, key z, by rw [hz]; rfl, j2, ⟨trivial, by rw [hx2]; exact Nat.le_refl _⟩, g1, x, by rw [g2, hxe]; rfl, ?_⟩
     rw [set1 gx, set1 hx2, s1, t1, set1 gz2, set1 hz2, s2, t2]
     refine ⟨i3, ⟨trivial, by rw [gz2]; exact Nat.le_refl _⟩, j3, ⟨trivial, by rw [hz2]; exact Nat.le_refl _⟩, rfl, ⟨trivial, i0, hi, x, A', z :: B, hxi, rfl, rfl, by rw [hord]; simp, fun y hy => ?_, rfl, by simp⟩, by simp⟩
     rcases List.mem_cons.1 hy with rfl | hy
     ·exact nH.2 ⟨h1.2, h2⟩
     ·exact hB y hy
    ·simp only [decide_eq_true_eq] at h2
     rw [hwi]
     obtain ⟨d1, d2, d3, d4⟩ := done (.inr ⟨A', z, rfl, tK.2 (.inr (by omega))⟩)
     refine ⟨rfl, ⟨d1, d2, ?_, ?_⟩, hmu⟩
     ·rw [<- d3, e0]
     ·rw [<- d4]; simp
   ·have hA : A = [] ∨ aI rows 1 x = 0 := by
     simp only [Bool.and_eq_true, decide_eq_true_eq, bne_iff_ne, ne_eq, not_and, Decidable.not_not] at h1
     by_cases hA : A = []
     ·exact .inl hA
     ·exact .inr (h1 (by have := List.length_pos_iff.2 hA; omega))
    rw [hwi]
    refine ⟨rfl, done ?_, hmu⟩
    rcases hA with h | h
    ·exact .inl h
    ·rcases A.eq_nil_or_concat with rfl | ⟨D, z, rfl⟩
     ·exact .inl rfl
     ·exact .inr ⟨D, z, by simp, tK.2 (.inl h)⟩
 ·simp only [decide_eq_true_eq, bC] at hc
  rw [List.take_of_length_le (by omega)]
  exact ⟨_, _, rfl⟩
end
end Go.Eng



namespace Go.Eng
open Go Go.Proofs Go.Eng.Rows Go.Eng.Trie Go.Eng.Srt
theorem zgq : tab.length < 1000000 := by have := zm0; omega
theorem zgr (n f : Bool) : PCall Tryz.prog 17 [.sl n f (bD tab)] (eV tab) := zot n f tab zgq nJ
theorem R32.take {l : List Int} (h : R32 l) (k : Nat) : R32 (l.take k) := fun x hx => h x (List.mem_of_mem_take hx)
section
variable {rows : List Row} {v : PV}
theorem zqf {ts : List PV} {key : Int -> Int} (hT : ∀ r : Int, (-2147483648 <= r /\ r <= 2147483647) -> PCall Tryz.prog 80 [.ptr ts, .int .i32 r] fun v => v = .int .i64 (key r)) : iO (.ptr ts) key := by
 intro a b ha hb
 refine zk7 _ _ _ ?_; unfold zc2
 refine .inl ⟨ts, rfl, .inl ⟨ts, rfl, ?_⟩⟩
 refine (hT a ha).mono ?_
 rintro _ rfl
 refine ⟨_, rfl, ?_⟩
 refine (hT b hb).mono ?_
 rintro _ rfl
 refine ⟨_, rfl, ?_⟩
 refine (p61 _ _).mono ?_
 rintro _ rfl
 refine ⟨_, rfl, _, rfl, ?_⟩
 unfold cmpS; split <;> (try split) <;> omega
theorem zqg (hk : c6 rows) (hv : eV rows v) (n f : Bool) (L : List Int) (hr : R32 L) (hL : L.length < 1000000000000) : PCall Tryz.prog 121 [v, .sl n f (aA L)] fun x => ∃ n f, x = .sl n f (aA (bS (aI rows 1) L)) := by
 obtain ⟨tc, tg, tj, tf, tp, made, sec, rfl, ht, hm⟩ := hv
 have hT : ∀ r : Int, (-2147483648 <= r /\ r <= 2147483647) -> PCall Tryz.prog 80 [.ptr [tc, tg, tj, tf, tp, .mp (d8 made), .mp (gY sec)], .int .i32 r] fun v => v = .int .i64 (aI rows 1 r) := fun r hr => yH _ _ ht hr
 exact PCall.ofA (args := [_, _]) (zpv hk hT (zqf hT) L hr hL) fun r h' ⟨hr, hh⟩ => by subst hr; subst hh; exact ⟨_, rfl, _, _, rfl⟩
theorem zgs (hp : cK rows) {l : List Int} (h : R32 l) : R32 (l.flatMap (aO rows 8)) := fun x hx => by
 obtain ⟨r, hr, h2⟩ := List.mem_flatMap.1 hx
 rcases yL hp 8 r x h2 with rfl | h3
 ·exact h x hr
 ·omega
theorem tS (rows : List Row) (l : List Int) : (l.flatMap (aO rows 8)).length <= 768 * l.length := by
 induction l with
 | nil => simp
 | cons x l ih =>
   have := iM rows 8 x
   rw [List.flatMap_cons, List.length_append, List.length_cons]; omega
theorem zgt (rows : List Row) {l : List Int} {i : Nat} (hi : i < l.length) : (l.take (i + 1)).flatMap (aO rows 8) = (l.take i).flatMap (aO rows 8) ++ aO rows 8 l[i] := by
 rw [c5 hi, List.flatMap_append]; simp
theorem zgu (hp : cK rows) (hk : c6 rows) (hv : eV rows v) (n f : Bool) (L : List Int) (hr : R32 L) (hL : L.length < 1000000) : PCall Tryz.prog 78 [v, .sl n f (aA L)] fun x => ∃ n f, x = .sl n f (aA (bN rows L)) := by
 have hv' := hv
 obtain ⟨tc, tg, tj, tf, tp, made, sec, rfl, ht, hm⟩ := hv
 refine zpz _ _ _ _ _ _ _ _ _ _ (fun i h0 _ s => h0 = .ptr [tc, tg, tj, tf, tp, .mp (d8 made), .mp (gY sec)] /\ 0 <= i /\ i <= L.length /\ s = aA ((L.take i.toNat).flatMap (aO rows 8))) (fun i _ _ _ => L.length - i.toNat) ?_
 unfold zgl
 refine ⟨rfl, ⟨rfl, rfl, Int.le_refl _, by omega, rfl⟩, ?_⟩
 rintro i h0 n1 _ ⟨rfl, i0, i1, rfl⟩
 refine aF (fun hc => ?_) (fun hc => ?_)
 ·simp only [decide_eq_true_eq, bC] at hc
  have hi : i.toNat < L.length := by omega
  obtain ⟨g1, g2⟩ := kO i0 hi
  have hx := hr _ (List.getElem_mem hi)
  have hw : i64.wrap (i + 1) = i + 1 := aD (by omega) (by omega)
  have hfl := tS rows (L.take i.toNat)
  rw [List.length_take] at hfl
  refine ⟨g1, L[i.toNat], by rw [g2]; rfl, ?_⟩
  refine (zf5 _ _ hp ht 8 _ n1 _ (by omega) hx (by omega)).mono ?_
  rintro r h' ⟨nl, rfl, rfl⟩
  rw [hw]
  exact ⟨(nl, _), ⟨rfl, rfl⟩, ⟨trivial, trivial, trivial⟩, rfl, ⟨rfl, by omega, by omega, by rw [show (i + 1).toNat = i.toNat + 1 by omega, zgt rows hi]; rfl⟩, by dsimp only; omega⟩
 ·simp only [decide_eq_true_eq, bC] at hc
  rw [List.take_of_length_le (by omega)]
  have hfl := tS rows L
  refine (zqg hk hv' n1 false _ (zgs hp hr) (by omega)).mono ?_
  rintro _ ⟨n2, f2, rfl⟩
  exact ⟨_, _, _, rfl, _, _, rfl⟩
theorem zgv (hp : cK rows) (hk : c6 rows) (n f n2 f2 : Bool) (hrl : rows.length < 1000000) (L : List Int) (hr : R32 L) (hL : L.length < 1000000) : PCall Tryz.prog 32 [.sl n f (bD rows), .sl n2 f2 (aA L)] fun x => ∃ n f, x = .sl n f (aA (bN rows L)) := by
 refine zp0 _ _ _ _ _ _ (fun i _ s => 0 <= i /\ i <= L.length /\ s = aA ((L.take i.toNat).flatMap (aO rows 8))) (fun i _ _ => L.length - i.toNat) ?_
 unfold zgm
 refine ⟨⟨rfl, Int.le_refl _, by omega, rfl⟩, ?_⟩
 rintro i n1 _ ⟨i0, i1, rfl⟩
 refine aF (fun hc => ?_) (fun hc => ?_)
 ·simp only [decide_eq_true_eq, bC] at hc
  have hi : i.toNat < L.length := by omega
  obtain ⟨g1, g2⟩ := kO i0 hi
  have hx := hr _ (List.getElem_mem hi)
  have hw : i64.wrap (i + 1) = i + 1 := aD (by omega) (by omega)
  have hfl := tS rows (L.take i.toNat)
  rw [List.length_take] at hfl
  have hf1 := iM rows 8 L[i.toNat]
  have he : aA ((L.take i.toNat).flatMap (aO rows 8)) ++ aA (aO rows 8 L[i.toNat]) = aA ((L.take (i + 1).toNat).flatMap (aO rows 8)) := by
   rw [show (i + 1).toNat = i.toNat + 1 by omega, zgt rows hi, iN]
  refine ⟨g1, L[i.toNat], by rw [g2]; rfl, ?_⟩
  rw [hw]
  refine (zo0 hp n f hrl 8 _ (by omega) hx).mono ?_
  rintro r h' (⟨nl, rfl, rfl⟩ | ⟨rfl, rfl⟩)
  ·exact .inl ⟨(nl, _), ⟨rfl, rfl⟩, trivial, ⟨dC _, by simp only [bC, List.length_map]; omega⟩, rfl, ⟨by omega, by omega, he⟩, by dsimp only; omega⟩
  ·exact .inr ⟨_, ⟨rfl, rfl⟩, trivial, ⟨dC _, by rw [bC, bC]; omega⟩, rfl, ⟨by omega, by omega, he⟩, by dsimp only; omega⟩
 ·simp only [decide_eq_true_eq, bC] at hc
  rw [List.take_of_length_le (by omega)]
  have hfl := tS rows L
  refine (zqe hk n f n1 false _ hrl (by omega) (zgs hp hr)).mono ?_
  rintro _ ⟨n2, f2, rfl⟩
  exact ⟨_, _, _, rfl, _, _, rfl⟩
theorem zqh (hk : c6 rows) {l : List Int} (h : l.length < 1000000) : (bN rows l).length < 1000000000000 := by
 have := zgp hk l; omega
theorem zqi (hp : cK rows) (hk : c6 rows) (n f n1 f1 n2 f2 : Bool) (hrl : rows.length < 1000000) (a b : List Int) (ha : R32 a) (hb : R32 b) (la : a.length < 1000000) (lb : b.length < 1000000) :
 PCall Tryz.prog 65 [.sl n f (bD rows), .sl n1 f1 (aA a), .sl n2 f2 (aA b)] fun x => x = .bool (decide (bN rows a = bN rows b)) := by
 refine zp2 _ _ _ _ _ _ _ _ _ ?_; unfold zgn
 refine (zgv hp hk n f n1 f1 hrl a ha la).mono ?_
 rintro _ ⟨n3, f3, rfl⟩
 refine ⟨_, _, _, rfl, ?_⟩
 refine (zgv hp hk n f n2 f2 hrl b hb lb).mono ?_
 rintro _ ⟨n4, f4, rfl⟩
 refine ⟨_, _, _, rfl, ?_⟩
 refine (zqc _ _ _ _ _ _ (zqh hk la)).mono ?_
 rintro _ rfl
 exact ⟨_, rfl, rfl⟩
end
end Go.Eng



namespace Go.Eng.Rows
open Go Go.Eng Go.Eng.Trie Go.Eng.Srt
def nK (a b : Int) : Option Int :=
 if (4352 <= a /\ a < 4371) /\ 4449 <= b /\ b < 4470 then some (44032 + ((a - 4352) * 21 + (b - 4449)) * 28)
 else if (bW a = true /\ (a - 44032) % 28 = 0) /\ 4519 < b /\ b < 4547 then some (a + (b - 4519)) else none
def jO (rows : List Row) (a b : Int) (x : Row) : Bool := decide (x.kind = 2) && (decide (x.a = a) && (decide (x.b = b) && (!decide (b = 0) && !gD rows x.fr)))
def cmpS (rows : List Row) (a b : Int) (o : Option Int) (x : Row) : Option Int :=
 if jO rows a b x then (match o with | none => some x.fr | some r => if x.fr < r then some x.fr else some r) else o
def zF (rows : List Row) (a b : Int) : Option Int := rows.foldl (cmpS rows a b) none
def l9 (rows : List Row) (a b : Int) : Option Int := match nK a b with | some r => some r | none => zF rows a b
theorem zqj (rows : List Row) (a b : Int) (l : List Row) : match l.foldl (cmpS rows a b) none with
 | none => ∀ x ∈ l, jO rows a b x = false
 | some r => (∃ x ∈ l, jO rows a b x = true /\ x.fr = r) /\ ∀ x ∈ l, jO rows a b x = true -> r <= x.fr := by
 have : ∀ (m : List Row), match m.reverse.foldl (cmpS rows a b) none with
  | none => ∀ x ∈ m, jO rows a b x = false
  | some r => (∃ x ∈ m, jO rows a b x = true /\ x.fr = r) /\ ∀ x ∈ m, jO rows a b x = true -> r <= x.fr := by
  intro m
  induction m with
  | nil => intro x hx; cases hx
  | cons y m ih =>
    rw [List.reverse_cons, List.foldl_append, List.foldl_cons, List.foldl_nil]
    generalize m.reverse.foldl (cmpS rows a b) none = o at ih
    unfold cmpS
    cases hc : jO rows a b y with
    | false =>
      simp only [Bool.false_eq_true, if_false]
      cases o with
      | none => intro x hx; rcases List.mem_cons.1 hx with rfl | hx; exact hc; exact ih x hx
      | some r =>
        obtain ⟨⟨x, h1, h2⟩, h3⟩ := ih
        exact ⟨⟨x, List.mem_cons_of_mem _ h1, h2⟩, fun z hz hz2 => by rcases List.mem_cons.1 hz with rfl | hz; rw [hc] at hz2; cases hz2; exact h3 z hz hz2⟩
    | true =>
      simp only [if_true]
      cases o with
      | none =>
        refine ⟨⟨y, List.mem_cons_self, hc, rfl⟩, fun z hz hz2 => ?_⟩
        rcases List.mem_cons.1 hz with rfl | hz
        ·exact Int.le_refl _
        ·have := ih z hz; rw [this] at hz2; cases hz2
      | some r =>
        obtain ⟨⟨x, h1, h2, h4⟩, h3⟩ := ih
        by_cases hlt : y.fr < r
        ·simp only [hlt, if_true]
         refine ⟨⟨y, List.mem_cons_self, hc, rfl⟩, fun z hz hz2 => ?_⟩
         rcases List.mem_cons.1 hz with rfl | hz
         ·exact Int.le_refl _
         ·have := h3 z hz hz2; omega
        ·simp only [hlt, if_false]
         refine ⟨⟨x, List.mem_cons_of_mem _ h1, h2, h4⟩, fun z hz hz2 => ?_⟩
         rcases List.mem_cons.1 hz with rfl | hz
         ·omega
         ·exact h3 z hz hz2
 have h := this l.reverse
 rw [List.reverse_reverse] at h
 generalize l.foldl (cmpS rows a b) none = o at h ⊢
 cases o with
 | none => intro x hx; exact h x (List.mem_reverse.2 hx)
 | some r => exact ⟨by obtain ⟨⟨x, h1, h2⟩, _⟩ := h; exact ⟨x, List.mem_reverse.1 h1, h2⟩, fun x hx => h.2 x (List.mem_reverse.2 hx)⟩
theorem zgw {rows : List Row} (h1 : tE rows) {x : Row} (hx : x ∈ rows) (hk : x.kind = 2) : aG rows x.fr = (x.a, x.b) /\ 0 <= x.fr /\ x.fr <= 1114111 := by
 obtain ⟨e1, e2, e3⟩ := h1 x hx hk
 have hf : bV rows 2 x.fr = some (x.a, x.b) := by unfold bV; rw [if_pos e2]; exact e3
 exact ⟨by unfold aG; rw [hf], e2⟩
theorem zqk {rows : List Row} (h1 : tE rows) {r : Int} (h : aG rows r ≠ (0, 0)) : ∃ x ∈ rows, x.kind = 2 /\ x.fr = r /\ aG rows r = (x.a, x.b) := by
 cases hf : bV rows 2 r with
 | none => exact absurd (by unfold aG; rw [hf]) h
 | some p =>
   obtain ⟨y, hy, hk, f1, f2⟩ := zp8 hf
   obtain ⟨e1, _⟩ := h1 y hy hk
   have hr : y.fr = r := by omega
   have := (zgw h1 hy hk).1
   rw [hr] at this
   exact ⟨y, hy, hk, hr, this⟩
theorem zql {rows : List Row} (h1 : tE rows) {a b r : Int} (h : zF rows a b = some r) : aG rows r = (a, b) /\ b ≠ 0 /\ gD rows r = false /\ (0 <= r /\ r <= 1114111) /\ ∃ x ∈ rows, x.kind = 2 /\ x.fr = r := by
 have := zqj rows a b rows
 unfold zF at h
 rw [h] at this
 obtain ⟨⟨x, hx, hc, rfl⟩, _⟩ := this
 simp only [jO, Bool.and_eq_true, decide_eq_true_eq, Bool.not_eq_true', decide_eq_false_iff_not] at hc
 obtain ⟨hk, ha, hb, h0, ho⟩ := hc
 obtain ⟨hp, hr⟩ := zgw h1 hx hk
 exact ⟨by rw [hp, ha, hb], h0, ho, hr, x, hx, hk, rfl⟩
theorem zqm {a b r : Int} (h : nK a b = some r) : bW r = true := by
 unfold nK at h
 split at h
 ·rename_i hc; cases h; simp only [bW, Bool.and_eq_true, decide_eq_true_eq]; omega
 ·split at h
  ·rename_i hc; cases h; simp only [bW, Bool.and_eq_true, decide_eq_true_eq] at hc ⊢; omega
  ·cases h
structure CSt where
 P : List Int
 s : Option Int
 M : List Int
def eL (key : Int -> Int) (M : List Int) : Int := match M.getLast? with | some m => key m | none => 0
def CSt.out (st : CSt) : List Int := st.P ++ (st.s.toList ++ st.M)
def c8 (key : Int -> Int) (st : CSt) (r : Int) : CSt := if key r = 0 then ⟨st.out, some r, []⟩ else ⟨st.P, st.s, st.M ++ [r]⟩
def dG (rows : List Row) (st : CSt) (r : Int) : CSt := match st.s with
 | none => c8 (aI rows 1) st r
 | some a => if st.M = [] ∨ eL (aI rows 1) st.M < aI rows 1 r then (match l9 rows a r with
   | some c => ⟨st.P, some c, st.M⟩
   | none => c8 (aI rows 1) st r) else c8 (aI rows 1) st r
def bZ (rows : List Row) (l : List Int) : CSt := l.foldl (dG rows) ⟨[], none, []⟩
def qF (rows : List Row) (l : List Int) : List Int := (bZ rows l).out
theorem jP (rows : List Row) (l : List Int) (r : Int) : bZ rows (l ++ [r]) = dG rows (bZ rows l) r := by simp [bZ]
theorem qG (key : Int -> Int) (st : CSt) (r : Int) : (c8 key st r).out = st.out ++ [r] := by
 unfold c8; split <;> simp [CSt.out]
theorem zqn (rows : List Row) (st : CSt) (r : Int) : dG rows st r = c8 (aI rows 1) st r ∨ ∃ a c, st.s = some a /\ l9 rows a r = some c /\ (st.M = [] ∨ eL (aI rows 1) st.M < aI rows 1 r) /\ dG rows st r = ⟨st.P, some c, st.M⟩ := by
 unfold dG
 split
 ·exact .inl rfl
 ·rename_i a ha
  split
  ·rename_i hf
   cases hc : l9 rows a r with
   | none => exact .inl rfl
   | some c => exact .inr ⟨a, c, ha, hc, hf, rfl⟩
  ·exact .inl rfl
structure TabC (rows : List Row) : Prop where
 one : tE rows
 closed : zp7 rows
 cls : c6 rows
 syl : ∀ x ∈ rows, x.kind = 2 -> bW x.fr = false
 deep : ∀ x ∈ rows, x.kind = 2 -> aO rows 7 x.fr = aO rows 8 x.fr
theorem TabC.full7 {rows : List Row} (h : TabC rows) (r : Int) : aO rows 7 r = aO rows 8 r := by
 by_cases hs : bW r = true
 ·rw [gZ hs, gZ hs]
 ·simp only [Bool.not_eq_true] at hs
  by_cases h0 : aG rows r = (0, 0)
  ·rw [nE hs h0, nE hs h0]
  ·obtain ⟨x, hx, hk, rfl, _⟩ := zqk h.one h0
   exact h.deep x hx hk
theorem TabC.join {rows : List Row} (h : TabC rows) {a b c : Int} (ha : c7 rows a = true ∨ bW a = true) (hj : nK a b = some c) : aO rows 8 c = aO rows 8 a ++ [b] := by
 rw [gZ (zqm hj)]
 unfold nK at hj
 split at hj
 ·rename_i hc
  cases hj
  have hr : c7 rows a = true := by
   rcases ha with ha | ha
   ·exact ha
   ·simp only [bW, Bool.and_eq_true, decide_eq_true_eq] at ha; omega
  rw [tR hr]
  unfold dN
  rw [if_pos (by omega)]
  simp only [List.cons_append, List.nil_append, List.cons.injEq, and_true]
  omega
 ·split at hj
  ·rename_i hc
   cases hj
   obtain ⟨⟨hs, h0⟩, h1, h2⟩ := hc
   rw [gZ hs]
   simp only [bW, Bool.and_eq_true, decide_eq_true_eq] at hs
   unfold dN
   rw [if_neg (by omega), if_pos h0]
   simp only [List.cons_append, List.nil_append, List.cons.injEq, and_true]
   omega
  ·cases hj
theorem TabC.lead {rows : List Row} (h : TabC rows) {a : Int} (ha : 4352 <= a /\ a < 4371) : c7 rows a = true := by
 have hx := h.closed (44032 + (a - 4352) * 588) a
 refine hx ?_
 have hs : bW (44032 + (a - 4352) * 588) = true := by simp only [bW, Bool.and_eq_true, decide_eq_true_eq]; omega
 rw [gZ hs]
 unfold dN
 rw [if_pos (by omega), show 4352 + (44032 + (a - 4352) * 588 - 44032) / 588 = a by omega]
 exact List.mem_cons_self
theorem TabC.pair {rows : List Row} (h : TabC rows) {a b c : Int} (hb : c7 rows b = true) (hc : l9 rows a b = some c) : aO rows 8 c = aO rows 8 a ++ [b] := by
 unfold l9 at hc
 split at hc
 ·rename_i s hj
  cases hc
  refine h.join ?_ hj
  unfold nK at hj
  split at hj
  ·rename_i hq; exact .inl (h.lead hq.1)
  ·split at hj
   ·rename_i hq; exact .inr hq.1.1
   ·cases hj
 ·obtain ⟨hp, h0, _, _, x, hx, hk, rfl⟩ := zql h.one hc
  have hs := h.syl x hx hk
  have hn : aG rows x.fr ≠ (0, 0) := by rw [hp]; intro e; cases e; exact h0 rfl
  rw [show (8 : Nat) = 7 + 1 from rfl]
  rw [aO, if_neg (by rw [hs]; simp), if_neg hn, hp]
  simp only
  rw [if_neg h0, h.full7, tR hb]
theorem zgx (key : Int -> Int) (M : List Int) (r : Int) : eL key (M ++ [r]) = key r := by simp [eL]
structure InvC (rows : List Row) (st : CSt) (p : List Int) : Prop where
 e : Eqv (aI rows 1) (st.out.flatMap (aO rows 8)) p
 m : ∀ m ∈ st.M, aI rows 1 m ≠ 0 /\ c7 rows m = true /\ aI rows 1 m <= eL (aI rows 1) st.M
 q : st.M ≠ [] -> ∃ p' q, p = p' ++ [q] /\ eL (aI rows 1) st.M <= aI rows 1 q
theorem InvC.app {rows : List Row} {st : CSt} {p : List Int} (h : InvC rows st p) {r : Int} (hr : c7 rows r = true) (hc : bY (aI rows 1) (p ++ [r])) : InvC rows (c8 (aI rows 1) st r) (p ++ [r]) := by
 have he : Eqv (aI rows 1) ((c8 (aI rows 1) st r).out.flatMap (aO rows 8)) (p ++ [r]) := by
  rw [qG, List.flatMap_append, List.flatMap_singleton, tR hr]
  simpa using h.e.app [] [r]
 refine ⟨he, ?_, ?_⟩
 ·unfold c8
  split
  ·intro m hm; cases hm
  ·rename_i h0
   intro m hm
   simp only at hm ⊢
   rw [zgx]
   rcases List.mem_append.1 hm with hm | hm
   ·obtain ⟨k1, k2, k3⟩ := h.m m hm
    refine ⟨k1, k2, ?_⟩
    obtain ⟨p', q, rfl, hq⟩ := h.q (List.ne_nil_of_mem hm)
    have := (l8.1 hc).2.2 q r (by simp) rfl h0
    omega
   ·rw [List.mem_singleton] at hm; subst hm; exact ⟨h0, hr, Int.le_refl _⟩
 ·unfold c8
  split
  ·intro hn; exact absurd rfl hn
  ·intro _; exact ⟨p, r, rfl, by simp only; rw [zgx]; exact Int.le_refl _⟩
theorem InvC.step {rows : List Row} (ht : TabC rows) {st : CSt} {p : List Int} (h : InvC rows st p) {r : Int} (hr : c7 rows r = true) (hc : bY (aI rows 1) (p ++ [r])) : InvC rows (dG rows st r) (p ++ [r]) := by
 rcases zqn rows st r with e | ⟨a, c, hs, hpc, hf, e⟩
 ·rw [e]; exact h.app hr hc
 ·rw [e]
  have hM : st.M.flatMap (aO rows 8) = st.M := zgo fun m hm => (h.m m hm).2.1
  have he := h.e
  simp only [CSt.out, hs, Option.toList, List.flatMap_append, List.flatMap_singleton, hM] at he
  have hlt : st.M ≠ [] -> eL (aI rows 1) st.M < aI rows 1 r := fun hn => hf.elim (fun e => absurd e hn) id
  refine ⟨?_, h.m, fun hn => ⟨p, r, rfl, Int.le_of_lt (hlt hn)⟩⟩
  simp only [CSt.out, Option.toList, List.flatMap_append, List.flatMap_singleton, hM, ht.pair hr hpc]
  refine Eqv.trans ?_ (by simpa using he.app [] [r])
  by_cases hn : st.M = []
  ·rw [hn]; simp; exact .refl _
  ·have h3 : eL (aI rows 1) st.M < aI rows 1 r := hlt hn
   have hr0 : aI rows 1 r ≠ 0 := by
    intro e0
    obtain ⟨m, hm⟩ := List.exists_mem_of_ne_nil _ hn
    obtain ⟨k1, _, k3⟩ := h.m m hm
    have := ht.cls m; omega
   have := (Eqv.ahead (key := aI rows 1) hr0 (B := st.M) [] fun m hm => ⟨(h.m m hm).1, by have := (h.m m hm).2.2; omega⟩).symm.app (st.P.flatMap (aO rows 8) ++ aO rows 8 a) []
   simpa using this
theorem zqo {rows : List Row} (ht : TabC rows) {l : List Int} (hr : ∀ x ∈ l, c7 rows x = true) (hc : bY (aI rows 1) l) : InvC rows (bZ rows l) l := by
 revert hr hc
 induction l using kR with
 | h0 => intro _ _; exact ⟨.refl _, (fun m hm => by cases hm), fun hn => absurd rfl hn⟩
 | h1 l r ih =>
   intro hr hc
   rw [jP]
   exact (ih (fun x hx => hr x (by simp [hx])) (l8.1 hc).1).step ht (hr r (by simp)) hc
end Go.Eng.Rows



namespace Go.Eng
open Go Go.Proofs Go.Eng.Rows Go.Eng.Trie
end Go.Eng



namespace Go.Eng.Rows
open Go Go.Eng Go.Eng.Trie Go.Eng.Srt
def Comp (rows : List Row) (s : List Int) : Prop := ∃ d, (∀ x ∈ d, c7 rows x = true) /\ bY (aI rows 1) d /\ qF rows d = s
section
variable {rows : List Row}
def iR (rows : List Row) (s : Option Int) (M : List Int) (r : Int) : Option Int := match s with
 | none => none
 | some a => if M = [] ∨ eL (aI rows 1) M < aI rows 1 r then l9 rows a r else none
theorem jQ (st : CSt) (r : Int) : dG rows st r = match iR rows st.s st.M r with | some c => ⟨st.P, some c, st.M⟩ | none => c8 (aI rows 1) st r := by
 unfold dG iR
 cases st.s with
 | none => rfl
 | some a =>
   simp only
   split
   ·rfl
   ·rfl
theorem zG {s : Option Int} {M : List Int} {r c : Int} (h : iR rows s M r = some c) : ∃ a, s = some a /\ l9 rows a r = some c /\ (M = [] ∨ eL (aI rows 1) M < aI rows 1 r) := by
 unfold iR at h
 cases s with
 | none => cases h
 | some a =>
   simp only at h
   split at h
   ·rename_i hf; exact ⟨a, rfl, h, hf⟩
   ·cases h
theorem jR {d : List Int} {x : Int} : bY (aI rows 1) (d ++ [x]) ↔ bY (aI rows 1) d /\ (∀ z, d.getLast? = some z -> aI rows 1 x ≠ 0 -> aI rows 1 z <= aI rows 1 x) := by
 rw [l8]
 constructor
 ·rintro ⟨h1, _, h3⟩; exact ⟨h1, fun z hz hx => h3 z x hz rfl hx⟩
 ·rintro ⟨h1, h3⟩; exact ⟨h1, trivial, fun z x' hz hx' h0 => by simp at hx'; subst hx'; exact h3 z hz h0⟩
theorem zH {d : List Int} {r x : Int} (h : bY (aI rows 1) (d ++ [r] ++ [x])) (hx : aI rows 1 x ≠ 0) : aI rows 1 r <= aI rows 1 x := (jR.1 h).2 r (by simp) hx
def Wit (rows : List Row) (d : List Int) (st : CSt) : Prop := ∃ e, (∀ x ∈ e, c7 rows x = true) /\ bZ rows e = st /\ (st.out = [] -> e = []) /\ bY (aI rows 1) e /\ ∀ x, bY (aI rows 1) (d ++ [x]) -> bY (aI rows 1) (e ++ [x])
theorem Wit.snoc {d : List Int} {st : CSt} (h : Wit rows d st) {r : Int} (hr : c7 rows r = true) (hc : bY (aI rows 1) (d ++ [r])) (hn : (dG rows st r).out ≠ []) : Wit rows (d ++ [r]) (dG rows st r) := by
 obtain ⟨e, h1, h2, h3, h4, h5⟩ := h
 refine ⟨e ++ [r], fun x hx => ?_, by rw [jP, h2], fun hq => absurd hq hn, h5 r hc, fun x hx => ?_⟩
 ·rcases List.mem_append.1 hx with hx | hx
  ·exact h1 x hx
  ·rw [List.mem_singleton] at hx; subst hx; exact hr
 ·exact jR.2 ⟨h5 r hc, fun z hz h0 => by simp at hz; subst hz; exact zH hx h0⟩
theorem zgy {key : Int -> Int} {M : List Int} (h : M ≠ []) : ∃ m ∈ M, eL key M = key m := by
 rcases M.eq_nil_or_concat with rfl | ⟨D, z, rfl⟩
 ·exact absurd rfl h
 ·exact ⟨z, by simp, by simp [eL]⟩
theorem zgz {d : List Int} (h : (bZ rows d).out = []) : d = [] := by
 revert h
 induction d using kR with
 | h0 => exact fun _ => rfl
 | h1 d r ih =>
   rw [jP, jQ]
   intro h
   split at h
   ·simp [CSt.out] at h
   ·rw [qG] at h; simp at h
theorem zI {d : List Int} (h : (bZ rows d).s = none) : (bZ rows d).P = [] := by
 revert h
 induction d using kR with
 | h0 => exact fun _ => rfl
 | h1 d r ih =>
   rw [jP, jQ]
   split
   ·intro h; cases h
   ·unfold c8
    split
    ·intro h; cases h
    ·exact ih
theorem zqp (ht : TabC rows) {d : List Int} (hr : ∀ x ∈ d, c7 rows x = true) (hc : bY (aI rows 1) d) (hn : (bZ rows d).M ≠ []) :
 Wit rows d ⟨(bZ rows d).P, (bZ rows d).s, (bZ rows d).M.dropLast⟩ := by
 revert hr hc hn
 induction d using kR with
 | h0 => intro _ _ hn; exact absurd rfl hn
 | h1 d r ih =>
   intro hr hc
   have hr1 : ∀ x ∈ d, c7 rows x = true := fun x hx => hr x (by simp [hx])
   have hc1 := (jR.1 hc).1
   have hinv := zqo ht hr1 hc1
   have hrr := hr r (by simp)
   rw [jP]
   have ih := ih hr1 hc1
   have hon := zgz (rows := rows) (d := d)
   generalize hsd : bZ rows d = st at *
   rw [jQ]
   cases hd : iR rows st.s st.M r with
   | none =>
     simp only
     unfold c8
     split
     ·intro hn; exact absurd rfl hn
     ·rename_i h0
      intro _
      simp only [List.dropLast_concat]
      refine ⟨d, hr1, hsd, fun h => hon h, hc1, fun x hx => jR.2 ⟨hc1, fun z hz hx0 => ?_⟩⟩
      have := (jR.1 hc).2 z hz h0
      have := zH hx hx0
      omega
   | some c =>
     simp only
     intro hn
     obtain ⟨a, hs, hp, hf⟩ := zG hd
     have hlt := hf.elim (fun e => absurd e hn) id
     have hw := (ih hn).snoc hrr hc
     have he : dG rows ⟨st.P, st.s, st.M.dropLast⟩ r = ⟨st.P, some c, st.M.dropLast⟩ := by
      rw [jQ]
      have : iR rows st.s st.M.dropLast r = some c := by
       unfold iR
       rw [hs]
       simp only
       rw [if_pos, hp]
       by_cases hdl : st.M.dropLast = []
       ·exact .inl hdl
       ·obtain ⟨m, hm, e⟩ := zgy (key := aI rows 1) hdl
        have := (hinv.m m (List.dropLast_subset _ hm)).2.2
        exact .inr (by omega)
      simp only [this]
     rw [he] at hw
     exact hw (by simp [CSt.out])
def d9 (st : CSt) : CSt := match st.s, st.P with
 | none, P => ⟨P, none, st.M.tail⟩
 | some _, [] => ⟨[], none, st.M⟩
 | some c, _ :: P => ⟨P, some c, st.M⟩
theorem zqq {st : CSt} (h : st.s = none -> st.P = []) : (d9 st).out = st.out.tail := by
 obtain ⟨P, s, M⟩ := st
 cases s with
 | none =>
   have hp : P = [] := h rfl
   subst hp
   simp [d9, CSt.out]
 | some c => cases P <;> simp [d9, CSt.out]
theorem zqr (hk : c6 rows) (M : List Int) : 0 <= eL (aI rows 1) M := by
 by_cases h : M = []
 ·subst h; exact Int.le_refl _
 ·obtain ⟨m, _, e⟩ := zgy (key := aI rows 1) h
  rw [e]; exact hk m
theorem zqs (ht : TabC rows) {d : List Int} (hr : ∀ x ∈ d, c7 rows x = true) (hc : bY (aI rows 1) d) (hn : d ≠ []) : Wit rows d (d9 (bZ rows d)) := by
 revert hr hc hn
 induction d using kR with
 | h0 => intro _ _ hn; exact absurd rfl hn
 | h1 d r ih =>
   intro hr hc _
   have hr1 : ∀ x ∈ d, c7 rows x = true := fun x hx => hr x (by simp [hx])
   have hc1 := (jR.1 hc).1
   have hrr := hr r (by simp)
   by_cases hd0 : d = []
   ·subst hd0
    refine ⟨[], fun x hx => (by cases hx), ?_, fun _ => rfl, trivial, fun x _ => trivial⟩
    rw [jP]
    show _ = d9 (c8 (aI rows 1) ⟨[], none, []⟩ r)
    unfold c8
    split <;> rfl
   ·have ih := ih hr1 hc1 hd0
    have hP := zI (rows := rows) (d := d)
    have hon : (bZ rows d).out ≠ [] := fun h => hd0 (zgz h)
    rw [jP]
    generalize bZ rows d = st at *
    have key : (d9 (dG rows st r) = dG rows (d9 st) r /\ (dG rows (d9 st) r).out ≠ []) -> Wit rows (d ++ [r]) (d9 (dG rows st r)) := fun ⟨h1, h2⟩ => by
     rw [h1]; exact ih.snoc hrr hc h2
    obtain ⟨P, s, M⟩ := st
    cases s with
    | none =>
      obtain rfl : P = [] := hP rfl
      cases M with
      | nil => exact absurd rfl hon
      | cons m M =>
        refine key ?_
        have e1 : dG rows ⟨[], none, m :: M⟩ r = c8 (aI rows 1) ⟨[], none, m :: M⟩ r := rfl
        have e2 : dG rows (d9 ⟨[], none, m :: M⟩) r = c8 (aI rows 1) ⟨[], none, M⟩ r := rfl
        rw [e1, e2, qG]
        refine ⟨?_, by simp⟩
        unfold c8
        split <;> simp [d9, CSt.out]
    | some c =>
      cases P with
      | cons p P =>
        refine key ?_
        have e2 : d9 ⟨p :: P, some c, M⟩ = ⟨P, some c, M⟩ := rfl
        rw [e2, jQ, jQ]
        simp only
        cases iR rows (some c) M r with
        | none => simp only; rw [qG]; refine ⟨?_, by simp⟩; unfold c8; split <;> simp [d9, CSt.out]
        | some c' => exact ⟨rfl, by simp [CSt.out]⟩
      | nil =>
        have e2 : d9 ⟨[], some c, M⟩ = ⟨[], none, M⟩ := rfl
        have e3 : dG rows ⟨[], none, M⟩ r = c8 (aI rows 1) ⟨[], none, M⟩ r := rfl
        cases hdec : iR rows (some c) M r with
        | none =>
          refine key ?_
          rw [e2, e3, jQ]
          simp only [hdec]
          rw [qG]
          refine ⟨?_, by simp⟩
          unfold c8
          split <;> simp [d9, CSt.out]
        | some c' =>
          obtain ⟨a, _, hp, hf⟩ := zG hdec
          have e4 : d9 (dG rows ⟨[], some c, M⟩ r) = ⟨[], none, M⟩ := by
           rw [jQ]; simp only [hdec]; rfl
          rw [e4]
          rw [e2] at ih
          obtain ⟨e, h1, h2, h3, h4, h5⟩ := ih
          refine ⟨e, h1, h2, h3, h4, fun x hx => jR.2 ⟨h4, fun z hz hx0 => ?_⟩⟩
          by_cases h0 : aI rows 1 r = 0
          ·have hl := zqr ht.cls M
           have hM : M = [] := hf.elim id fun h => by omega
           subst hM
           have := h3 rfl
           subst this
           simp at hz
          ·have k1 := (jR.1 (h5 r hc)).2 z hz h0
           have k2 := zH hx hx0
           omega
theorem zqt {d : List Int} (hr : ∀ x ∈ d, c7 rows x = true) (hc : bY (aI rows 1) d) (hn : (bZ rows d).s ≠ none) : ∃ e, (∀ x ∈ e, c7 rows x = true) /\ bY (aI rows 1) e /\ (bZ rows e).out = (bZ rows d).P := by
 revert hr hc hn
 induction d using kR with
 | h0 => intro _ _ hn; exact absurd rfl hn
 | h1 d r ih =>
   intro hr hc
   have hr1 : ∀ x ∈ d, c7 rows x = true := fun x hx => hr x (by simp [hx])
   have hc1 := (jR.1 hc).1
   have ih := ih hr1 hc1
   rw [jP, jQ]
   cases hd : iR rows (bZ rows d).s (bZ rows d).M r with
   | none =>
     simp only
     unfold c8
     split
     ·intro _; exact ⟨d, hr1, hc1, rfl⟩
     ·exact ih
   | some c =>
     obtain ⟨a, hs, _⟩ := zG hd
     intro _
     exact ih (by rw [hs]; simp)
theorem Comp.nil : Comp rows [] := ⟨[], fun x hx => (by cases hx), trivial, rfl⟩
theorem Comp.tail (ht : TabC rows) {s : List Int} (h : Comp rows s) : Comp rows s.tail := by
 obtain ⟨d, h1, h2, rfl⟩ := h
 by_cases hd : d = []
 ·subst hd; exact .nil
 ·obtain ⟨e, k1, k2, _, k4, _⟩ := zqs ht h1 h2 hd
  exact ⟨e, k1, k4, by unfold qF; rw [k2, zqq zI]⟩
theorem Comp.dropLast (ht : TabC rows) {s : List Int} (h : Comp rows s) : Comp rows s.dropLast := by
 obtain ⟨d, h1, h2, rfl⟩ := h
 unfold qF
 by_cases hM : (bZ rows d).M = []
 ·cases hs : (bZ rows d).s with
  | none =>
    have : (bZ rows d).out = [] := by simp [CSt.out, zI hs, hs, hM]
    rw [this]; exact .nil
  | some c =>
    obtain ⟨e, k1, k2, k3⟩ := zqt h1 h2 (by rw [hs]; simp)
    refine ⟨e, k1, k2, ?_⟩
    unfold qF
    rw [k3]
    simp [CSt.out, hs, hM]
 ·obtain ⟨e, k1, k2, _, k4, _⟩ := zqp ht h1 h2 hM
  refine ⟨e, k1, k4, ?_⟩
  unfold qF
  rw [k2]
  simp only [CSt.out]
  rw [List.dropLast_append_of_ne_nil (by simp [hM]), List.dropLast_append_of_ne_nil hM]
theorem Comp.drop (ht : TabC rows) {s : List Int} (h : Comp rows s) : ∀ k, Comp rows (s.drop k)
 | 0 => h
 | k + 1 => by
   have := (Comp.drop ht h k).tail ht
   rwa [List.tail_drop] at this
theorem Comp.take (ht : TabC rows) {s : List Int} (h : Comp rows s) (k : Nat) : Comp rows (s.take k) := by
 have : ∀ n, Comp rows (s.take (s.length - n)) := by
  intro n
  induction n with
  | zero => rw [Nat.sub_zero, List.take_length]; exact h
  | succ n ih =>
    have := ih.dropLast ht
    rw [List.dropLast_eq_take, List.take_take, List.length_take] at this
    rwa [show min (min (s.length - n) s.length - 1) (s.length - n) = s.length - (n + 1) by omega] at this
 by_cases hk : k <= s.length
 ·have := this (s.length - k)
  rwa [show s.length - (s.length - k) = k by omega] at this
 ·rw [List.take_of_length_le (by omega)]; exact h
end
end Go.Eng.Rows



namespace Go.Eng
open Go Go.Proofs
end Go.Eng



namespace Go.Eng
open Go Go.Proofs Go.Eng.Rows Go.Eng.Trie Go.Eng.Srt
section
variable {rows : List Row} {v : PV}
def zg0 (st : CSt) : Int := match st.s with | none => -1 | some _ => st.P.length
def JC (rows : List Row) (L : List Int) (x6 x7 i : Int) (s : List (List PV)) : Prop := (0 <= i /\ i <= L.length) /\ s = aA (bZ rows (L.take i.toNat)).out /\ x6 = zg0 (bZ rows (L.take i.toNat)) /\ x7 = eL (aI rows 1) (bZ rows (L.take i.toNat)).M
theorem JC.next {L : List Int} {i : Int} (h0 : 0 <= i) (hi : i.toNat < L.length) {st : CSt} (he : dG rows (bZ rows (L.take i.toNat)) L[i.toNat] = st) : JC rows L (zg0 st) (eL (aI rows 1) st.M) (i + 1) (aA st.out) := by
 have e : bZ rows (L.take (i + 1).toNat) = st := by
  rw [show (i + 1).toNat = i.toNat + 1 by omega, c5 hi, jP, he]
 exact ⟨⟨by omega, by omega⟩, by rw [e], by rw [e], by rw [e]⟩
end
end Go.Eng



namespace Go.Eng
open Go Go.Proofs Go.Eng.Rows Go.Eng.Trie Go.Eng.Srt
theorem v22 : Tryz.prog.underlying 23 = some (.slice 21) := by kernel_rfl
theorem v21 : Tryz.prog.underlying 21 = some (.int .i32) := by kernel_rfl
end Go.Eng



namespace Go.Eng.Rows
open Go Go.Eng Go.Eng.Trie Go.Eng.Srt
def eP (L : List Int) (a b : Nat) : List Int := (L.take b).drop a
def eA (rows : List Row) (L want : List Int) (a b : Nat) : Bool := decide (bN rows (eP L a b) = want)
def jS (p : Nat -> Bool) (b : Nat) : Nat -> Option Nat
 | 0 => none
 | k + 1 => if p b then some b else jS p (b + 1) k
def fL (rows : List Row) (L want : List Int) (a : Nat) : Nat -> Option (Nat × Nat)
 | 0 => none
 | k + 1 => match jS (eA rows L want a) a (L.length + 1 - a) with
   | some b => some (a, b)
   | none => fL rows L want (a + 1) k
def findL (rows : List Row) (L want : List Int) : Option (Nat × Nat) := fL rows L want 0 (L.length + 1)
theorem zg1 {p : Nat -> Bool} : ∀ {k b : Nat}, (∀ j, j < k -> p (b + j) = false) -> jS p b k = none
 | 0, b, _ => rfl
 | k + 1, b, h => by
   rw [jS, if_neg (by have := h 0 (by omega); rw [Nat.add_zero] at this; rw [this]; simp)]
   exact zg1 fun j hj => by have := h (j + 1) (by omega); rwa [show b + (j + 1) = b + 1 + j by omega] at this
theorem zg2 {L : List Int} {i : Nat} (h : i < L.length) : L.take (i + 1) = L.take i ++ [L[i]] := by
 rw [List.take_add_one, List.getElem?_eq_getElem h]; rfl
theorem zqu {L : List Int} {a b : Nat} (h : a <= b) (hb : b < L.length) : eP L a (b + 1) = eP L a b ++ [L[b]] := by
 unfold eP
 rw [zg2 hb, List.drop_append_of_le_length (by rw [List.length_take]; omega)]
theorem zJ (L : List Int) (a : Nat) : eP L a a = [] := by
 unfold eP; exact List.drop_eq_nil_of_le (by rw [List.length_take]; omega)
def dO (rows : List Row) (L : List Int) (a b : Nat) : Nat := ((eP L a b).flatMap (aO rows 8)).length
theorem zg3 (rows : List Row) {L : List Int} {a b : Nat} (h : a <= b) (hb : b < L.length) : dO rows L a (b + 1) = dO rows L a b + (aO rows 8 L[b]).length := by
 unfold dO; rw [zqu h hb]; simp
theorem zg4 (rows : List Row) {L : List Int} {a b : Nat} (h : a <= b) : ∀ {k : Nat}, b + k <= L.length -> dO rows L a b <= dO rows L a (b + k)
 | 0, _ => Nat.le_refl _
 | k + 1, hk => by
   have := zg4 rows (L := L) h (k := k) (by omega)
   have h2 := zg3 rows (L := L) (a := a) (b := b + k) (by omega) (by omega)
   rw [show b + (k + 1) = b + k + 1 by omega]; omega
theorem zqv (rows : List Row) (L : List Int) (a b : Nat) : dO rows L a b <= 768 * (b - a) := by
 unfold dO
 have : ∀ l : List Int, (l.flatMap (aO rows 8)).length <= 768 * l.length := fun l => by
  induction l with
  | nil => simp
  | cons x l ih =>
    have := iM rows 8 x
    rw [List.flatMap_cons, List.length_append, List.length_cons]; omega
 refine Nat.le_trans (this _) ?_
 unfold eP
 rw [List.length_drop, List.length_take]
 exact Nat.mul_le_mul_left _ (by omega)
theorem zK {rows : List Row} (hk : c6 rows) (L : List Int) (a b : Nat) : (bN rows (eP L a b)).length = dO rows L a b := by
 unfold bN dO; exact (tL hk _).len.symm
theorem zqw {rows : List Row} (hk : c6 rows) {L want : List Int} {a b : Nat} (h : a <= b) (hl : want.length < dO rows L a b) : ∀ j, b + j <= L.length -> eA rows L want a (b + j) = false := fun j hj => by
 have := zg4 rows h hj
 unfold eA
 rw [decide_eq_false_iff_not]
 intro e
 have := congrArg List.length e
 rw [zK hk] at this
 omega
theorem zqx {rows : List Row} (hk : c6 rows) {L want : List Int} {a b : Nat} (hl : dO rows L a b ≠ want.length) : eA rows L want a b = false := by
 unfold eA
 rw [decide_eq_false_iff_not]
 intro e
 exact hl (by rw [<- zK hk, e])
theorem zqy {rows : List Row} {L want : List Int} (hw : want ≠ []) (a : Nat) : eA rows L want a a = false := by
 unfold eA
 rw [zJ, decide_eq_false_iff_not]
 intro e; exact hw (by rw [<- e]; rfl)
def fM (rows : List Row) (L want : List Int) (a b : Nat) : Option (Nat × Nat) := match jS (eA rows L want a) b (L.length + 1 - b) with
 | some c => some (a, c)
 | none => fL rows L want (a + 1) (L.length - a)
theorem zg5 {rows : List Row} {L want : List Int} (hw : want ≠ []) {a : Nat} (ha : a <= L.length) : fL rows L want a (L.length + 1 - a) = fM rows L want a (a + 1) := by
 rw [show L.length + 1 - a = (L.length - a) + 1 by omega, fL]
 unfold fM
 rw [show L.length + 1 - a = (L.length + 1 - (a + 1)) + 1 by omega, jS, if_neg (by rw [zqy hw]; simp)]
theorem zg6 {rows : List Row} {L want : List Int} {a b : Nat} (hb : b <= L.length) (h : eA rows L want a b = false) : fM rows L want a b = fM rows L want a (b + 1) := by
 unfold fM
 rw [show L.length + 1 - b = (L.length + 1 - (b + 1)) + 1 by omega, jS, if_neg (by rw [h]; simp)]
theorem zg7 {rows : List Row} {L want : List Int} {a b : Nat} (hb : b <= L.length) (h : eA rows L want a b = true) : fM rows L want a b = some (a, b) := by
 unfold fM
 rw [show L.length + 1 - b = (L.length + 1 - (b + 1)) + 1 by omega, jS, if_pos h]
theorem zL {rows : List Row} {L want : List Int} {a b : Nat} (h : ∀ j, b + j <= L.length -> eA rows L want a (b + j) = false) : fM rows L want a b = fL rows L want (a + 1) (L.length + 1 - (a + 1)) := by
 unfold fM
 rw [zg1 fun j hj => h j (by omega)]
 rw [show L.length + 1 - (a + 1) = L.length - a by omega]
theorem zqz {rows : List Row} {L want : List Int} (hw : want ≠ []) : fL rows L want L.length (L.length + 1 - L.length) = none := by
 rw [zg5 hw (Nat.le_refl _), zL fun j hj => by omega]
 rw [Nat.sub_self]; rfl
end Go.Eng.Rows



namespace Go.Eng
open Go Go.Proofs
end Go.Eng



namespace Go.Eng
open Go Go.Proofs Go.Eng.Rows Go.Eng.Trie Go.Eng.Srt
theorem zq0 (l : List Int) (k : Nat) : (l.take k).length <= k := by rw [List.length_take]; omega
theorem zg8 {len : Nat} {i j : Int} (h0 : 0 <= i) (h1 : i <= j) (h2 : j <= len) : dK len (some i) (some j) none := ⟨h0, h1, h2, trivial⟩
theorem zg9 (L : List Int) (i j : Nat) : List.drop i (List.take j (aA L)) = aA (eP L i j) := by simp [aA, eP]
theorem R32.sub {L : List Int} (h : R32 L) (i j : Nat) : R32 (eP L i j) := fun x hx => h x (List.mem_of_mem_take (List.mem_of_mem_drop hx))
theorem zha (L : List Int) (i j : Nat) : (eP L i j).length <= L.length := by unfold eP; rw [List.length_drop, List.length_take]; omega
theorem w3 : Tryz.prog.underlying 3 = some (.int .i64) := by kernel_rfl
theorem zq1 {v : PV} (h : jH Tryz.prog 8 3 v) : ∃ n : Int, v = .int .i64 n := by
 obtain ⟨m, e, _⟩ := sE w3 (sG (by kernel_rfl) h)
 cases e
 exact ⟨m, rfl⟩
end Go.Eng



namespace Go.Eng
open Go Go.Proofs
end Go.Eng



namespace Go.Eng
open Go Go.Proofs
end Go.Eng



namespace Go.Eng
open Go Go.Proofs Go.Eng.Rows Go.Eng.Trie
end Go.Eng



namespace Go.Eng
open Go Go.Proofs Go.Eng.Rows Go.Eng.Trie
section
variable {rows : List Row}
end
end Go.Eng



namespace Go.Eng
open Go Go.Proofs Go.Eng.Rows Go.Eng.Trie
section
variable {rows : List Row} {v : PV}
theorem zq2 (hp : cK rows) (hv : eV rows v) {r : Int} (hr : -2147483648 <= r /\ r <= 2147483647) : PCall Tryz.prog 158 [v, .int .i32 r] fun x => ∃ nl, x = .sl nl false (aA (aO rows 8 r)) := by
 obtain ⟨tc, tg, tj, tf, tp, made, sec, rfl, ht, hm⟩ := hv
 exact zo2 _ _ hp ht hr
end
end Go.Eng



namespace Go.Eng
open Go Go.Proofs
def zM (tc tg tj tf tp : PV) (M S : List (PV × PV)) (n f : Bool) (es : LL) (n2 f2 : Bool) (ss : LL) (n9 f9 : Bool) (s9 : LL) (x27 : Int) (n_0 : Bool) (s_0 : LL) : Env × Hp := ([(0, LV.pv (PV.ptr [tc, tg, tj, tf, tp, PV.mp M, PV.mp S])), (1, LV.pv (PV.sl n f es)), (9, .pv (.sl n9 f9 s9)), (10, LV.own 0), (25, LV.pv (PV.sl n f es)), (26, Y6 ↑es.length), (27, Y6 x27)], [.sl (3, 1) true n_0 s_0])
def tT (tc tg tj tf tp : PV) (M S : List (PV × PV)) (n f : Bool) (es : LL) (n2 f2 : Bool) (ss : LL) (n9 f9 : Bool) (s9 : LL) (x42 : Int) (n_0 : Bool) (s_0 : LL) : Env × Hp := ([(0, LV.pv (PV.ptr [tc, tg, tj, tf, tp, PV.mp M, PV.mp S])), (1, LV.pv (PV.sl n f es)), (9, .pv (.sl n9 f9 s9)), (10, LV.own 0), (41, Y6 ↑es.length), (42, Y6 x42)], [.sl (3, 1) true n_0 s_0])
def tU (tc tg tj tf tp : PV) (M S : List (PV × PV)) (n f : Bool) (es : LL) (n2 f2 : Bool) (ss : LL) (n9 f9 : Bool) (s9 : LL) (x13 x14 x15 x42 : Int) (n_0 : Bool) (s_0 : LL) : Env × Hp := ([(0, LV.pv (PV.ptr [tc, tg, tj, tf, tp, PV.mp M, PV.mp S])), (1, LV.pv (PV.sl n f es)), (9, .pv (.sl n9 f9 s9)), (10, LV.own 0), (13, Y6 x13), (14, Y6 x14), (15, Y6 x15), (41, Y6 ↑es.length), (42, Y6 x42)], [.sl (3, 1) true n_0 s_0])
def zhb (tc tg tj tf tp : PV) (M S : List (PV × PV)) (n f : Bool) (es : LL) (n2 f2 : Bool) (ss : LL) (J : Bool -> Bool -> LL -> Int -> Bool -> LL -> Prop) (μ : Bool -> Bool -> LL -> Int -> Bool -> LL -> Nat) (J2 : Bool -> Bool -> LL -> Int -> Bool -> LL -> Prop) (μ2 : Bool -> Bool -> LL -> Int -> Bool -> LL -> Nat) (J3 : Bool -> Bool -> LL -> Int -> Int -> Int -> Int -> Bool -> LL -> Bool -> Bool -> LL -> Int -> Int -> Int -> Int -> Bool -> LL -> Prop) (μ3 : Bool -> Bool -> LL -> Int -> Int -> Int -> Int -> Bool -> LL -> Nat) (R : PV -> Prop) : Prop :=
 PCall Tryz.prog 78 [PV.ptr [tc, tg, tj, tf, tp, PV.mp M, PV.mp S], PV.sl n2 f2 ss] fun v => ∃ n1 f1 es1, v = PV.sl n1 f1 es1 /\ if ((↑es1.length : Int) == 0) = true then R (PV.tup [Z6 0, Z6 0, Zb true])
 else ((0 : Int) <= (↑es.length : Int) /\ (↑es.length : Int) <= (↑es.length : Int) /\ (↑8 : Int) * (↑es.length : Int) <= 281474976710656 /\ (↑es.length : Int) <= 9223372036854775807) /\ (aB (zM tc tg tj tf tp M S n f es n2 f2 ss n1 f1 es1 (0
 : Int) false (List.replicate (↑es.length : Int).toNat [Z6 0])) /\ J n1 f1 es1 (0 : Int) false (List.replicate (↑es.length : Int).toNat [Z6 0])) /\ ∀ (n9 f9 : Bool) (s9 : LL) (x27 : Int) (n_0 : Bool) (s_0 : LL), J n9 f9 s9 x27 n_0 s_0 -> if
 decide (x27 < (↑es.length : Int)) = true then aM es x27 1 /\ ∃ n3, (es.getD x27.toNat []).head? = some (Z3 n3) /\ PCall Tryz.prog 158 [PV.ptr [tc, tg, tj, tf, tp, PV.mp M, PV.mp S], Z3 n3] fun v1 => ∃ n4, ∃ (f3 :
 Bool), ∃ es2, v1 = PV.sl n4 f3 es2 /\ aM s_0 x27 1 /\ (1 = 1 /\ 1 <= (s_0.getD x27.toNat []).length) /\ aB (zM tc tg tj tf tp M S n f es n2 f2 ss n9 f9 s9 (i64.wrap (x27 + 1)) n_0 (s_0.set x27.toNat (Z6 (↑es2.length :
 Int) :: zq (List.drop 1 (s_0.getD x27.toNat []))))) /\ J n9 f9 s9 (i64.wrap (x27 + 1)) n_0 (s_0.set x27.toNat (Z6 (↑es2.length : Int) :: zq (List.drop 1 (s_0.getD x27.toNat [])))) /\
 μ n9 f9 s9 (i64.wrap (x27 + 1)) n_0 (s_0.set x27.toNat (Z6 (↑es2.length : Int) :: zq (List.drop 1 (s_0.getD x27.toNat [])))) < μ n9 f9 s9 x27 n_0 s_0 else (aB (tT tc tg tj tf tp M S n f es n2 f2 ss
 n9 f9 s9 (0 : Int) n_0 s_0) /\ J2 n9 f9 s9 (0 : Int) n_0 s_0) /\ ∀ (n91 f91 : Bool) (s91 : LL) (x42 : Int) (n_01 : Bool) (s_01 : LL), J2 n91 f91 s91 x42 n_01 s_01 -> if decide (x42 < (↑es.length : Int)) = true then (aB (tU tc tg tj tf
 tp M S n f es n2 f2 ss n91 f91 s91 x42 (0 : Int) x42 x42 n_01 s_01) /\ J3 n91 f91 s91 x42 (0 : Int) x42 x42 n_01 s_01 n91 f91 s91 x42 (0 : Int) x42 x42 n_01 s_01) /\ ∀ (n92 f92 : Bool) (s92 : LL) (x13 x14 x15 x421 : Int) (n_02 : Bool) (s_02 :
 LL), J3 n91 f91 s91 x42 (0 : Int) x42 x42 n_01 s_01 n92 f92 s92 x13 x14 x15 x421 n_02 s_02 -> if decide (x15 < (↑es.length : Int)) = true then aM s_02 x15 1 /\ ∃ n3, (List.drop 0 (s_02.getD x15.toNat [])).head? = some (Z6 n3) /\ if
 decide (i64.wrap (x14 + n3) > (↑s92.length : Int)) = true then aB (tT tc tg tj tf tp M S n f es n2 f2 ss n92 f92 s92 (i64.wrap (x421 + 1)) n_02 s_02) /\ J2 n92 f92 s92 (i64.wrap (x421 + 1)) n_02 s_02 /\ μ2 n92
 f92 s92 (i64.wrap (x421 + 1)) n_02 s_02 < μ2 n91 f91 s91 x42 n_01 s_01 else if (i64.wrap (x14 + n3) == (↑s92.length : Int)) = true then (dK es.length (some x13) (some (i64.wrap (x15 + 1))) none /\ aR es 1) /\ PCall
 Tryz.prog 78 [PV.ptr [tc, tg, tj, tf, tp, PV.mp M, PV.mp S], PV.sl n (f && decide (i64.wrap (x15 + 1) = (↑es.length : Int))) (List.drop x13.toNat (List.take (i64.wrap (x15 + 1)).toNat es))] fun v1 => ∃ n4, ∃
 (f3 : Bool), ∃ es2, v1 = PV.sl n4 f3 es2 /\ PCall Tryz.prog 70 [PV.sl n4 f3 es2, PV.sl n92 f92 s92] fun v2 => ∃ b, v2 = Zb b /\ if b = true then R (PV.tup [Z6 x13, Z6 (i64.wrap (x15 + 1)), Zb true]) else aB
 (tU tc tg tj tf tp M S n f es n2 f2 ss n92 f92 s92 x13 (i64.wrap (x14 + n3)) (i64.wrap (x15 + 1)) x421 n_02 s_02) /\ J3 n91 f91 s91 x42 (0 : Int) x42 x42 n_01 s_01 n92 f92 s92 x13 (i64.wrap (x14 + n3))
 (i64.wrap (x15 + 1)) x421 n_02 s_02 /\ μ3 n92 f92 s92 x13 (i64.wrap (x14 + n3)) (i64.wrap (x15 + 1)) x421 n_02 s_02 < μ3 n92 f92 s92 x13 x14 x15 x421 n_02 s_02 else aB (tU tc tg tj tf tp M S n f es n2 f2 ss
 n92 f92 s92 x13 (i64.wrap (x14 + n3)) (i64.wrap (x15 + 1)) x421 n_02 s_02) /\ J3 n91 f91 s91 x42 (0 : Int) x42 x42 n_01 s_01 n92 f92 s92 x13 (i64.wrap (x14 + n3)) (i64.wrap (x15 + 1)) x421 n_02 s_02 /\ μ3 n92
 f92 s92 x13 (i64.wrap (x14 + n3)) (i64.wrap (x15 + 1)) x421 n_02 s_02 < μ3 n92 f92 s92 x13 x14 x15 x421 n_02 s_02 else aB (tT tc tg tj tf tp M S n f es n2 f2 ss n92 f92 s92 (i64.wrap (x421 + 1)) n_02 s_02) /\
 J2 n92 f92 s92 (i64.wrap (x421 + 1)) n_02 s_02 /\ μ2 n92 f92 s92 (i64.wrap (x421 + 1)) n_02 s_02 < μ2 n91 f91 s91 x42 n_01 s_01 else R (PV.tup [Z6 0, Z6 0, Zb false])
theorem zq3 (tc tg tj tf tp : PV) (M S : List (PV × PV)) (n f : Bool) (es : LL) (n2 f2 : Bool) (ss : LL) (J : Bool -> Bool -> LL -> Int -> Bool -> LL -> Prop) (μ : Bool -> Bool -> LL -> Int -> Bool -> LL -> Nat) (J2 : Bool -> Bool -> LL -> Int -> Bool -> LL -> Prop) (μ2 : Bool -> Bool -> LL -> Int -> Bool -> LL -> Nat) (J3 : Bool -> Bool -> LL -> Int -> Int -> Int -> Int -> Bool -> LL -> Bool -> Bool -> LL -> Int -> Int -> Int -> Int -> Bool -> LL -> Prop) (μ3 : Bool -> Bool -> LL -> Int -> Int -> Int -> Int -> Bool -> LL -> Nat) {R : PV -> Prop} (h : zhb tc tg tj tf tp M S n f es n2 f2 ss J μ J2 μ2 J3 μ3 R) : PCall Tryz.prog 136 [.ptr [tc, tg, tj, tf, tp, .mp M, .mp S], .sl n f es, .sl n2 f2 ss] R :=
 PCall.of Tryz.func136 (by kernel_rfl) (by kernel_rfl) (zl (by kernel_rfl)) (Eq.mpr (by kernel_rfl : aT Tryz.prog (fun _ => none) Tryz.f136 [0, 1, 2, 6, 7, 8, 9, 10, 11, 12, 13, 14, 15, 21, 25, 26, 27, 28, 41, 42, 43, 49, 58, 63] (fun zz_ => match zz_ with | 6 => some ⟨Bool × Bool × LL × Int × Bool × LL, fun s => zM tc tg tj tf tp M S n f es n2 f2 ss s.1 s.2.1 s.2.2.1 s.2.2.2.1 s.2.2.2.2.1 s.2.2.2.2.2, fun _ s => J s.1 s.2.1 s.2.2.1 s.2.2.2.1 s.2.2.2.2.1 s.2.2.2.2.2, fun s => μ s.1 s.2.1 s.2.2.1 s.2.2.2.1 s.2.2.2.2.1 s.2.2.2.2.2, fun e h => (gN e 9, gF e 9, gS e 9, gI e 27, oN h 0, oS h 0), [], [0, 1, 9, 10, 25, 26, 27], [], fun p => ∀ (n9 f9 : Bool) (s9 : LL) (x27 : Int) (n_0 : Bool) (s_0 : LL), p (n9, f9, s9, x27, n_0, s_0), fun p h s => h s.1 s.2.1 s.2.2.1 s.2.2.2.1 s.2.2.2.2.1 s.2.2.2.2.2⟩ | 11 => some ⟨Bool × Bool × LL × Int × Bool × LL, fun s => tT tc tg tj tf tp M S n f es n2 f2 ss s.1 s.2.1 s.2.2.1 s.2.2.2.1 s.2.2.2.2.1 s.2.2.2.2.2, fun _ s => J2 s.1 s.2.1 s.2.2.1 s.2.2.2.1 s.2.2.2.2.1 s.2.2.2.2.2, fun s => μ2 s.1 s.2.1 s.2.2.1 s.2.2.2.1 s.2.2.2.2.1 s.2.2.2.2.2, fun e h => (gN e 9, gF e 9, gS e 9, gI e 42, oN h 0, oS h 0), [], [0, 1, 9, 10, 41, 42], [], fun p => ∀ (n9 f9 : Bool) (s9 : LL) (x42 : Int) (n_0 : Bool) (s_0 : LL), p (n9, f9, s9, x42, n_0, s_0), fun p h s => h s.1 s.2.1 s.2.2.1 s.2.2.2.1 s.2.2.2.2.1 s.2.2.2.2.2⟩ | 15 => some ⟨Bool × Bool × LL × Int × Int × Int × Int × Bool × LL, fun s => tU tc tg tj tf tp M S n f es n2 f2 ss s.1 s.2.1 s.2.2.1 s.2.2.2.1 s.2.2.2.2.1 s.2.2.2.2.2.1 s.2.2.2.2.2.2.1 s.2.2.2.2.2.2.2.1 s.2.2.2.2.2.2.2.2, fun t s => J3 t.1 t.2.1 t.2.2.1 t.2.2.2.1 t.2.2.2.2.1 t.2.2.2.2.2.1 t.2.2.2.2.2.2.1 t.2.2.2.2.2.2.2.1 t.2.2.2.2.2.2.2.2 s.1 s.2.1 s.2.2.1 s.2.2.2.1 s.2.2.2.2.1 s.2.2.2.2.2.1 s.2.2.2.2.2.2.1 s.2.2.2.2.2.2.2.1 s.2.2.2.2.2.2.2.2, fun s => μ3 s.1 s.2.1 s.2.2.1 s.2.2.2.1 s.2.2.2.2.1 s.2.2.2.2.2.1 s.2.2.2.2.2.2.1 s.2.2.2.2.2.2.2.1 s.2.2.2.2.2.2.2.2, fun e h => (gN e 9, gF e 9, gS e 9, gI e 13, gI e 14, gI e 15, gI e 42, oN h 0, oS h 0), [], [0, 1, 9, 10, 13, 14, 15, 41, 42], [], fun p => ∀ (n9 f9 : Bool) (s9 : LL) (x13 x14 x15 x42 : Int) (n_0 : Bool) (s_0 : LL), p (n9, f9, s9, x13, x14, x15, x42, n_0, s_0), fun p h s => h s.1 s.2.1 s.2.2.1 s.2.2.2.1 s.2.2.2.2.1 s.2.2.2.2.2.1 s.2.2.2.2.2.2.1 s.2.2.2.2.2.2.2.1 s.2.2.2.2.2.2.2.2⟩ | _ => none) (Tryz.f136.body.getD .skip) [.ptr [tc, tg, tj, tf, tp, .mp M, .mp S], .sl n f es, .sl n2 f2 ss] R = _) h)

def zN (n f : Bool) (es : LL) (n2 f2 : Bool) (ss : LL) (n3 f3 : Bool) (s3 : LL) (x9 : Int) : Env × Hp := ([(0, LV.pv (PV.sl n f es)), (1, LV.pv (PV.sl n2 f2 ss)), (2, LV.pv (PV.sl n3 f3 s3)), (9, Y6 x9)], [])
def zO (n f : Bool) (es : LL) (n2 f2 : Bool) (ss : LL) (n3 f3 : Bool) (s3 : LL) (x9 x10 : Int) : Env × Hp := ([(0, LV.pv (PV.sl n f es)), (1, LV.pv (PV.sl n2 f2 ss)), (2, LV.pv (PV.sl n3 f3 s3)), (9, Y6 x9), (10, Y6 x10)], [])
def zhc (n f : Bool) (es : LL) (n2 f2 : Bool) (ss : LL) (n3 f3 : Bool) (s3 : LL) (J : Int -> Prop) (μ : Int -> Nat) (J2 : Int -> Int -> Int -> Int -> Prop) (μ2 : Int -> Int -> Nat) (R : PV -> Prop) : Prop :=
 (aB (zN n f es n2 f2 ss n3 f3 s3 (0 : Int)) /\ J (0 : Int)) /\ ∀ (x9 : Int), J x9 -> if decide (x9 <= (↑ss.length : Int)) = true then (aB (zO n f es n2 f2 ss n3 f3 s3 x9 x9) /\ J2 x9 x9 x9 x9) /\ ∀ (x91 x10 : Int), J2 x9 x9 x91 x10 ->
 if decide (x10 <= (↑ss.length : Int)) = true then (dK ss.length (some x91) (some x10) none /\ aR ss 1) /\ PCall Tryz.prog 65 [PV.sl n f es, PV.sl n2 (f2 && decide (x10 = (↑ss.length : Int))) (List.drop x91.toNat (List.take x10.toNat ss)),
 PV.sl n3 f3 s3] fun v => ∃ b, v = Zb b /\ if b = true then R (PV.tup [Z6 x91, Z6 x10, Zb true]) else aB (zO n f es n2 f2 ss n3 f3 s3 x91 (i64.wrap (x10 + 1))) /\ J2 x9 x9 x91 (i64.wrap (x10 + 1)) /\ μ2 x91
 (i64.wrap (x10 + 1)) < μ2 x91 x10 else aB (zN n f es n2 f2 ss n3 f3 s3 (i64.wrap (x91 + 1))) /\ J (i64.wrap (x91 + 1)) /\ μ (i64.wrap (x91 + 1)) < μ x9 else R (PV.tup [Z6 0, Z6 0, Zb false])
theorem zq4 (n f : Bool) (es : LL) (n2 f2 : Bool) (ss : LL) (n3 f3 : Bool) (s3 : LL) (J : Int -> Prop) (μ : Int -> Nat) (J2 : Int -> Int -> Int -> Int -> Prop) (μ2 : Int -> Int -> Nat) {R : PV -> Prop} (h : zhc n f es n2 f2 ss n3 f3 s3 J μ J2 μ2 R) : PCall Tryz.prog 20 [.sl n f es, .sl n2 f2 ss, .sl n3 f3 s3] R :=
 PCall.of Tryz.func20 (by kernel_rfl) (by kernel_rfl) (zl (by kernel_rfl)) (Eq.mpr (by kernel_rfl : aT Tryz.prog (fun _ => none) Tryz.f20 [0, 1, 2, 6, 7, 8, 9, 10, 14, 21, 30] (fun zz_ => match zz_ with | 2 => some ⟨Int × Unit, fun s => zN n f es n2 f2 ss n3 f3 s3 s.1, fun _ s => J s.1, fun s => μ s.1, fun e h => (((gI e 9), ())), [], [0, 1, 2, 9], [], fun p => ∀ (x9 : Int), p (x9, ()), fun p h s => h s.1⟩ | 5 => some ⟨Int × Int, fun s => zO n f es n2 f2 ss n3 f3 s3 s.1 s.2, fun t s => J2 t.1 t.2 s.1 s.2, fun s => μ2 s.1 s.2, fun e h => (gI e 9, gI e 10), [], [0, 1, 2, 9, 10], [], fun p => ∀ (x9 x10 : Int), p (x9, x10), fun p h s => h s.1 s.2⟩ | _ => none) (Tryz.f20.body.getD .skip) [.sl n f es, .sl n2 f2 ss, .sl n3 f3 s3] R = _) h)

end Go.Eng



namespace Go.Eng
open Go Go.Proofs Go.Eng.Rows Go.Eng.Trie Go.Eng.Srt
def zhd : Option (Nat × Nat) -> PV
 | some (a, b) => .tup [.int .i64 a, .int .i64 b, .bool true]
 | none => .tup [.int .i64 0, .int .i64 0, .bool false]
def fN (rows : List Row) (L : List Int) (i : Nat) : List (List PV) := (L.take i).map (fun r => [PV.int .i64 (aO rows 8 r).length]) ++ List.replicate (L.length - i) [PV.int .i64 0]
section
variable {rows : List Row} {v : PV}
theorem zhe {L : List Int} {i : Nat} (h : i <= L.length) : (fN rows L i).length = L.length := by
 unfold fN
 rw [List.length_append, List.length_map, List.length_take, List.length_replicate]; omega
theorem zq5 {L : List Int} {i : Nat} (h : i < L.length) : (fN rows L i).getD i [] = [PV.int .i64 0] := by
 unfold fN
 rw [List.getD, List.getElem?_append_right (by rw [List.length_map, List.length_take]; omega), List.length_map, List.length_take, List.getElem?_replicate, if_pos (by omega)]; rfl
theorem zq6 {L : List Int} {i : Nat} (h : i < L.length) : (fN rows L i).set i [PV.int .i64 (aO rows 8 L[i]).length] = fN rows L (i + 1) := by
 unfold fN
 rw [List.set_append_right _ _ (by rw [List.length_map, List.length_take]; omega), List.length_map, List.length_take, zg2 h, List.map_append, List.append_assoc]
 congr 1
 rw [show i - min i L.length = 0 by omega, show L.length - i = (L.length - (i + 1)) + 1 by omega, List.replicate_succ, List.set_cons_zero]; rfl
theorem zq7 {L : List Int} {i : Nat} (h : i < L.length) : (fN rows L L.length).getD i [] = [PV.int .i64 (aO rows 8 L[i]).length] := by
 unfold fN
 rw [Nat.sub_self, List.replicate_zero, List.append_nil, List.take_length, List.getD, List.getElem?_map, List.getElem?_eq_getElem h]; rfl
theorem zq8 (rows : List Row) (L : List Int) : findL rows L [] = some (0, 0) := by
 unfold Rows.findL
 rw [fL, Nat.sub_zero, jS, if_pos (by unfold eA; rw [zJ]; exact decide_eq_true rfl)]
theorem zq9 (es : List (List PV)) (k : Nat) (w x : PV) (h : es.getD k [] = [x]) : es.set k (w :: zq (List.drop 1 (es.getD k []))) = es.set k [w] := by rw [h]; rfl
theorem zhf {L : List Int} (h : R32 L) (i j : Nat) : R32 (eP L i j) := fun x hx => h x (List.mem_of_mem_take (List.mem_of_mem_drop hx))
theorem zra (hp : cK rows) (hk : c6 rows) (hv : eV rows v) (n f n2 f2 : Bool) (L P : List Int) (hr : R32 L) (hL : L.length < 100000) (hr2 : R32 P) (hL2 : P.length < 1000000) :
 PCall Tryz.prog 136 [v, .sl n f (aA L), .sl n2 f2 (aA P)] fun x => x = zhd (findL rows L (bN rows P)) := by
 have hv' := hv
 obtain ⟨tc, tg, tj, tf, tp, made, sec, rfl, ht, hm⟩ := hv
 have hwl := zgp hk P
 refine zq3 _ _ _ _ _ _ _ _ _ _ _ _ _
  (fun _ _ s i _ z => s = aA (bN rows P) /\ (0 <= i /\ i <= L.length) /\ z = fN rows L i.toNat) (fun _ _ _ i _ _ => L.length - i.toNat)
  (fun _ _ s i _ z => s = aA (bN rows P) /\ (0 <= i /\ i <= L.length) /\ z = fN rows L L.length /\ findL rows L (bN rows P) = fL rows L (bN rows P) i.toNat (L.length + 1 - i.toNat)) (fun _ _ _ i _ _ => L.length - i.toNat)
  (fun _ _ _ y13 _ _ _ _ _ _ _ s x13 x14 x15 x42 _ z => (y13 = x13 /\ y13 = x42) /\ s = aA (bN rows P) /\ (0 <= y13 /\ y13 < L.length /\ y13 <= x15 /\ x15 <= L.length) /\ z = fN rows L L.length /\ x14 = (dO rows L y13.toNat x15.toNat : Nat) /\ findL rows L (bN rows P) = fM rows L (bN rows P) y13.toNat (x15.toNat + 1)) (fun _ _ _ _ _ x15 _ _ _ => L.length - x15.toNat) ?_
 unfold zhb
 refine (zgu hp hk hv' n2 f2 P hr2 hL2).mono ?_
 rintro _ ⟨n1, f1, rfl⟩
 refine ⟨_, _, _, rfl, aF (fun hc => ?_) (fun hc => ?_)⟩
 ·simp only [beq_iff_eq, bC] at hc
  have : bN rows P = [] := List.eq_nil_of_length_eq_zero (by omega)
  rw [this, zq8]; rfl
 simp only [beq_iff_eq, bC] at hc
 have hw0 : bN rows P ≠ [] := fun e => by rw [e] at hc; exact hc rfl
 generalize hwant : bN rows P = want at *
 have hl8 : ((aA L).length : Int) = L.length := by rw [bC]
 rw [hl8]
 refine ⟨⟨by omega, Int.le_refl _, by omega, by omega⟩, ⟨rfl, rfl, ⟨Int.le_refl _, by omega⟩, ?_⟩, ?_⟩
 ·unfold fN; simp
 rintro n9 f9 _ i n0 _ ⟨rfl, ⟨i0, i1⟩, rfl⟩
 refine aF (fun hc => ?_) (fun hc => ?_)
 ·simp only [decide_eq_true_eq] at hc
  have hi : i.toNat < L.length := by omega
  obtain ⟨g1, g2⟩ := kO i0 hi
  have hx := hr _ (List.getElem_mem hi)
  have hw : i64.wrap (i + 1) = i + 1 := aD (by omega) (by omega)
  have hzl := zhe (rows := rows) (L := L) (i := i.toNat) (by omega)
  have hzg := zq5 (rows := rows) hi
  refine ⟨g1, L[i.toNat], by rw [g2]; rfl, ?_⟩
  refine (zq2 hp hv' hx).mono ?_
  rintro _ ⟨n3, rfl⟩
  rw [hw]
  refine ⟨_, _, _, rfl, ⟨i0, by rw [hzl]; omega, by rw [hzg]; rfl⟩, ⟨rfl, by rw [hzg]; exact Nat.le_refl _⟩, rfl, ⟨rfl, by omega, ?_⟩, by dsimp only; omega⟩
  ·rw [zq9 _ _ _ _ hzg, show (i + 1).toNat = i.toNat + 1 by omega, <- zq6 hi, bC]
 ·simp only [decide_eq_true_eq] at hc
  have hie : i.toNat = L.length := by omega
  rw [hie]
  refine ⟨⟨rfl, rfl, ⟨Int.le_refl _, by omega⟩, rfl, rfl⟩, ?_⟩
  clear hc hie i0 i1 i
  rintro n4 f4 _ i n5 _ ⟨rfl, ⟨i0, i1⟩, rfl, hf⟩
  refine aF (fun hc => ?_) (fun hc => ?_)
  ·simp only [decide_eq_true_eq] at hc
   have hz0 : dO rows L i.toNat i.toNat = 0 := by unfold dO; rw [zJ]; rfl
   refine ⟨⟨rfl, ⟨rfl, rfl⟩, rfl, ⟨i0, hc, Int.le_refl _, i1⟩, rfl, by rw [hz0]; rfl, by rw [hf]; exact zg5 hw0 (by omega)⟩, ?_⟩
   rintro n6 f6 _ _ _ j _ n7 _ ⟨⟨rfl, rfl⟩, rfl, ⟨_, _, j0, j1⟩, rfl, rfl, hf2⟩
   have hw : i64.wrap (i + 1) = i + 1 := aD (by omega) (by omega)
   rw [hw]
   have nextI : (∀ k, j.toNat + 1 + k <= L.length -> eA rows L want i.toNat (j.toNat + 1 + k) = false) -> findL rows L want = fL rows L want (i + 1).toNat (L.length + 1 - (i + 1).toNat) := fun h => by
    rw [hf2, zL h, show (i + 1).toNat = i.toNat + 1 by omega]
   refine aF (fun hc2 => ?_) (fun hc2 => ?_)
   ·simp only [decide_eq_true_eq] at hc2
    have hj : j.toNat < L.length := by omega
    have hzl := zhe (rows := rows) (L := L) (i := L.length) (Nat.le_refl _)
    have hzg := zq7 (rows := rows) hj
    have hsn := zg3 rows (L := L) (a := i.toNat) (b := j.toNat) (by omega) hj
    have hle := zqv rows L i.toNat (j.toNat + 1)
    have hwn : i64.wrap ((dO rows L i.toNat j.toNat : Nat) + ((aO rows 8 L[j.toNat]).length : Int)) = (dO rows L i.toNat (j.toNat + 1) : Nat) := by
     rw [hsn]
     have : ((dO rows L i.toNat j.toNat : Nat) : Int) + ((aO rows 8 L[j.toNat]).length : Int) = ((dO rows L i.toNat j.toNat + (aO rows 8 L[j.toNat]).length : Nat) : Int) := by omega
     rw [this]; exact aD (by omega) (by omega)
    have hwj : i64.wrap (j + 1) = j + 1 := aD (by omega) (by omega)
    refine ⟨⟨by omega, by rw [hzl]; omega, by rw [hzg]; rfl⟩, (aO rows 8 L[j.toNat]).length, by rw [hzg]; rfl, ?_⟩
    rw [hwn, hwj, bC]
    have nextJ : eA rows L want i.toNat (j.toNat + 1) = false -> findL rows L want = fM rows L want i.toNat ((j + 1).toNat + 1) := fun h => by
     rw [hf2, zg6 (by omega) h, show (j + 1).toNat = j.toNat + 1 by omega]
    have hj1 : (j + 1).toNat = j.toNat + 1 := by omega
    refine aF (fun h3 => ?_) (fun h3 => ?_)
    ·simp only [gt_iff_lt, decide_eq_true_eq] at h3
     exact ⟨rfl, ⟨rfl, ⟨by omega, by omega⟩, rfl, nextI fun k hk2 => zqw hk (by omega) (by omega) k hk2⟩, by dsimp only; omega⟩
    ·simp only [gt_iff_lt, decide_eq_true_eq] at h3
     refine aF (fun h4 => ?_) (fun h4 => ?_)
     ·simp only [beq_iff_eq] at h4
      rw [zg9, hj1]
      refine ⟨⟨zg8 (by omega) (by omega) (by rw [bC]; omega), dC _⟩, ?_⟩
      have hsl := zha L i.toNat (j.toNat + 1)
      have hnl := zK hk L i.toNat (j.toNat + 1)
      refine (zgu hp hk hv' _ _ _ (zhf hr _ _) (by omega)).mono ?_
      rintro _ ⟨n8, f8, rfl⟩
      refine ⟨_, _, _, rfl, ?_⟩
      refine (zqd _ _ _ _ _ _ (by omega)).mono ?_
      rintro _ rfl
      refine ⟨_, rfl, aF (fun h5 => ?_) (fun h5 => ?_)⟩
      ·rw [hf2, zg7 (by omega) h5]
       show _ = PV.tup [.int .i64 (i.toNat : Int), .int .i64 ((j.toNat + 1 : Nat) : Int), .bool true]
       rw [show (i.toNat : Int) = i by omega, show ((j.toNat + 1 : Nat) : Int) = j + 1 by omega]
      ·exact ⟨rfl, ⟨⟨rfl, rfl⟩, rfl, ⟨i0, hc, by omega, by omega⟩, rfl, by rw [hj1], nextJ (by simpa [eA] using h5)⟩, by dsimp only; omega⟩
     ·simp only [beq_iff_eq] at h4
      exact ⟨rfl, ⟨⟨rfl, rfl⟩, rfl, ⟨i0, hc, by omega, by omega⟩, rfl, by rw [hj1], nextJ (zqx hk (by omega))⟩, by dsimp only; omega⟩
   ·simp only [decide_eq_true_eq] at hc2
    exact ⟨rfl, ⟨rfl, ⟨by omega, by omega⟩, rfl, nextI fun k hk2 => by omega⟩, by dsimp only; omega⟩
  ·simp only [decide_eq_true_eq] at hc
   have hie : i.toNat = L.length := by omega
   rw [hf, hie, zqz hw0]; rfl
theorem zrb (hp : cK rows) (hk : c6 rows) (n f n2 f2 n3 f3 : Bool) (hl : rows.length < 1000000) (L P : List Int) (hr : R32 L) (hL : L.length < 100000) (hr2 : R32 P) (hL2 : P.length < 1000000) :
 PCall Tryz.prog 20 [.sl n f (bD rows), .sl n2 f2 (aA L), .sl n3 f3 (aA P)] fun x => x = zhd (findL rows L (bN rows P)) := by
 refine zq4 _ _ _ _ _ _ _ _ _
  (fun i => (0 <= i /\ i <= L.length + 1) /\ findL rows L (bN rows P) = fL rows L (bN rows P) i.toNat (L.length + 1 - i.toNat)) (fun i => L.length + 1 - i.toNat)
  (fun y _ x9 x10 => y = x9 /\ (0 <= y /\ y <= L.length /\ y <= x10 /\ x10 <= L.length + 1) /\ findL rows L (bN rows P) = fM rows L (bN rows P) y.toNat x10.toNat) (fun _ x10 => L.length + 1 - x10.toNat) ?_
 unfold zhc
 have hl8 : ((aA L).length : Int) = L.length := by rw [bC]
 rw [hl8]
 refine ⟨⟨rfl, ⟨Int.le_refl _, by omega⟩, rfl⟩, ?_⟩
 rintro i ⟨⟨i0, i1⟩, hf⟩
 refine aF (fun hc => ?_) (fun hc => ?_)
 ·simp only [decide_eq_true_eq] at hc
  have hst : fL rows L (bN rows P) i.toNat (L.length + 1 - i.toNat) = fM rows L (bN rows P) i.toNat i.toNat := by
   rw [show L.length + 1 - i.toNat = (L.length - i.toNat) + 1 by omega, fL]; rfl
  refine ⟨⟨rfl, rfl, ⟨i0, hc, Int.le_refl _, by omega⟩, by rw [hf, hst]⟩, ?_⟩
  rintro _ j ⟨rfl, ⟨_, _, j0, j1⟩, hf2⟩
  have hw : i64.wrap (i + 1) = i + 1 := aD (by omega) (by omega)
  have hwj : i64.wrap (j + 1) = j + 1 := aD (by omega) (by omega)
  rw [hw, hwj]
  refine aF (fun hc2 => ?_) (fun hc2 => ?_)
  ·simp only [decide_eq_true_eq] at hc2
   have hsl := zha L i.toNat j.toNat
   rw [zg9]
   refine ⟨⟨zg8 i0 j0 (by rw [bC]; omega), dC _⟩, ?_⟩
   refine (zqi hp hk _ _ _ _ _ _ hl _ _ (zhf hr _ _) hr2 (by omega) hL2).mono ?_
   rintro _ rfl
   refine ⟨_, rfl, aF (fun h5 => ?_) (fun h5 => ?_)⟩
   ·rw [hf2, zg7 (by omega) h5]
    show _ = PV.tup [.int .i64 (i.toNat : Int), .int .i64 (j.toNat : Int), .bool true]
    rw [show (i.toNat : Int) = i by omega, show (j.toNat : Int) = j by omega]
   ·refine ⟨rfl, ⟨rfl, ⟨i0, hc, by omega, by omega⟩, ?_⟩, by dsimp only; omega⟩
    rw [hf2, zg6 (by omega) (by simpa [eA] using h5), show (j + 1).toNat = j.toNat + 1 by omega]
  ·simp only [decide_eq_true_eq] at hc2
   refine ⟨rfl, ⟨⟨by omega, by omega⟩, ?_⟩, by dsimp only; omega⟩
   rw [hf2, zL fun k hk2 => by omega, show (i + 1).toNat = i.toNat + 1 by omega]
 ·simp only [decide_eq_true_eq] at hc
  rw [hf, show L.length + 1 - i.toNat = 0 by omega]; rfl
end
theorem f3' : findL tab [233] (bN tab [101]) = none := by kernel_rfl
end Go.Eng



namespace Go.Eng.Srt
open Go Go.Eng
section
variable {key : Int -> Int} (hk : ∀ x, 0 <= key x)
include hk
end
end Go.Eng.Srt
namespace Go.Eng.Rows
open Go Go.Eng Go.Eng.Trie Go.Eng.Srt
section
variable {rows : List Row}
def CSt.pre (Q : List Int) (st : CSt) : CSt := ⟨Q ++ st.P, st.s, st.M⟩
end
end Go.Eng.Rows



namespace Go.Eng.Rows
open Go Go.Eng Go.Eng.Trie Go.Eng.Srt
theorem drop_cons {L : List Int} {b : Nat} (h : b < L.length) : L.drop b = L.getD b 0 :: L.drop (b + 1) := by
 rw [List.drop_eq_getElem_cons h]
 simp only [List.getD, List.getElem?_eq_getElem h, Option.getD_some]
section
variable {rows : List Row}
end
end Go.Eng.Rows



namespace Go.Eng.Rows
open Go Go.Eng Go.Eng.Trie Go.Eng.Srt
def gH (s : Int) : Int := if 0 < s then 1 else -1
section
variable (p : List Int -> Option (Nat × Nat)) (ls : List (List Int)) (s : Int)
def eW : Nat -> Int -> Option (Nat × Nat)
 | 0, _ => none
 | k + 1, i => if 0 <= i /\ i < ls.length then match p (ls.getD i.toNat []) with
  | some q => some (i.toNat, q.1)
  | none => if s = 0 then none else eW k (i + gH s)
   else none
def eB (i : Int) : Option (Nat × Nat) := eW p ls s (ls.length + 1) i
end
def nL (n : Nat) (s i : Int) : Nat := if 0 <= i /\ i < n then (if 0 < s then (n - i).toNat else (i + 1).toNat) else 0
theorem tV {n : Nat} {s i : Int} (h : 0 <= i /\ i < n) : nL n s (i + gH s) < nL n s i /\ nL n s i <= n := by
 unfold nL gH
 rw [if_pos h]
 by_cases h1 : 0 < s
 ·simp only [if_pos h1]
  by_cases h2 : 0 <= i + 1 /\ i + 1 < n
  ·rw [if_pos h2]; omega
  ·rw [if_neg h2]; omega
 ·simp only [if_neg h1]
  by_cases h2 : 0 <= i + -1 /\ i + -1 < n
  ·rw [if_pos h2]; omega
  ·rw [if_neg h2]; omega
section
variable {p : List Int -> Option (Nat × Nat)} {ls : List (List Int)} {s : Int}
theorem zhg : ∀ (k : Nat) (i : Int), nL ls.length s i <= k -> eW p ls s k i = eW p ls s (k + 1) i
 | 0, i, h => by
   rw [eW, eW]
   by_cases hi : 0 <= i /\ i < ls.length
   ·have := (tV (s := s) hi).1; omega
   ·rw [if_neg hi]
 | k + 1, i, h => by
   rw [eW, eW]
   by_cases hi : 0 <= i /\ i < ls.length
   ·rw [if_pos hi, if_pos hi]
    cases p (ls.getD i.toNat []) with
    | some q => rfl
    | none =>
      dsimp only
      rw [zhg k _ (by have := (tV (s := s) hi).1; omega)]
   ·rw [if_neg hi, if_neg hi]
theorem zrc {i : Int} (h : ¬(0 <= i /\ i < ls.length)) : eB p ls s i = none := by unfold eB; rw [eW, if_neg h]
theorem zrd {i : Int} (h : 0 <= i /\ i < ls.length) {q : Nat × Nat} (hq : p (ls.getD i.toNat []) = some q) : eB p ls s i = some (i.toNat, q.1) := by
 unfold eB; rw [eW, if_pos h, hq]
theorem zre {i : Int} (h : 0 <= i /\ i < ls.length) (hq : p (ls.getD i.toNat []) = none) (hs : s = 0) : eB p ls s i = none := by
 unfold eB; rw [eW, if_pos h, hq]; exact if_pos hs
theorem zrf {i : Int} (h : 0 <= i /\ i < ls.length) (hq : p (ls.getD i.toNat []) = none) (hs : s ≠ 0) : eB p ls s i = eB p ls s (i + gH s) := by
 unfold eB
 rw [<- zhg ls.length (i + gH s) (by have := tV (s := s) h; omega)]
 rw [eW, if_pos h, hq]; exact if_neg hs
theorem zhh : ∀ {k : Nat} {i : Int} {a b : Nat}, eW p ls s k i = some (a, b) -> a < ls.length /\ ∃ c, p (ls.getD a []) = some (b, c)
 | 0, i, a, b, h => by cases h
 | k + 1, i, a, b, h => by
   rw [eW] at h
   split at h
   ·rename_i hi
    split at h
    ·rename_i q hq
     cases h
     exact ⟨by omega, q.2, hq⟩
    ·split at h
     ·cases h
     ·exact zhh h
   ·cases h
end
section
variable (p : List Int -> Option (Nat × Nat)) (L : List Int)
end
def Inc (n : Nat) : Nat -> List (Nat × Nat) -> Prop
 | i, [] => i <= n
 | i, (a, b) :: ps => i <= a /\ a < b /\ Inc n b ps
theorem Inc.le {n : Nat} : ∀ {ps : List (Nat × Nat)} {i : Nat}, Inc n i ps -> i <= n
 | [], i, h => h
 | (a, b) :: ps, i, h => by have := h.2.2.le; have := h.1; have := h.2.1; omega
theorem Inc.len {n : Nat} : ∀ {ps : List (Nat × Nat)} {i : Nat}, Inc n i ps -> ps.length + i <= n
 | [], i, h => by have : i <= n := h; simpa using this
 | (a, b) :: ps, i, h => by have := h.2.2.len; have := h.1; have := h.2.1; rw [List.length_cons]; omega
section
variable {p : List Int -> Option (Nat × Nat)} {L : List Int}
end
end Go.Eng.Rows



namespace Go.Eng
open Go Go.Proofs
def zP (tc tg tj tf tp : PV) (M S : List (PV × PV)) (n f : Bool) (es : LL) (i j : Int) (n2 f2 : Bool) (ss : LL) (x2 : Int) : Env × Hp := ([(0, LV.pv (PV.ptr [tc, tg, tj, tf, tp, PV.mp M, PV.mp S])), (1, LV.pv (PV.sl n f es)), (2, Y6 x2), (3, LV.pv (PV.int i64 (if 1 < if j < -1 then -1 else j then 1 else if j < -1 then -1 else j))), (4, LV.pv (PV.sl n2 f2 ss))], [])
def zhi (tc tg tj tf tp : PV) (M S : List (PV × PV)) (n f : Bool) (es : LL) (i j : Int) (n2 f2 : Bool) (ss : LL) (J : Int -> Prop) (μ : Int -> Nat) (R : PV -> Prop) : Prop :=
 (aB (zP tc tg tj tf tp M S n f es i j n2 f2 ss i) /\ J i) /\ ∀ (x2 : Int), J x2 -> if (decide (x2 >= 0) && decide (x2 < (↑es.length : Int))) = true then aM es x2 1 /\ ∃ n1 f1 es1, (es.getD x2.toNat
 []).head? = some (PV.sl n1 f1 es1) /\ PCall Tryz.prog 136 [PV.ptr [tc, tg, tj, tf, tp, PV.mp M, PV.mp S], PV.sl n1 f1 es1, PV.sl n2 f2 ss] fun v => ∃ vs, v = PV.tup vs /\ vs.length = 3 /\ ∃ x, vs.head? = some x /\ ∃ (n3
 : Int), x = Z6 n3 /\ ∃ x1, vs.tail.head? = some x1 /\ ∃ n4, x1 = Z6 n4 /\ ∃ x3, vs.tail.tail.head? = some x3 /\ ∃ b, x3 = Zb b /\ if b = true then R (PV.tup [Z6 x2, Z6 n3, Zb true]) else if ((if (1 : Int) < if j <
 (-1 : Int) then (-1 : Int) else j then (1 : Int) else if j < (-1 : Int) then (-1 : Int) else j) == 0) = true then R (PV.tup [Z6 0, Z6 0, Zb false]) else aB (zP tc tg tj tf tp M S n f es i j n2 f2 ss (i64.wrap (x2 + if (1 :
 Int) < if j < (-1 : Int) then (-1 : Int) else j then (1 : Int) else if j < (-1 : Int) then (-1 : Int) else j))) /\ J (i64.wrap (x2 + if (1 : Int) < if j < (-1 : Int) then (-1 : Int) else j then (1 : Int) else if j < (-1 : Int) then
 (-1 : Int) else j)) /\ μ (i64.wrap (x2 + if (1 : Int) < if j < (-1 : Int) then (-1 : Int) else j then (1 : Int) else if j < (-1 : Int) then (-1 : Int) else j)) < μ x2 else R (PV.tup [Z6 0, Z6 0, Zb false])
theorem zrg (tc tg tj tf tp : PV) (M S : List (PV × PV)) (n f : Bool) (es : LL) (i j : Int) (n2 f2 : Bool) (ss : LL) (J : Int -> Prop) (μ : Int -> Nat) {R : PV -> Prop} (h : zhi tc tg tj tf tp M S n f es i j n2 f2 ss J μ R) : PCall Tryz.prog 103 [.ptr [tc, tg, tj, tf, tp, .mp M, .mp S], .sl n f es, .int .i64 i, .int .i64 j, .sl n2 f2 ss] R :=
 PCall.of Tryz.func103 (by kernel_rfl) (by kernel_rfl) (zl (by kernel_rfl)) (Eq.mpr (by kernel_rfl : aT Tryz.prog (fun _ => none) Tryz.f103 [0, 1, 2, 3, 4, 10, 11, 12, 13, 15, 26, 38, 42] (fun zz_ => match zz_ with | 2 => some ⟨Int × Unit, fun s => zP tc tg tj tf tp M S n f es i j n2 f2 ss s.1, fun _ s => J s.1, fun s => μ s.1, fun e h => (((gI e 2), ())), [], [0, 1, 2, 3, 4], [], fun p => ∀ (x2 : Int), p (x2, ()), fun p h s => h s.1⟩ | _ => none) (Tryz.f103.body.getD .skip) [.ptr [tc, tg, tj, tf, tp, .mp M, .mp S], .sl n f es, .int .i64 i, .int .i64 j, .sl n2 f2 ss] R = _) h)

end Go.Eng



namespace Go.Eng
open Go Go.Proofs Go.Eng.Rows Go.Eng.Trie Go.Eng.Srt
def cY (p : Bool × Bool × List Int) : List PV := [.sl p.1 p.2.1 (aA p.2.2)]
def cR (ls : List (Bool × Bool × List Int)) : List (List Int) := ls.map fun p => p.2.2
def jT (rows : List Row) (P l : List Int) : Option (Nat × Nat) := findL rows l (bN rows P)
def zrh : Option (Nat × Nat) -> PV
 | some (a, b) => .tup [.int .i64 a, .int .i64 b, .bool true]
 | none => .tup [.int .i64 0, .int .i64 0, .bool false]
theorem nM (ls : List (Bool × Bool × List Int)) : (cR ls).length = ls.length := by simp [cR]
theorem zhj {ls : List (Bool × Bool × List Int)} {i : Nat} (h : i < ls.length) : (cR ls).getD i [] = ls[i].2.2 := by
 unfold cR
 rw [List.getD, List.getElem?_map, List.getElem?_eq_getElem h]; rfl
theorem zQ {ls : List (Bool × Bool × List Int)} {i : Int} (h0 : 0 <= i) (h : i.toNat < ls.length) : aM (ls.map cY) i 1 /\ (ls.map cY).getD i.toNat [] = cY ls[i.toNat] :=
 ⟨bK (enc := cY) (fun _ => rfl) h0 (by omega), bX h⟩
structure iS (ls : List (Bool × Bool × List Int)) : Prop where
 n : ls.length < 100000
 r : ∀ q ∈ ls, R32 q.2.2
 l : ∀ q ∈ ls, q.2.2.length < 100000
section
variable {rows : List Row} {v : PV}
theorem zri (j : Int) : (j = 0 /\ (if (1 : Int) < (if j < (-1 : Int) then (-1 : Int) else j) then (1 : Int) else if j < (-1 : Int) then (-1 : Int) else j) = 0) ∨ (j ≠ 0 /\ (if (1 : Int) < (if j < (-1 : Int) then (-1 : Int) else j) then (1 : Int) else if j < (-1 : Int) then (-1 : Int) else j) = gH j) := by
 unfold gH
 by_cases h0 : j = 0
 ·subst h0; exact .inl ⟨rfl, rfl⟩
 ·refine .inr ⟨h0, ?_⟩
  split <;> split <;> split <;> omega
theorem zrj (hp : cK rows) (hk : c6 rows) (hv : eV rows v) (n f n2 f2 : Bool) (ls : List (Bool × Bool × List Int)) (hls : iS ls) (P : List Int) (hr2 : R32 P) (hL2 : P.length < 1000000) (i j : Int) :
 PCall Tryz.prog 103 [v, .sl n f (ls.map cY), .int .i64 i, .int .i64 j, .sl n2 f2 (aA P)] fun x => x = zrh (eB (jT rows P) (cR ls) j i) := by
 have hv' := hv
 obtain ⟨tc, tg, tj, tf, tp, made, sec, rfl, ht, hm⟩ := hv
 refine zrg _ _ _ _ _ _ _ _ _ _ _ _ _ _ _ (fun x => eB (jT rows P) (cR ls) j x = eB (jT rows P) (cR ls) j i) (fun x => nL (cR ls).length j x) ?_
 unfold zhi
 refine ⟨⟨rfl, rfl⟩, ?_⟩
 intro x hx
 rw [<- hx]
 have hc := zri j
 generalize (if (1 : Int) < (if j < (-1 : Int) then (-1 : Int) else j) then (1 : Int) else if j < (-1 : Int) then (-1 : Int) else j) = c at *
 refine aF (fun h1 => ?_) (fun h1 => ?_)
 ·simp only [Bool.and_eq_true, decide_eq_true_eq, List.length_map, ge_iff_le] at h1
  have hi : x.toNat < ls.length := by omega
  have hin : 0 <= x /\ x < ((cR ls).length : Int) := by rw [nM]; omega
  have hn := hls.n
  obtain ⟨g1, g2⟩ := zQ h1.1 hi
  refine ⟨g1, _, _, _, by rw [g2]; rfl, ?_⟩
  refine (zra hp hk hv' _ _ n2 f2 ls[x.toNat].2.2 P (hls.r _ (List.getElem_mem hi)) (hls.l _ (List.getElem_mem hi)) hr2 hL2).mono ?_
  rintro _ rfl
  have hg := zhj hi
  cases hq : findL rows ls[x.toNat].2.2 (bN rows P) with
  | some q =>
    obtain ⟨a, b⟩ := q
    refine ⟨_, rfl, rfl, _, rfl, _, rfl, _, rfl, _, rfl, _, rfl, _, rfl, bB rfl ?_⟩
    rw [zrd hin (q := (a, b)) (by rw [hg]; exact hq)]
    show PV.tup _ = PV.tup [.int .i64 (x.toNat : Int), _, _]
    rw [show (x.toNat : Int) = x by omega]
  | none =>
    refine ⟨_, rfl, rfl, _, rfl, _, rfl, _, rfl, _, rfl, _, rfl, _, rfl, bA (by simp) ?_⟩
    rcases hc with ⟨h2, rfl⟩ | ⟨h2, rfl⟩
    ·refine bB rfl ?_
     rw [zre hin (by rw [hg]; exact hq) h2]; rfl
    ·have hs : gH j = 1 ∨ gH j = -1 := by unfold gH; split <;> omega
     have hw : i64.wrap (x + gH j) = x + gH j := aD (by omega) (by omega)
     rw [hw]
     refine bA (by rcases hs with e | e <;> rw [e] <;> decide) ⟨rfl, ?_, (tV hin).1⟩
     exact (zrf hin (by rw [hg]; exact hq) h2).symm
 ·simp only [Bool.and_eq_true, decide_eq_true_eq, List.length_map, ge_iff_le] at h1
  rw [zrc (by rw [nM]; omega)]; rfl
end
theorem w22 : Tryz.prog.underlying 22 = some (.slice 23) := by kernel_rfl
theorem zrk {v : PV} (h : jH Tryz.prog 8 22 v) : ∃ (nl : Bool) (ls : List (Bool × Bool × List Int)), v = .sl nl false (ls.map cY) /\ ∀ q ∈ ls, R32 q.2.2 := by
 obtain ⟨nl, es, e, _, _, h3⟩ := wB w22 (sG (by kernel_rfl) h)
 cases e
 obtain ⟨m, rfl, hm⟩ := sF (f := cY) (Q := fun q => R32 q.2.2) (l := es) fun x hx => by
  obtain ⟨nl, l, e, _, _, hr⟩ := zk1 v22 v21 (h3 x hx)
  exact ⟨(nl, false, l), e, hr⟩
 exact ⟨nl, m, rfl, hm⟩
end Go.Eng



namespace Go.Eng
open Go Go.Proofs
def zhk (sb : Bool) (sa sp : Int) (R : PV -> Prop) : Prop :=
 R (PV.agg [Zb sb, PV.sl true true [], Z6 sa, Z6 sp, Zb false, Z6 sa, Z6 sp])
theorem zrl (sb : Bool) (sa sp : Int) {R : PV -> Prop} (h : zhk sb sa sp R) : PCall Tryz.prog 18 [.bool sb, .int .i64 sa, .int .i64 sp] R :=
 PCall.of Tryz.func18 (by kernel_rfl) (by kernel_rfl) (zl (by kernel_rfl)) (Eq.mpr (by kernel_rfl : aT Tryz.prog (fun _ => none) Tryz.f18 [0, 1, 2, 6] (fun _ => none) (Tryz.f18.body.getD .skip) [.bool sb, .int .i64 sa, .int .i64 sp] R = _) h)

def zhl (sb : Bool) (n f : Bool) (es : LL) (sa sp : Int) (sf : Bool) (ha hp : Int) (R : PV -> Prop) : Prop :=
 if sb = true then R (Z6 1) else R (Z6 (-1 : Int))
theorem zrm (sb : Bool) (n f : Bool) (es : LL) (sa sp : Int) (sf : Bool) (ha hp : Int) {R : PV -> Prop} (h : zhl sb n f es sa sp sf ha hp R) : PCall Tryz.prog 87 [.agg [.bool sb, .sl n f es, .int .i64 sa, .int .i64 sp, .bool sf, .int .i64 ha, .int .i64 hp]] R :=
 PCall.of Tryz.func87 (by kernel_rfl) (by kernel_rfl) (zl (by kernel_rfl)) (Eq.mpr (by kernel_rfl : aT Tryz.prog (fun _ => none) Tryz.f87 [0, 1, 2, 4] (fun _ => none) (Tryz.f87.body.getD .skip) [.agg [.bool sb, .sl n f es, .int .i64 sa, .int .i64 sp, .bool sf, .int .i64 ha, .int .i64 hp]] R = _) h)

def zhm (sb : Bool) (n f : Bool) (es : LL) (sa sp : Int) (sf : Bool) (ha hp : Int) (tc tg tj tf tp : PV) (M S : List (PV × PV)) (n2 f2 : Bool) (ss : LL) (k : Int) (R : PV -> Prop) : Prop :=
 PCall Tryz.prog 87 [PV.agg [Zb sb, PV.sl n f es, Z6 sa, Z6 sp, Zb sf, Z6 ha, Z6 hp]] fun v => ∃ n1, v = Z6 n1 /\ PCall Tryz.prog 103 [PV.ptr [tc, tg, tj, tf, tp, PV.mp M, PV.mp S], PV.sl n2 f2 ss, Z6 k, Z6 n1, PV.sl n f es] fun
 (v1 : PV) => ∃ vs, v1 = PV.tup vs /\ vs.length = 3 /\ ∃ x, vs.head? = some x /\ ∃ n3, x = Z6 n3 /\ ∃ x1, vs.tail.head? = some x1 /\ ∃ n4, x1 = Z6 n4 /\ ∃ x2, vs.tail.tail.head? = some x2 /\ ∃ (b :
 Bool), x2 = Zb b /\ if b = true then R (PV.agg [Zb sb, PV.sl n f es, Z6 n3, Z6 n4, Zb !b, Z6 ha, Z6 hp]) else R (PV.agg [Zb sb, PV.sl n f es, Z6 sa, Z6 sp, Zb !b, Z6 ha, Z6 hp])
theorem zrn (sb : Bool) (n f : Bool) (es : LL) (sa sp : Int) (sf : Bool) (ha hp : Int) (tc tg tj tf tp : PV) (M S : List (PV × PV)) (n2 f2 : Bool) (ss : LL) (k : Int) {R : PV -> Prop} (h : zhm sb n f es sa sp sf ha hp tc tg tj tf tp M S n2 f2 ss k R) : PCall Tryz.prog 64 [.agg [.bool sb, .sl n f es, .int .i64 sa, .int .i64 sp, .bool sf, .int .i64 ha, .int .i64 hp], .ptr [tc, tg, tj, tf, tp, .mp M, .mp S], .sl n2 f2 ss, .int .i64 k] R :=
 PCall.of Tryz.func64 (by kernel_rfl) (by kernel_rfl) (zl (by kernel_rfl)) (Eq.mpr (by kernel_rfl : aT Tryz.prog (fun _ => none) Tryz.f64 [0, 1, 2, 3, 4, 8, 9, 10, 11, 27] (fun _ => none) (Tryz.f64.body.getD .skip) [.agg [.bool sb, .sl n f es, .int .i64 sa, .int .i64 sp, .bool sf, .int .i64 ha, .int .i64 hp], .ptr [tc, tg, tj, tf, tp, .mp M, .mp S], .sl n2 f2 ss, .int .i64 k] R = _) h)

def zhn (sb : Bool) (n f : Bool) (es : LL) (sa sp : Int) (sf : Bool) (ha hp : Int) (tc tg tj tf tp : PV) (M S : List (PV × PV)) (n2 f2 : Bool) (ss : LL) (k : Int) (R : PV -> Prop) : Prop :=
 ACall Tryz.prog 63 [LV.pv (PV.sl n f es)] [] fun (r : LV) (h' : Hp) => ∃ (t : Bool), (r = LV.own 0 /\ h' = [Ob.sl (21, 1) false n es]) /\ True /\ (aR [[Z3 k]] 1 /\ (es.length + 1) * 4 <= (140737488355328 : Nat)) /\ PCall Tryz.prog 64 [PV.agg [Zb
 sb, PV.sl (n && false) false (es ++ [[Z3 k]]), Z6 sa, Z6 sp, Zb sf, Z6 ha, Z6 hp], PV.ptr [tc, tg, tj, tf, tp, PV.mp M, PV.mp S], PV.sl n2 f2 ss, Z6 sa] fun v => ∃ cs, v = PV.agg cs /\ cs.length = 7 /\ ∃ b, cs.head?
 = some (Zb b) /\ ∃ n1 f1 es1, cs.tail.head? = some (PV.sl n1 f1 es1) /\ ∃ n3, cs.tail.tail.head? = some (Z6 n3) /\ ∃ n4, cs.tail.tail.tail.head? = some (Z6 n4) /\ ∃ (b1 : Bool),
 cs.tail.tail.tail.tail.head? = some (Zb b1) /\ ∃ n5, cs.tail.tail.tail.tail.tail.head? = some (Z6 n5) /\ ∃ n6, cs.tail.tail.tail.tail.tail.tail.head? = some (Z6 n6) /\ R (PV.agg [Zb b, PV.sl n1 f1 es1, Z6 n3, Z6 n4, Zb b1, Z6
 n5, Z6 n6])
theorem zro (sb : Bool) (n f : Bool) (es : LL) (sa sp : Int) (sf : Bool) (ha hp : Int) (tc tg tj tf tp : PV) (M S : List (PV × PV)) (n2 f2 : Bool) (ss : LL) (k : Int) {R : PV -> Prop} (h : zhn sb n f es sa sp sf ha hp tc tg tj tf tp M S n2 f2 ss k R) : PCall Tryz.prog 19 [.agg [.bool sb, .sl n f es, .int .i64 sa, .int .i64 sp, .bool sf, .int .i64 ha, .int .i64 hp], .ptr [tc, tg, tj, tf, tp, .mp M, .mp S], .sl n2 f2 ss, .int .i32 k] R :=
 PCall.of Tryz.func19 (by kernel_rfl) (by kernel_rfl) (zl (by kernel_rfl)) (Eq.mpr (by kernel_rfl : aT Tryz.prog (fun zz_ => match zz_ with | 63 => some ⟨Bool, fun vs hs _ => (.own hs.length, hs ++ (match vs with | [.pv (.sl nl _ es)] => [.sl (21, 1) false nl es] | _ => [])), none⟩ | _ => none) Tryz.f19 [0, 1, 2, 3, 4, 8] (fun _ => none) (Tryz.f19.body.getD .skip) [.agg [.bool sb, .sl n f es, .int .i64 sa, .int .i64 sp, .bool sf, .int .i64 ha, .int .i64 hp], .ptr [tc, tg, tj, tf, tp, .mp M, .mp S], .sl n2 f2 ss, .int .i32 k] R = _) h)

def zho (sb : Bool) (n f : Bool) (es : LL) (sa sp : Int) (sf : Bool) (ha hp : Int) (tc tg tj tf tp : PV) (M S : List (PV × PV)) (n2 f2 : Bool) (ss : LL) (R : PV -> Prop) : Prop :=
 (dK es.length none (some (if i64.wrap ((↑es.length : Int) - 1) < 0 then (0 : Int) else i64.wrap ((↑es.length : Int) - 1))) none /\ aR es 1) /\ ACall Tryz.prog 63 [LV.pv (PV.sl n (f && decide ((if i64.wrap
 ((↑es.length : Int) - 1) < 0 then (0 : Int) else i64.wrap ((↑es.length : Int) - 1)) = (↑es.length : Int))) (List.drop 0 (List.take (if i64.wrap ((↑es.length : Int) - 1) < 0 then (0 : Int) else i64.wrap ((↑es.length :
 Int) - 1)).toNat es)))] [] fun (r : LV) (h' : Hp) => ∃ (t : Bool), (r = LV.own 0 /\ h' = [Ob.sl (21, 1) false n (List.drop 0 (List.take (if i64.wrap ((↑es.length : Int) - 1) < 0 then (0 : Int) else i64.wrap ((↑es.length : Int)
 - 1)).toNat es))]) /\ True /\ if ((↑(List.drop 0 (List.take (if i64.wrap ((↑es.length : Int) - 1) < 0 then (0 : Int) else i64.wrap ((↑es.length : Int) - 1)).toNat es)).length : Int) == 0) = true then R (PV.agg [Zb sb, PV.sl n
 false (List.drop 0 (List.take (if i64.wrap ((↑es.length : Int) - 1) < 0 then (0 : Int) else i64.wrap ((↑es.length : Int) - 1)).toNat es)), Z6 ha, Z6 hp, Zb false, Z6 ha, Z6 hp]) else PCall Tryz.prog 64 [PV.agg [Zb sb, PV.sl
 n false (List.drop 0 (List.take (if i64.wrap ((↑es.length : Int) - 1) < 0 then (0 : Int) else i64.wrap ((↑es.length : Int) - 1)).toNat es)), Z6 ha, Z6 hp, Zb false, Z6 ha, Z6 hp], PV.ptr [tc, tg, tj, tf, tp, PV.mp M, PV.mp
 S], PV.sl n2 f2 ss, Z6 ha] fun v => ∃ cs, v = PV.agg cs /\ cs.length = 7 /\ ∃ b, cs.head? = some (Zb b) /\ ∃ n1 f1 es1, cs.tail.head? = some (PV.sl n1 f1 es1) /\ ∃ (n3 : Int),
 cs.tail.tail.head? = some (Z6 n3) /\ ∃ n4, cs.tail.tail.tail.head? = some (Z6 n4) /\ ∃ b1, cs.tail.tail.tail.tail.head? = some (Zb b1) /\ ∃ n5, cs.tail.tail.tail.tail.tail.head? = some (Z6 n5) /\ ∃ (n6 : Int),
 cs.tail.tail.tail.tail.tail.tail.head? = some (Z6 n6) /\ R (PV.agg [Zb b, PV.sl n1 f1 es1, Z6 n3, Z6 n4, Zb b1, Z6 n5, Z6 n6])
theorem zrp (sb : Bool) (n f : Bool) (es : LL) (sa sp : Int) (sf : Bool) (ha hp : Int) (tc tg tj tf tp : PV) (M S : List (PV × PV)) (n2 f2 : Bool) (ss : LL) {R : PV -> Prop} (h : zho sb n f es sa sp sf ha hp tc tg tj tf tp M S n2 f2 ss R) : PCall Tryz.prog 66 [.agg [.bool sb, .sl n f es, .int .i64 sa, .int .i64 sp, .bool sf, .int .i64 ha, .int .i64 hp], .ptr [tc, tg, tj, tf, tp, .mp M, .mp S], .sl n2 f2 ss] R :=
 PCall.of Tryz.func66 (by kernel_rfl) (by kernel_rfl) (zl (by kernel_rfl)) (Eq.mpr (by kernel_rfl : aT Tryz.prog (fun zz_ => match zz_ with | 63 => some ⟨Bool, fun vs hs _ => (.own hs.length, hs ++ (match vs with | [.pv (.sl nl _ es)] => [.sl (21, 1) false nl es] | _ => [])), none⟩ | _ => none) Tryz.f66 [0, 1, 2, 3, 6, 7, 29] (fun _ => none) (Tryz.f66.body.getD .skip) [.agg [.bool sb, .sl n f es, .int .i64 sa, .int .i64 sp, .bool sf, .int .i64 ha, .int .i64 hp], .ptr [tc, tg, tj, tf, tp, .mp M, .mp S], .sl n2 f2 ss] R = _) h)

def zhp (sb : Bool) (n f : Bool) (es : LL) (sa sp : Int) (sf : Bool) (ha hp : Int) (tc tg tj tf tp : PV) (M S : List (PV × PV)) (n2 f2 : Bool) (ss : LL) (k : Bool) (R : PV -> Prop) : Prop :=
 if ((↑es.length : Int) == 0) = true then R (PV.agg [Zb k, PV.sl n f es, Z6 sa, Z6 sp, Zb false, Z6 ha, Z6 hp]) else PCall Tryz.prog 87 [PV.agg [Zb k, PV.sl n f es, Z6 sa, Z6 sp, Zb sf, Z6 ha, Z6 hp]] fun v => ∃ n1, v = Z6 n1 /\
 PCall Tryz.prog 64 [PV.agg [Zb k, PV.sl n f es, Z6 sa, Z6 sp, Zb sf, Z6 ha, Z6 hp], PV.ptr [tc, tg, tj, tf, tp, PV.mp M, PV.mp S], PV.sl n2 f2 ss, Z6 (i64.wrap (sa + n1))] fun v1 => ∃ cs, v1 = PV.agg cs /\ cs.length
 = 7 /\ ∃ b, cs.head? = some (Zb b) /\ ∃ n3 f1 es1, cs.tail.head? = some (PV.sl n3 f1 es1) /\ ∃ n4, cs.tail.tail.head? = some (Z6 n4) /\ ∃ n5, cs.tail.tail.tail.head? = some (Z6 n5) /\ ∃ (b1
 : Bool), cs.tail.tail.tail.tail.head? = some (Zb b1) /\ ∃ n6, cs.tail.tail.tail.tail.tail.head? = some (Z6 n6) /\ ∃ n7, cs.tail.tail.tail.tail.tail.tail.head? = some (Z6 n7) /\ R (PV.agg [Zb b, PV.sl n3 f1 es1, Z6 n4, Z6 n5, Zb
 b1, Z6 n6, Z6 n7])
theorem zrq (sb : Bool) (n f : Bool) (es : LL) (sa sp : Int) (sf : Bool) (ha hp : Int) (tc tg tj tf tp : PV) (M S : List (PV × PV)) (n2 f2 : Bool) (ss : LL) (k : Bool) {R : PV -> Prop} (h : zhp sb n f es sa sp sf ha hp tc tg tj tf tp M S n2 f2 ss k R) : PCall Tryz.prog 48 [.agg [.bool sb, .sl n f es, .int .i64 sa, .int .i64 sp, .bool sf, .int .i64 ha, .int .i64 hp], .ptr [tc, tg, tj, tf, tp, .mp M, .mp S], .sl n2 f2 ss, .bool k] R :=
 PCall.of Tryz.func48 (by kernel_rfl) (by kernel_rfl) (zl (by kernel_rfl)) (Eq.mpr (by kernel_rfl : aT Tryz.prog (fun _ => none) Tryz.f48 [0, 1, 2, 3, 4, 8, 14] (fun _ => none) (Tryz.f48.body.getD .skip) [.agg [.bool sb, .sl n f es, .int .i64 sa, .int .i64 sp, .bool sf, .int .i64 ha, .int .i64 hp], .ptr [tc, tg, tj, tf, tp, .mp M, .mp S], .sl n2 f2 ss, .bool k] R = _) h)

def zR  (R : PV -> Prop) : Prop :=
 PCall Tryz.prog 16 [] fun v => ∃ n f es, v = PV.sl n f es /\ PCall Tryz.prog 17 [PV.sl n f es] fun v1 => PCall Tryz.prog 18 [Zb true, Z6 0, Z6 0] fun v2 => ∃ cs, v2 = PV.agg cs /\
 cs.length = 7 /\ ∃ b, cs.head? = some (Zb b) /\ ∃ n1 f1 es1, cs.tail.head? = some (PV.sl n1 f1 es1) /\ ∃ n2, cs.tail.tail.head? = some (Z6 n2) /\ ∃ n3, cs.tail.tail.tail.head? = some (Z6
 n3) /\ ∃ b1, cs.tail.tail.tail.tail.head? = some (Zb b1) /\ ∃ n4, cs.tail.tail.tail.tail.tail.head? = some (Z6 n4) /\ ∃ n5, cs.tail.tail.tail.tail.tail.tail.head? = some (Z6 n5) /\ PCall Tryz.prog 19 [PV.agg [Zb b,
 PV.sl n1 f1 es1, Z6 n2, Z6 n3, Zb b1, Z6 n4, Z6 n5], v1, PV.sl false true [[PV.sl true true []], [PV.sl false true [[Z3 99], [Z3 97], [Z3 98]]], [PV.sl false true [[Z3 97], [Z3 98], [Z3 99]]]], Z3 97] fun v3 => ∃ cs1, v3 =
 PV.agg cs1 /\ cs1.length = 7 /\ ∃ b2, cs1.head? = some (Zb b2) /\ ∃ n6 f2 es2, cs1.tail.head? = some (PV.sl n6 f2 es2) /\ ∃ n7, cs1.tail.tail.head? = some (Z6 n7) /\ ∃ (n8 : Int),
 cs1.tail.tail.tail.head? = some (Z6 n8) /\ ∃ b3, cs1.tail.tail.tail.tail.head? = some (Zb b3) /\ ∃ n9, cs1.tail.tail.tail.tail.tail.head? = some (Z6 n9) /\ ∃ n10, cs1.tail.tail.tail.tail.tail.tail.head? = some (Z6 n10)
 /\ PCall Tryz.prog 48 [PV.agg [Zb b2, PV.sl n6 f2 es2, Z6 n7, Z6 n8, Zb b3, Z6 n9, Z6 n10], v1, PV.sl false true [[PV.sl true true []], [PV.sl false true [[Z3 99], [Z3 97], [Z3 98]]], [PV.sl false true [[Z3 97], [Z3 98], [Z3 99]]]], Zb true]
 fun v4 => ∃ cs2, v4 = PV.agg cs2 /\ cs2.length = 7 /\ ∃ b4, cs2.head? = some (Zb b4) /\ ∃ n11 f3 es3, cs2.tail.head? = some (PV.sl n11 f3 es3) /\ ∃ n12, cs2.tail.tail.head? =
 some (Z6 n12) /\ ∃ n13, cs2.tail.tail.tail.head? = some (Z6 n13) /\ ∃ b5, cs2.tail.tail.tail.tail.head? = some (Zb b5) /\ ∃ n14, cs2.tail.tail.tail.tail.tail.head? = some (Z6 n14) /\ ∃ (n15 : Int),
 cs2.tail.tail.tail.tail.tail.tail.head? = some (Z6 n15) /\ PCall Tryz.prog 48 [PV.agg [Zb b4, PV.sl n11 f3 es3, Z6 n12, Z6 n13, Zb b5, Z6 n14, Z6 n15], v1, PV.sl false true [[PV.sl true true []], [PV.sl false true [[Z3 99], [Z3 97], [Z3
 98]]], [PV.sl false true [[Z3 97], [Z3 98], [Z3 99]]]], Zb true] fun v5 => ∃ cs3, v5 = PV.agg cs3 /\ cs3.length = 7 /\ ∃ b6, cs3.head? = some (Zb b6) /\ ∃ n16 f4 es4, cs3.tail.head? =
 some (PV.sl n16 f4 es4) /\ ∃ n17, cs3.tail.tail.head? = some (Z6 n17) /\ ∃ n18, cs3.tail.tail.tail.head? = some (Z6 n18) /\ ∃ b7, cs3.tail.tail.tail.tail.head? = some (Zb b7) /\ ∃ (n19 : Int),
 cs3.tail.tail.tail.tail.tail.head? = some (Z6 n19) /\ ∃ n20, cs3.tail.tail.tail.tail.tail.tail.head? = some (Z6 n20) /\ if (n7 == 1) = true then if (n8 == 1) = true then if (n12 == 2) = true then if (n13 == 0) = true then if (n17 ==
 2) = true then if b7 = true then R (Zb !b5) else R (Zb false) else R (Zb false) else R (Zb false) else R (Zb false) else R (Zb false) else R (Zb false)
theorem zrr  {R : PV -> Prop} (h : zR  R) : PCall Tryz.prog 15 [] R :=
 PCall.of Tryz.func15 (by kernel_rfl) (by kernel_rfl) (zl (by kernel_rfl)) (Eq.mpr (by kernel_rfl : aT Tryz.prog (fun _ => none) Tryz.f15 [0, 1, 2, 3, 4, 5] (fun _ => none) (Tryz.f15.body.getD .skip) [] R = zR  R) h)

def zS (n f : Bool) (es : LL) (x4 : Int) (n_0 : Bool) (s_0 : LL) : Env × Hp := ([(0, LV.pv (PV.sl n f es)), (3, LV.own 0), (4, Y6 x4)], [.sl (23, 1) true n_0 s_0])
def zhq (n f : Bool) (es : LL) (J : Int -> Bool -> LL -> Prop) (μ : Int -> Bool -> LL -> Nat) (R : PV -> Prop) : Prop :=
 (aB (zS n f es (0 : Int) true []) /\ J (0 : Int) true []) /\ ∀ (x4 : Int) (n_0 : Bool) (s_0 : LL), J x4 n_0 s_0 -> if (decide (x4 < (↑es.length : Int)) && decide (x4 < 6)) = true then aM es x4 1 /\ ∃ n1 f1, ∃ (es1
 : LL), (es.getD x4.toNat []).head? = some (PV.sl n1 f1 es1) /\ PCall Tryz.prog 14 [PV.sl n1 f1 es1, Z6 8] fun v => ∃ n2 f2 es2, v = PV.sl n2 f2 es2 /\ (aR [[PV.sl n2 f2 es2]] 1 /\ (s_0.length + 1) * 24 <=
 140737488355328) /\ aB (zS n f es (i64.wrap (x4 + 1)) (n_0 && false) (s_0 ++ [[PV.sl n2 f2 es2]])) /\ J (i64.wrap (x4 + 1)) (n_0 && false) (s_0 ++ [[PV.sl n2 f2 es2]]) /\ μ (i64.wrap (x4 + 1)) (n_0 && false) (s_0
 ++ [[PV.sl n2 f2 es2]]) < μ x4 n_0 s_0 else R (PV.sl n_0 false s_0)
theorem zrs (n f : Bool) (es : LL) (J : Int -> Bool -> LL -> Prop) (μ : Int -> Bool -> LL -> Nat) {R : PV -> Prop} (h : zhq n f es J μ R) : PCall Tryz.prog 13 [.sl n f es] R :=
 PCall.of Tryz.func13 (by kernel_rfl) (by kernel_rfl) (zl (by kernel_rfl)) (Eq.mpr (by kernel_rfl : aT Tryz.prog (fun _ => none) Tryz.f13 [0, 2, 3, 4, 12] (fun zz_ => match zz_ with | 3 => some ⟨Int × Bool × LL, fun s => zS n f es s.1 s.2.1 s.2.2, fun _ s => J s.1 s.2.1 s.2.2, fun s => μ s.1 s.2.1 s.2.2, fun e h => (gI e 4, oN h 0, oS h 0), [(3, 23, 1)], [0, 3, 4], [], fun p => ∀ (x4 : Int) (n_0 : Bool) (s_0 : LL), p (x4, n_0, s_0), fun p h s => h s.1 s.2.1 s.2.2⟩ | _ => none) (Tryz.f13.body.getD .skip) [.sl n f es] R = _) h)

def zhr (sb : Bool) (n f : Bool) (es : LL) (sa sp : Int) (sf : Bool) (ha hp : Int) (tc tg tj tf tp : PV) (M S : List (PV × PV)) (n2 f2 : Bool) (ss : LL) (k r : Int) (R : PV -> Prop) : Prop :=
 if (k == 0) = true then if (k == 0) = true then PCall Tryz.prog 19 [PV.agg [Zb sb, PV.sl n f es, Z6 sa, Z6 sp, Zb sf, Z6 ha, Z6 hp], PV.ptr [tc, tg, tj, tf, tp, PV.mp M, PV.mp S], PV.sl n2 f2 ss, Z3 r] fun v => ∃ cs, v =
 PV.agg cs /\ cs.length = 7 /\ ∃ b, cs.head? = some (Zb b) /\ ∃ n1 f1 es1, cs.tail.head? = some (PV.sl n1 f1 es1) /\ ∃ n3, cs.tail.tail.head? = some (Z6 n3) /\ ∃ n4, cs.tail.tail.tail.head?
 = some (Z6 n4) /\ ∃ b1, cs.tail.tail.tail.tail.head? = some (Zb b1) /\ ∃ n5, cs.tail.tail.tail.tail.tail.head? = some (Z6 n5) /\ ∃ n6, cs.tail.tail.tail.tail.tail.tail.head? = some (Z6 n6) /\ R (PV.agg [Zb b, PV.sl n1
 f1 es1, Z6 n3, Z6 n4, Zb b1, Z6 n5, Z6 n6]) else if (k == 4) = true then PCall Tryz.prog 66 [PV.agg [Zb sb, PV.sl n f es, Z6 sa, Z6 sp, Zb sf, Z6 ha, Z6 hp], PV.ptr [tc, tg, tj, tf, tp, PV.mp M, PV.mp S], PV.sl n2 f2 ss] fun v => ∃
 (cs : List PV), v = PV.agg cs /\ cs.length = 7 /\ ∃ b, cs.head? = some (Zb b) /\ ∃ n1 f1 es1, cs.tail.head? = some (PV.sl n1 f1 es1) /\ ∃ n3, cs.tail.tail.head? = some (Z6 n3) /\ ∃ (n4 : Int),
 cs.tail.tail.tail.head? = some (Z6 n4) /\ ∃ b1, cs.tail.tail.tail.tail.head? = some (Zb b1) /\ ∃ n5, cs.tail.tail.tail.tail.tail.head? = some (Z6 n5) /\ ∃ n6, cs.tail.tail.tail.tail.tail.tail.head? = some (Z6 n6) /\ R
 (PV.agg [Zb b, PV.sl n1 f1 es1, Z6 n3, Z6 n4, Zb b1, Z6 n5, Z6 n6]) else if (k == 5) = true then PCall Tryz.prog 48 [PV.agg [Zb sb, PV.sl n f es, Z6 sa, Z6 sp, Zb sf, Z6 ha, Z6 hp], PV.ptr [tc, tg, tj, tf, tp, PV.mp M, PV.mp S], PV.sl n2 f2
 ss, Zb true] fun v => ∃ cs, v = PV.agg cs /\ cs.length = 7 /\ ∃ b, cs.head? = some (Zb b) /\ ∃ n1 f1 es1, cs.tail.head? = some (PV.sl n1 f1 es1) /\ ∃ n3, cs.tail.tail.head? =
 some (Z6 n3) /\ ∃ n4, cs.tail.tail.tail.head? = some (Z6 n4) /\ ∃ b1, cs.tail.tail.tail.tail.head? = some (Zb b1) /\ ∃ n5, cs.tail.tail.tail.tail.tail.head? = some (Z6 n5) /\ ∃ (n6 : Int),
 cs.tail.tail.tail.tail.tail.tail.head? = some (Z6 n6) /\ R (PV.agg [Zb b, PV.sl n1 f1 es1, Z6 n3, Z6 n4, Zb b1, Z6 n5, Z6 n6]) else PCall Tryz.prog 48 [PV.agg [Zb sb, PV.sl n f es, Z6 sa, Z6 sp, Zb sf, Z6 ha, Z6 hp], PV.ptr [tc, tg, tj, tf,
 tp, PV.mp M, PV.mp S], PV.sl n2 f2 ss, Zb false] fun v => ∃ cs, v = PV.agg cs /\ cs.length = 7 /\ ∃ b, cs.head? = some (Zb b) /\ ∃ n1 f1 es1, cs.tail.head? = some (PV.sl n1 f1 es1) /\ ∃
 (n3 : Int), cs.tail.tail.head? = some (Z6 n3) /\ ∃ n4, cs.tail.tail.tail.head? = some (Z6 n4) /\ ∃ b1, cs.tail.tail.tail.tail.head? = some (Zb b1) /\ ∃ n5, cs.tail.tail.tail.tail.tail.head? = some (Z6 n5) /\ ∃ (n6 :
 Int), cs.tail.tail.tail.tail.tail.tail.head? = some (Z6 n6) /\ R (PV.agg [Zb b, PV.sl n1 f1 es1, Z6 n3, Z6 n4, Zb b1, Z6 n5, Z6 n6]) else if (k == 1) = true then if (k == 1) = true then PCall Tryz.prog 19 [PV.agg [Zb sb, PV.sl n f es, Z6 sa,
 Z6 sp, Zb sf, Z6 ha, Z6 hp], PV.ptr [tc, tg, tj, tf, tp, PV.mp M, PV.mp S], PV.sl n2 f2 ss, Z3 r] fun v => ∃ cs, v = PV.agg cs /\ cs.length = 7 /\ ∃ b, cs.head? = some (Zb b) /\ ∃ n1 f1, ∃ (es1 :
 LL), cs.tail.head? = some (PV.sl n1 f1 es1) /\ ∃ n3, cs.tail.tail.head? = some (Z6 n3) /\ ∃ n4, cs.tail.tail.tail.head? = some (Z6 n4) /\ ∃ b1, cs.tail.tail.tail.tail.head? = some (Zb b1) /\ ∃ (n5 : Int),
 cs.tail.tail.tail.tail.tail.head? = some (Z6 n5) /\ ∃ n6, cs.tail.tail.tail.tail.tail.tail.head? = some (Z6 n6) /\ R (PV.agg [Zb b, PV.sl n1 f1 es1, Z6 n3, Z6 n4, Zb b1, Z6 n5, Z6 n6]) else if (k == 4) = true then PCall Tryz.prog 66
 [PV.agg [Zb sb, PV.sl n f es, Z6 sa, Z6 sp, Zb sf, Z6 ha, Z6 hp], PV.ptr [tc, tg, tj, tf, tp, PV.mp M, PV.mp S], PV.sl n2 f2 ss] fun v => ∃ cs, v = PV.agg cs /\ cs.length = 7 /\ ∃ b, cs.head? = some (Zb b) /\ ∃ (n1 :
 Bool), ∃ f1 es1, cs.tail.head? = some (PV.sl n1 f1 es1) /\ ∃ n3, cs.tail.tail.head? = some (Z6 n3) /\ ∃ n4, cs.tail.tail.tail.head? = some (Z6 n4) /\ ∃ b1, cs.tail.tail.tail.tail.head? = some (Zb b1)
 /\ ∃ n5, cs.tail.tail.tail.tail.tail.head? = some (Z6 n5) /\ ∃ n6, cs.tail.tail.tail.tail.tail.tail.head? = some (Z6 n6) /\ R (PV.agg [Zb b, PV.sl n1 f1 es1, Z6 n3, Z6 n4, Zb b1, Z6 n5, Z6 n6]) else if (k == 5) = true then
 PCall Tryz.prog 48 [PV.agg [Zb sb, PV.sl n f es, Z6 sa, Z6 sp, Zb sf, Z6 ha, Z6 hp], PV.ptr [tc, tg, tj, tf, tp, PV.mp M, PV.mp S], PV.sl n2 f2 ss, Zb true] fun v => ∃ cs, v = PV.agg cs /\ cs.length = 7 /\ ∃ (b : Bool),
 cs.head? = some (Zb b) /\ ∃ n1 f1 es1, cs.tail.head? = some (PV.sl n1 f1 es1) /\ ∃ n3, cs.tail.tail.head? = some (Z6 n3) /\ ∃ n4, cs.tail.tail.tail.head? = some (Z6 n4) /\ ∃ (b1 : Bool),
 cs.tail.tail.tail.tail.head? = some (Zb b1) /\ ∃ n5, cs.tail.tail.tail.tail.tail.head? = some (Z6 n5) /\ ∃ n6, cs.tail.tail.tail.tail.tail.tail.head? = some (Z6 n6) /\ R (PV.agg [Zb b, PV.sl n1 f1 es1, Z6 n3, Z6 n4, Zb b1, Z6
 n5, Z6 n6]) else PCall Tryz.prog 48 [PV.agg [Zb sb, PV.sl n f es, Z6 sa, Z6 sp, Zb sf, Z6 ha, Z6 hp], PV.ptr [tc, tg, tj, tf, tp, PV.mp M, PV.mp S], PV.sl n2 f2 ss, Zb false] fun v => ∃ cs, v = PV.agg cs /\ cs.length = 7 /\
 ∃ b, cs.head? = some (Zb b) /\ ∃ n1 f1 es1, cs.tail.head? = some (PV.sl n1 f1 es1) /\ ∃ n3, cs.tail.tail.head? = some (Z6 n3) /\ ∃ n4, cs.tail.tail.tail.head? = some (Z6 n4) /\ ∃ (b1 :
 Bool), cs.tail.tail.tail.tail.head? = some (Zb b1) /\ ∃ n5, cs.tail.tail.tail.tail.tail.head? = some (Z6 n5) /\ ∃ n6, cs.tail.tail.tail.tail.tail.tail.head? = some (Z6 n6) /\ R (PV.agg [Zb b, PV.sl n1 f1 es1, Z6 n3, Z6 n4, Zb
 b1, Z6 n5, Z6 n6]) else if (k == 2) = true then if (k == 2) = true then PCall Tryz.prog 19 [PV.agg [Zb sb, PV.sl n f es, Z6 sa, Z6 sp, Zb sf, Z6 ha, Z6 hp], PV.ptr [tc, tg, tj, tf, tp, PV.mp M, PV.mp S], PV.sl n2 f2 ss, Z3 r] fun (v : PV) =>
 ∃ cs, v = PV.agg cs /\ cs.length = 7 /\ ∃ b, cs.head? = some (Zb b) /\ ∃ n1 f1 es1, cs.tail.head? = some (PV.sl n1 f1 es1) /\ ∃ n3, cs.tail.tail.head? = some (Z6 n3) /\ ∃ (n4 : Int),
 cs.tail.tail.tail.head? = some (Z6 n4) /\ ∃ b1, cs.tail.tail.tail.tail.head? = some (Zb b1) /\ ∃ n5, cs.tail.tail.tail.tail.tail.head? = some (Z6 n5) /\ ∃ n6, cs.tail.tail.tail.tail.tail.tail.head? = some (Z6 n6) /\ R
 (PV.agg [Zb b, PV.sl n1 f1 es1, Z6 n3, Z6 n4, Zb b1, Z6 n5, Z6 n6]) else if (k == 4) = true then PCall Tryz.prog 66 [PV.agg [Zb sb, PV.sl n f es, Z6 sa, Z6 sp, Zb sf, Z6 ha, Z6 hp], PV.ptr [tc, tg, tj, tf, tp, PV.mp M, PV.mp S], PV.sl n2 f2
 ss] fun v => ∃ cs, v = PV.agg cs /\ cs.length = 7 /\ ∃ b, cs.head? = some (Zb b) /\ ∃ n1 f1 es1, cs.tail.head? = some (PV.sl n1 f1 es1) /\ ∃ n3, cs.tail.tail.head? = some (Z6 n3)
 /\ ∃ n4, cs.tail.tail.tail.head? = some (Z6 n4) /\ ∃ b1, cs.tail.tail.tail.tail.head? = some (Zb b1) /\ ∃ n5, cs.tail.tail.tail.tail.tail.head? = some (Z6 n5) /\ ∃ n6, cs.tail.tail.tail.tail.tail.tail.head? =
 some (Z6 n6) /\ R (PV.agg [Zb b, PV.sl n1 f1 es1, Z6 n3, Z6 n4, Zb b1, Z6 n5, Z6 n6]) else if (k == 5) = true then PCall Tryz.prog 48 [PV.agg [Zb sb, PV.sl n f es, Z6 sa, Z6 sp, Zb sf, Z6 ha, Z6 hp], PV.ptr [tc, tg, tj, tf, tp, PV.mp M,
 PV.mp S], PV.sl n2 f2 ss, Zb true] fun v => ∃ cs, v = PV.agg cs /\ cs.length = 7 /\ ∃ b, cs.head? = some (Zb b) /\ ∃ n1 f1 es1, cs.tail.head? = some (PV.sl n1 f1 es1) /\ ∃ (n3 : Int),
 cs.tail.tail.head? = some (Z6 n3) /\ ∃ n4, cs.tail.tail.tail.head? = some (Z6 n4) /\ ∃ b1, cs.tail.tail.tail.tail.head? = some (Zb b1) /\ ∃ n5, cs.tail.tail.tail.tail.tail.head? = some (Z6 n5) /\ ∃ (n6 : Int),
 cs.tail.tail.tail.tail.tail.tail.head? = some (Z6 n6) /\ R (PV.agg [Zb b, PV.sl n1 f1 es1, Z6 n3, Z6 n4, Zb b1, Z6 n5, Z6 n6]) else PCall Tryz.prog 48 [PV.agg [Zb sb, PV.sl n f es, Z6 sa, Z6 sp, Zb sf, Z6 ha, Z6 hp], PV.ptr [tc, tg, tj, tf,
 tp, PV.mp M, PV.mp S], PV.sl n2 f2 ss, Zb false] fun v => ∃ cs, v = PV.agg cs /\ cs.length = 7 /\ ∃ b, cs.head? = some (Zb b) /\ ∃ n1 f1 es1, cs.tail.head? = some (PV.sl n1 f1 es1) /\ ∃
 (n3 : Int), cs.tail.tail.head? = some (Z6 n3) /\ ∃ n4, cs.tail.tail.tail.head? = some (Z6 n4) /\ ∃ b1, cs.tail.tail.tail.tail.head? = some (Zb b1) /\ ∃ n5, cs.tail.tail.tail.tail.tail.head? = some (Z6 n5) /\ ∃ (n6 :
 Int), cs.tail.tail.tail.tail.tail.tail.head? = some (Z6 n6) /\ R (PV.agg [Zb b, PV.sl n1 f1 es1, Z6 n3, Z6 n4, Zb b1, Z6 n5, Z6 n6]) else if (k == 3) = true then PCall Tryz.prog 19 [PV.agg [Zb sb, PV.sl n f es, Z6 sa, Z6 sp, Zb sf, Z6 ha, Z6
 hp], PV.ptr [tc, tg, tj, tf, tp, PV.mp M, PV.mp S], PV.sl n2 f2 ss, Z3 r] fun v => ∃ cs, v = PV.agg cs /\ cs.length = 7 /\ ∃ b, cs.head? = some (Zb b) /\ ∃ n1 f1 es1, cs.tail.head? =
 some (PV.sl n1 f1 es1) /\ ∃ n3, cs.tail.tail.head? = some (Z6 n3) /\ ∃ n4, cs.tail.tail.tail.head? = some (Z6 n4) /\ ∃ b1, cs.tail.tail.tail.tail.head? = some (Zb b1) /\ ∃ n5, cs.tail.tail.tail.tail.tail.head? =
 some (Z6 n5) /\ ∃ n6, cs.tail.tail.tail.tail.tail.tail.head? = some (Z6 n6) /\ R (PV.agg [Zb b, PV.sl n1 f1 es1, Z6 n3, Z6 n4, Zb b1, Z6 n5, Z6 n6]) else if (k == 4) = true then PCall Tryz.prog 66 [PV.agg [Zb sb, PV.sl n f es, Z6 sa,
 Z6 sp, Zb sf, Z6 ha, Z6 hp], PV.ptr [tc, tg, tj, tf, tp, PV.mp M, PV.mp S], PV.sl n2 f2 ss] fun v => ∃ cs, v = PV.agg cs /\ cs.length = 7 /\ ∃ b, cs.head? = some (Zb b) /\ ∃ n1 f1, ∃ (es1 : LL),
 cs.tail.head? = some (PV.sl n1 f1 es1) /\ ∃ n3, cs.tail.tail.head? = some (Z6 n3) /\ ∃ n4, cs.tail.tail.tail.head? = some (Z6 n4) /\ ∃ b1, cs.tail.tail.tail.tail.head? = some (Zb b1) /\ ∃ (n5 : Int),
 cs.tail.tail.tail.tail.tail.head? = some (Z6 n5) /\ ∃ n6, cs.tail.tail.tail.tail.tail.tail.head? = some (Z6 n6) /\ R (PV.agg [Zb b, PV.sl n1 f1 es1, Z6 n3, Z6 n4, Zb b1, Z6 n5, Z6 n6]) else if (k == 5) = true then PCall Tryz.prog 48
 [PV.agg [Zb sb, PV.sl n f es, Z6 sa, Z6 sp, Zb sf, Z6 ha, Z6 hp], PV.ptr [tc, tg, tj, tf, tp, PV.mp M, PV.mp S], PV.sl n2 f2 ss, Zb true] fun v => ∃ cs, v = PV.agg cs /\ cs.length = 7 /\ ∃ b, cs.head? = some (Zb b)
 /\ ∃ n1 f1 es1, cs.tail.head? = some (PV.sl n1 f1 es1) /\ ∃ n3, cs.tail.tail.head? = some (Z6 n3) /\ ∃ n4, cs.tail.tail.tail.head? = some (Z6 n4) /\ ∃ b1, cs.tail.tail.tail.tail.head? =
 some (Zb b1) /\ ∃ n5, cs.tail.tail.tail.tail.tail.head? = some (Z6 n5) /\ ∃ n6, cs.tail.tail.tail.tail.tail.tail.head? = some (Z6 n6) /\ R (PV.agg [Zb b, PV.sl n1 f1 es1, Z6 n3, Z6 n4, Zb b1, Z6 n5, Z6 n6]) else PCall Tryz.prog
 48 [PV.agg [Zb sb, PV.sl n f es, Z6 sa, Z6 sp, Zb sf, Z6 ha, Z6 hp], PV.ptr [tc, tg, tj, tf, tp, PV.mp M, PV.mp S], PV.sl n2 f2 ss, Zb false] fun v => ∃ cs, v = PV.agg cs /\ cs.length = 7 /\ ∃ b, cs.head? = some (Zb
 b) /\ ∃ n1 f1 es1, cs.tail.head? = some (PV.sl n1 f1 es1) /\ ∃ n3, cs.tail.tail.head? = some (Z6 n3) /\ ∃ n4, cs.tail.tail.tail.head? = some (Z6 n4) /\ ∃ b1, cs.tail.tail.tail.tail.head? =
 some (Zb b1) /\ ∃ n5, cs.tail.tail.tail.tail.tail.head? = some (Z6 n5) /\ ∃ n6, cs.tail.tail.tail.tail.tail.tail.head? = some (Z6 n6) /\ R (PV.agg [Zb b, PV.sl n1 f1 es1, Z6 n3, Z6 n4, Zb b1, Z6 n5, Z6 n6])
theorem zrt (sb : Bool) (n f : Bool) (es : LL) (sa sp : Int) (sf : Bool) (ha hp : Int) (tc tg tj tf tp : PV) (M S : List (PV × PV)) (n2 f2 : Bool) (ss : LL) (k r : Int) {R : PV -> Prop} (h : zhr sb n f es sa sp sf ha hp tc tg tj tf tp M S n2 f2 ss k r R) : PCall Tryz.prog 22 [.ptr [tc, tg, tj, tf, tp, .mp M, .mp S], .sl n2 f2 ss, .agg [.bool sb, .sl n f es, .int .i64 sa, .int .i64 sp, .bool sf, .int .i64 ha, .int .i64 hp], .agg [.int .i64 k, .int .i32 r]] R :=
 PCall.of Tryz.func22 (by kernel_rfl) (by kernel_rfl) (zl (by kernel_rfl)) (Eq.mpr (by kernel_rfl : aT Tryz.prog (fun _ => none) Tryz.f22 [0, 1, 2, 3, 6, 7, 8, 10, 11, 22, 28] (fun _ => none) (Tryz.f22.body.getD .skip) [.ptr [tc, tg, tj, tf, tp, .mp M, .mp S], .sl n2 f2 ss, .agg [.bool sb, .sl n f es, .int .i64 sa, .int .i64 sp, .bool sf, .int .i64 ha, .int .i64 hp], .agg [.int .i64 k, .int .i32 r]] R = _) h)

def dH (n f : Bool) (es : LL) (sb : Bool) (i : Int) (n2 f2 : Bool) (ss : LL) (n0 f0 : Bool) (s0 : LL) (n9 f9 : Bool) (s9 : LL) (x10 : PV) (x12 : Int) (h0_0 hn0_1 hf0_1 : Bool) (hs0_1 : LL) (h0_2 h0_3 : Int) (h0_4 : Bool) (h0_5 h0_6 : Int) : Env × Hp := ([(0, .pv (.sl n0 f0 s0)), (3, LV.pv (PV.sl n2 f2 ss)), (9, .pv (.sl n9 f9 s9)), (10, .pv x10), (11, LV.box 0 0), (12, Y6 x12)], [.box [.pv (.bool h0_0), .pv (.sl hn0_1 hf0_1 hs0_1), Y6 h0_2, Y6 h0_3, .pv (.bool h0_4), Y6 h0_5, Y6 h0_6]])
def zhs (n f : Bool) (es : LL) (sb : Bool) (i : Int) (n2 f2 : Bool) (ss : LL) (J : Bool -> Bool -> LL -> Bool -> Bool -> LL -> PV -> Int -> Bool -> Bool -> Bool -> LL -> Int -> Int -> Bool -> Int -> Int -> Prop) (μ : Bool -> Bool -> LL -> Bool -> Bool -> LL -> PV -> Int -> Bool -> Bool -> Bool -> LL -> Int -> Int -> Bool -> Int -> Int -> Nat) (R : PV -> Prop) : Prop :=
 PCall Tryz.prog 13 [PV.sl n f es] fun v => ∃ n1 f1 es1, v = PV.sl n1 f1 es1 /\ if (decide (i < 0) || decide (i >= (↑es1.length : Int))) = true then PCall Tryz.prog 15 [] fun v1 => ∃ b, v1 =
 Zb b /\ R (Zb b) else PCall Tryz.prog 16 [] fun v1 => ∃ n3 f3 es2, v1 = PV.sl n3 f3 es2 /\ PCall Tryz.prog 17 [PV.sl n3 f3 es2] fun v2 => PCall Tryz.prog 18 [Zb sb, Z6 i, Z6 0] fun v3 => ∃ (cs
 : List PV), v3 = PV.agg cs /\ cs.length = 7 /\ ∃ b, cs.head? = some (Zb b) /\ ∃ n4 f4 es3, cs.tail.head? = some (PV.sl n4 f4 es3) /\ ∃ n5, cs.tail.tail.head? = some (Z6 n5) /\ ∃ (n6 : Int),
 cs.tail.tail.tail.head? = some (Z6 n6) /\ ∃ b1, cs.tail.tail.tail.tail.head? = some (Zb b1) /\ ∃ n7, cs.tail.tail.tail.tail.tail.head? = some (Z6 n7) /\ ∃ n8, cs.tail.tail.tail.tail.tail.tail.head? = some (Z6 n8) /\
 (aB (dH n f es sb i n2 f2 ss n1 f1 es1 n3 f3 es2 v2 (0 : Int) b n4 f4 es3 n5 n6 b1 n7 n8) /\ J n1 f1 es1 n3 f3 es2 v2 (0 : Int) b n4 f4 es3 n5 n6 b1 n7 n8) /\ ∀ (n0 f0 : Bool) (s0 : LL) (n9 f9 : Bool) (s9 : LL) (x10 : PV) (x12 : Int)
 (h0_0 hn0_1 hf0_1 : Bool) (hs0_1 : LL) (h0_2 h0_3 : Int) (h0_4 : Bool) (h0_5 h0_6 : Int), J n0 f0 s0 n9 f9 s9 x10 x12 h0_0 hn0_1 hf0_1 hs0_1 h0_2 h0_3 h0_4 h0_5 h0_6 -> if (decide (x12 < (↑ss.length : Int)) && decide (x12 < 20)) = true then
 aM ss x12 2 /\ ∃ n10, (ss.getD x12.toNat []).head? = some (Z6 n10) /\ ∃ n11, (ss.getD x12.toNat []).tail.head? = some (Z3 n11) /\ (PCall Tryz.prog 22 [x10, PV.sl n0 f0 s0, PV.agg [Zb h0_0, PV.sl hn0_1 hf0_1 hs0_1, Z6 h0_2,
 Z6 h0_3, Zb h0_4, Z6 h0_5, Z6 h0_6], PV.agg [Z6 n10, Z3 n11]] fun v4 => ∃ cs1, v4 = PV.agg cs1 /\ cs1.length = 7 /\ ∃ b2, cs1.head? = some (Zb b2) /\ ∃ n12 f5 es4, cs1.tail.head? = some
 (PV.sl n12 f5 es4) /\ ∃ n13, cs1.tail.tail.head? = some (Z6 n13) /\ ∃ n14, cs1.tail.tail.tail.head? = some (Z6 n14) /\ ∃ b3, cs1.tail.tail.tail.tail.head? = some (Zb b3) /\ ∃ (n15 : Int),
 cs1.tail.tail.tail.tail.tail.head? = some (Z6 n15) /\ ∃ n16, cs1.tail.tail.tail.tail.tail.tail.head? = some (Z6 n16) /\ if decide (n13 < 0) = true then R (Zb false) else if decide (n13 >= (↑s0.length : Int)) = true then R (Zb false)
 else if b3 = true then aM ss x12 2 /\ ∃ n17, (List.drop 0 (ss.getD x12.toNat [])).head? = some (Z6 n17) /\ if (n17 != 4) = true then if (n13 != h0_2) = true then R (Zb false) else if (n14 != h0_3) = true then R (Zb false) else if
 (!b3) = true then if decide ((↑es4.length : Int) > 0) = true then aM s0 n13 1 /\ ∃ n18 f6 es5, (s0.getD n13.toNat []).head? = some (PV.sl n18 f6 es5) /\ PCall Tryz.prog 20 [PV.sl n9 f9 s9, PV.sl n18 f6 es5,
 PV.sl n12 f5 es4] fun v5 => ∃ vs, v5 = PV.tup vs /\ vs.length = 3 /\ ∃ x, vs.head? = some x /\ ∃ n19, x = Z6 n19 /\ ∃ x1, vs.tail.head? = some x1 /\ ∃ n20, x1 = Z6 n20 /\ ∃ (x2 : PV),
 vs.tail.tail.head? = some x2 /\ ∃ b4, x2 = Zb b4 /\ if (!b4) = true then R (Zb false) else if (n19 != n14) = true then R (Zb false) else aB (dH n f es sb i n2 f2 ss n0 f0 s0 n9 f9 s9 x10 (i64.wrap (x12 + 1)) b2 n12 f5
 es4 n13 n14 b3 n15 n16) /\ J n0 f0 s0 n9 f9 s9 x10 (i64.wrap (x12 + 1)) b2 n12 f5 es4 n13 n14 b3 n15 n16 /\ μ n0 f0 s0 n9 f9 s9 x10 (i64.wrap (x12 + 1)) b2 n12 f5 es4 n13 n14 b3 n15 n16 < μ n0 f0 s0 n9 f9 s9 x10 x12 h0_0 hn0_1
 hf0_1 hs0_1 h0_2 h0_3 h0_4 h0_5 h0_6 else aB (dH n f es sb i n2 f2 ss n0 f0 s0 n9 f9 s9 x10 (i64.wrap (x12 + 1)) b2 n12 f5 es4 n13 n14 b3 n15 n16) /\ J n0 f0 s0 n9 f9 s9 x10 (i64.wrap (x12 + 1)) b2 n12 f5 es4 n13 n14 b3
 n15 n16 /\ μ n0 f0 s0 n9 f9 s9 x10 (i64.wrap (x12 + 1)) b2 n12 f5 es4 n13 n14 b3 n15 n16 < μ n0 f0 s0 n9 f9 s9 x10 x12 h0_0 hn0_1 hf0_1 hs0_1 h0_2 h0_3 h0_4 h0_5 h0_6 else aB (dH n f es sb i n2 f2 ss n0 f0 s0 n9 f9 s9 x10
 (i64.wrap (x12 + 1)) b2 n12 f5 es4 n13 n14 b3 n15 n16) /\ J n0 f0 s0 n9 f9 s9 x10 (i64.wrap (x12 + 1)) b2 n12 f5 es4 n13 n14 b3 n15 n16 /\ μ n0 f0 s0 n9 f9 s9 x10 (i64.wrap (x12 + 1)) b2 n12 f5 es4 n13 n14 b3 n15 n16 <
 μ n0 f0 s0 n9 f9 s9 x10 x12 h0_0 hn0_1 hf0_1 hs0_1 h0_2 h0_3 h0_4 h0_5 h0_6 else if (!b3) = true then if decide ((↑es4.length : Int) > 0) = true then aM s0 n13 1 /\ ∃ n18 f6 es5, (s0.getD n13.toNat []).head?
 = some (PV.sl n18 f6 es5) /\ PCall Tryz.prog 20 [PV.sl n9 f9 s9, PV.sl n18 f6 es5, PV.sl n12 f5 es4] fun v5 => ∃ vs, v5 = PV.tup vs /\ vs.length = 3 /\ ∃ x, vs.head? = some x /\ ∃ n19, x = Z6 n19 /\ ∃ (x1 : PV),
 vs.tail.head? = some x1 /\ ∃ n20, x1 = Z6 n20 /\ ∃ x2, vs.tail.tail.head? = some x2 /\ ∃ b4, x2 = Zb b4 /\ if (!b4) = true then R (Zb false) else if (n19 != n14) = true then R (Zb false) else aB (dH n f es sb i n2
 f2 ss n0 f0 s0 n9 f9 s9 x10 (i64.wrap (x12 + 1)) b2 n12 f5 es4 n13 n14 b3 n15 n16) /\ J n0 f0 s0 n9 f9 s9 x10 (i64.wrap (x12 + 1)) b2 n12 f5 es4 n13 n14 b3 n15 n16 /\ μ n0 f0 s0 n9 f9 s9 x10 (i64.wrap (x12 + 1)) b2 n12
 f5 es4 n13 n14 b3 n15 n16 < μ n0 f0 s0 n9 f9 s9 x10 x12 h0_0 hn0_1 hf0_1 hs0_1 h0_2 h0_3 h0_4 h0_5 h0_6 else aB (dH n f es sb i n2 f2 ss n0 f0 s0 n9 f9 s9 x10 (i64.wrap (x12 + 1)) b2 n12 f5 es4 n13 n14 b3 n15 n16) /\ J n0 f0 s0
 n9 f9 s9 x10 (i64.wrap (x12 + 1)) b2 n12 f5 es4 n13 n14 b3 n15 n16 /\ μ n0 f0 s0 n9 f9 s9 x10 (i64.wrap (x12 + 1)) b2 n12 f5 es4 n13 n14 b3 n15 n16 < μ n0 f0 s0 n9 f9 s9 x10 x12 h0_0 hn0_1 hf0_1 hs0_1 h0_2 h0_3 h0_4 h0_5 h0_6
 else aB (dH n f es sb i n2 f2 ss n0 f0 s0 n9 f9 s9 x10 (i64.wrap (x12 + 1)) b2 n12 f5 es4 n13 n14 b3 n15 n16) /\ J n0 f0 s0 n9 f9 s9 x10 (i64.wrap (x12 + 1)) b2 n12 f5 es4 n13 n14 b3 n15 n16 /\ μ n0 f0 s0 n9 f9 s9 x10
 (i64.wrap (x12 + 1)) b2 n12 f5 es4 n13 n14 b3 n15 n16 < μ n0 f0 s0 n9 f9 s9 x10 x12 h0_0 hn0_1 hf0_1 hs0_1 h0_2 h0_3 h0_4 h0_5 h0_6 else if (!b3) = true then if decide ((↑es4.length : Int) > 0) = true then aM s0 n13 1 /\ ∃ (n18 :
 Bool), ∃ f6 es5, (s0.getD n13.toNat []).head? = some (PV.sl n18 f6 es5) /\ PCall Tryz.prog 20 [PV.sl n9 f9 s9, PV.sl n18 f6 es5, PV.sl n12 f5 es4] fun v5 => ∃ vs, v5 = PV.tup vs /\ vs.length = 3 /\ ∃ (x :
 PV), vs.head? = some x /\ ∃ n19, x = Z6 n19 /\ ∃ x1, vs.tail.head? = some x1 /\ ∃ n20, x1 = Z6 n20 /\ ∃ x2, vs.tail.tail.head? = some x2 /\ ∃ b4, x2 = Zb b4 /\ if (!b4) = true then R (Zb false) else if (n19
 != n14) = true then R (Zb false) else aB (dH n f es sb i n2 f2 ss n0 f0 s0 n9 f9 s9 x10 (i64.wrap (x12 + 1)) b2 n12 f5 es4 n13 n14 b3 n15 n16) /\ J n0 f0 s0 n9 f9 s9 x10 (i64.wrap (x12 + 1)) b2 n12 f5 es4 n13 n14 b3 n15
 n16 /\ μ n0 f0 s0 n9 f9 s9 x10 (i64.wrap (x12 + 1)) b2 n12 f5 es4 n13 n14 b3 n15 n16 < μ n0 f0 s0 n9 f9 s9 x10 x12 h0_0 hn0_1 hf0_1 hs0_1 h0_2 h0_3 h0_4 h0_5 h0_6 else aB (dH n f es sb i n2 f2 ss n0 f0 s0 n9 f9 s9 x10
 (i64.wrap (x12 + 1)) b2 n12 f5 es4 n13 n14 b3 n15 n16) /\ J n0 f0 s0 n9 f9 s9 x10 (i64.wrap (x12 + 1)) b2 n12 f5 es4 n13 n14 b3 n15 n16 /\ μ n0 f0 s0 n9 f9 s9 x10 (i64.wrap (x12 + 1)) b2 n12 f5 es4 n13 n14 b3 n15 n16 <
 μ n0 f0 s0 n9 f9 s9 x10 x12 h0_0 hn0_1 hf0_1 hs0_1 h0_2 h0_3 h0_4 h0_5 h0_6 else aB (dH n f es sb i n2 f2 ss n0 f0 s0 n9 f9 s9 x10 (i64.wrap (x12 + 1)) b2 n12 f5 es4 n13 n14 b3 n15 n16) /\ J n0 f0 s0 n9 f9 s9 x10
 (i64.wrap (x12 + 1)) b2 n12 f5 es4 n13 n14 b3 n15 n16 /\ μ n0 f0 s0 n9 f9 s9 x10 (i64.wrap (x12 + 1)) b2 n12 f5 es4 n13 n14 b3 n15 n16 < μ n0 f0 s0 n9 f9 s9 x10 x12 h0_0 hn0_1 hf0_1 hs0_1 h0_2 h0_3 h0_4 h0_5 h0_6) /\ PCall
 Tryz.prog 22 [x10, PV.sl n0 f0 s0, PV.agg [Zb h0_0, PV.sl hn0_1 hf0_1 hs0_1, Z6 h0_2, Z6 h0_3, Zb h0_4, Z6 h0_5, Z6 h0_6], PV.agg [Z6 n10, Z3 n11]] fun v4 => ∃ cs1, v4 = PV.agg cs1 /\ cs1.length = 7 /\ ∃ (b2 : Bool),
 cs1.head? = some (Zb b2) /\ ∃ n12 f5 es4, cs1.tail.head? = some (PV.sl n12 f5 es4) /\ ∃ n13, cs1.tail.tail.head? = some (Z6 n13) /\ ∃ n14, cs1.tail.tail.tail.head? = some (Z6 n14) /\ ∃ (b3 : Bool),
 cs1.tail.tail.tail.tail.head? = some (Zb b3) /\ ∃ n15, cs1.tail.tail.tail.tail.tail.head? = some (Z6 n15) /\ ∃ n16, cs1.tail.tail.tail.tail.tail.tail.head? = some (Z6 n16) /\ if decide (n13 < 0) = true then R (Zb false) else if
 decide (n13 >= (↑s0.length : Int)) = true then R (Zb false) else if b3 = true then aM ss x12 2 /\ ∃ n17, (List.drop 0 (ss.getD x12.toNat [])).head? = some (Z6 n17) /\ if (n17 != 4) = true then if (n13 != h0_2) = true then R (Zb
 false) else if (n14 != h0_3) = true then R (Zb false) else if (!b3) = true then if decide ((↑es4.length : Int) > 0) = true then aM s0 n13 1 /\ ∃ n18 f6 es5, (s0.getD n13.toNat []).head? = some (PV.sl n18 f6
 es5) /\ PCall Tryz.prog 20 [PV.sl n9 f9 s9, PV.sl n18 f6 es5, PV.sl n12 f5 es4] fun v5 => ∃ vs, v5 = PV.tup vs /\ vs.length = 3 /\ ∃ x, vs.head? = some x /\ ∃ n19, x = Z6 n19 /\ ∃ x1, vs.tail.head? = some
 x1 /\ ∃ n20, x1 = Z6 n20 /\ ∃ x2, vs.tail.tail.head? = some x2 /\ ∃ b4, x2 = Zb b4 /\ if (!b4) = true then R (Zb false) else if (n19 != n14) = true then R (Zb false) else aB (dH n f es sb i n2 f2 ss n0 f0 s0 n9 f9
 s9 x10 (i64.wrap (x12 + 1)) b2 n12 f5 es4 n13 n14 b3 n15 n16) /\ J n0 f0 s0 n9 f9 s9 x10 (i64.wrap (x12 + 1)) b2 n12 f5 es4 n13 n14 b3 n15 n16 /\ μ n0 f0 s0 n9 f9 s9 x10 (i64.wrap (x12 + 1)) b2 n12 f5 es4 n13 n14 b3
 n15 n16 < μ n0 f0 s0 n9 f9 s9 x10 x12 h0_0 hn0_1 hf0_1 hs0_1 h0_2 h0_3 h0_4 h0_5 h0_6 else aB (dH n f es sb i n2 f2 ss n0 f0 s0 n9 f9 s9 x10 (i64.wrap (x12 + 1)) b2 n12 f5 es4 n13 n14 b3 n15 n16) /\ J n0 f0 s0 n9 f9 s9 x10
 (i64.wrap (x12 + 1)) b2 n12 f5 es4 n13 n14 b3 n15 n16 /\ μ n0 f0 s0 n9 f9 s9 x10 (i64.wrap (x12 + 1)) b2 n12 f5 es4 n13 n14 b3 n15 n16 < μ n0 f0 s0 n9 f9 s9 x10 x12 h0_0 hn0_1 hf0_1 hs0_1 h0_2 h0_3 h0_4 h0_5 h0_6 else aB
 (dH n f es sb i n2 f2 ss n0 f0 s0 n9 f9 s9 x10 (i64.wrap (x12 + 1)) b2 n12 f5 es4 n13 n14 b3 n15 n16) /\ J n0 f0 s0 n9 f9 s9 x10 (i64.wrap (x12 + 1)) b2 n12 f5 es4 n13 n14 b3 n15 n16 /\ μ n0 f0 s0 n9 f9 s9 x10
 (i64.wrap (x12 + 1)) b2 n12 f5 es4 n13 n14 b3 n15 n16 < μ n0 f0 s0 n9 f9 s9 x10 x12 h0_0 hn0_1 hf0_1 hs0_1 h0_2 h0_3 h0_4 h0_5 h0_6 else if (!b3) = true then if decide ((↑es4.length : Int) > 0) = true then aM s0 n13 1 /\ ∃ (n18 :
 Bool), ∃ f6 es5, (s0.getD n13.toNat []).head? = some (PV.sl n18 f6 es5) /\ PCall Tryz.prog 20 [PV.sl n9 f9 s9, PV.sl n18 f6 es5, PV.sl n12 f5 es4] fun v5 => ∃ vs, v5 = PV.tup vs /\ vs.length = 3 /\ ∃ (x :
 PV), vs.head? = some x /\ ∃ n19, x = Z6 n19 /\ ∃ x1, vs.tail.head? = some x1 /\ ∃ n20, x1 = Z6 n20 /\ ∃ x2, vs.tail.tail.head? = some x2 /\ ∃ b4, x2 = Zb b4 /\ if (!b4) = true then R (Zb false) else if (n19
 != n14) = true then R (Zb false) else aB (dH n f es sb i n2 f2 ss n0 f0 s0 n9 f9 s9 x10 (i64.wrap (x12 + 1)) b2 n12 f5 es4 n13 n14 b3 n15 n16) /\ J n0 f0 s0 n9 f9 s9 x10 (i64.wrap (x12 + 1)) b2 n12 f5 es4 n13 n14 b3 n15
 n16 /\ μ n0 f0 s0 n9 f9 s9 x10 (i64.wrap (x12 + 1)) b2 n12 f5 es4 n13 n14 b3 n15 n16 < μ n0 f0 s0 n9 f9 s9 x10 x12 h0_0 hn0_1 hf0_1 hs0_1 h0_2 h0_3 h0_4 h0_5 h0_6 else aB (dH n f es sb i n2 f2 ss n0 f0 s0 n9 f9 s9 x10
 (i64.wrap (x12 + 1)) b2 n12 f5 es4 n13 n14 b3 n15 n16) /\ J n0 f0 s0 n9 f9 s9 x10 (i64.wrap (x12 + 1)) b2 n12 f5 es4 n13 n14 b3 n15 n16 /\ μ n0 f0 s0 n9 f9 s9 x10 (i64.wrap (x12 + 1)) b2 n12 f5 es4 n13 n14 b3 n15 n16 <
 μ n0 f0 s0 n9 f9 s9 x10 x12 h0_0 hn0_1 hf0_1 hs0_1 h0_2 h0_3 h0_4 h0_5 h0_6 else aB (dH n f es sb i n2 f2 ss n0 f0 s0 n9 f9 s9 x10 (i64.wrap (x12 + 1)) b2 n12 f5 es4 n13 n14 b3 n15 n16) /\ J n0 f0 s0 n9 f9 s9 x10
 (i64.wrap (x12 + 1)) b2 n12 f5 es4 n13 n14 b3 n15 n16 /\ μ n0 f0 s0 n9 f9 s9 x10 (i64.wrap (x12 + 1)) b2 n12 f5 es4 n13 n14 b3 n15 n16 < μ n0 f0 s0 n9 f9 s9 x10 x12 h0_0 hn0_1 hf0_1 hs0_1 h0_2 h0_3 h0_4 h0_5 h0_6 else if
 (!b3) = true then if decide ((↑es4.length : Int) > 0) = true then aM s0 n13 1 /\ ∃ n18 f6 es5, (s0.getD n13.toNat []).head? = some (PV.sl n18 f6 es5) /\ PCall Tryz.prog 20 [PV.sl n9 f9 s9, PV.sl n18 f6 es5,
 PV.sl n12 f5 es4] fun v5 => ∃ vs, v5 = PV.tup vs /\ vs.length = 3 /\ ∃ x, vs.head? = some x /\ ∃ n19, x = Z6 n19 /\ ∃ x1, vs.tail.head? = some x1 /\ ∃ n20, x1 = Z6 n20 /\ ∃ (x2 : PV),
 vs.tail.tail.head? = some x2 /\ ∃ b4, x2 = Zb b4 /\ if (!b4) = true then R (Zb false) else if (n19 != n14) = true then R (Zb false) else aB (dH n f es sb i n2 f2 ss n0 f0 s0 n9 f9 s9 x10 (i64.wrap (x12 + 1)) b2 n12 f5
 es4 n13 n14 b3 n15 n16) /\ J n0 f0 s0 n9 f9 s9 x10 (i64.wrap (x12 + 1)) b2 n12 f5 es4 n13 n14 b3 n15 n16 /\ μ n0 f0 s0 n9 f9 s9 x10 (i64.wrap (x12 + 1)) b2 n12 f5 es4 n13 n14 b3 n15 n16 < μ n0 f0 s0 n9 f9 s9 x10 x12 h0_0 hn0_1
 hf0_1 hs0_1 h0_2 h0_3 h0_4 h0_5 h0_6 else aB (dH n f es sb i n2 f2 ss n0 f0 s0 n9 f9 s9 x10 (i64.wrap (x12 + 1)) b2 n12 f5 es4 n13 n14 b3 n15 n16) /\ J n0 f0 s0 n9 f9 s9 x10 (i64.wrap (x12 + 1)) b2 n12 f5 es4 n13 n14 b3
 n15 n16 /\ μ n0 f0 s0 n9 f9 s9 x10 (i64.wrap (x12 + 1)) b2 n12 f5 es4 n13 n14 b3 n15 n16 < μ n0 f0 s0 n9 f9 s9 x10 x12 h0_0 hn0_1 hf0_1 hs0_1 h0_2 h0_3 h0_4 h0_5 h0_6 else aB (dH n f es sb i n2 f2 ss n0 f0 s0 n9 f9 s9 x10
 (i64.wrap (x12 + 1)) b2 n12 f5 es4 n13 n14 b3 n15 n16) /\ J n0 f0 s0 n9 f9 s9 x10 (i64.wrap (x12 + 1)) b2 n12 f5 es4 n13 n14 b3 n15 n16 /\ μ n0 f0 s0 n9 f9 s9 x10 (i64.wrap (x12 + 1)) b2 n12 f5 es4 n13 n14 b3 n15 n16 <
 μ n0 f0 s0 n9 f9 s9 x10 x12 h0_0 hn0_1 hf0_1 hs0_1 h0_2 h0_3 h0_4 h0_5 h0_6 else PCall Tryz.prog 15 [] fun v4 => ∃ b2, v4 = Zb b2 /\ R (Zb b2)
theorem zru (n f : Bool) (es : LL) (sb : Bool) (i : Int) (n2 f2 : Bool) (ss : LL) (J : Bool -> Bool -> LL -> Bool -> Bool -> LL -> PV -> Int -> Bool -> Bool -> Bool -> LL -> Int -> Int -> Bool -> Int -> Int -> Prop) (μ : Bool -> Bool -> LL -> Bool -> Bool -> LL -> PV -> Int -> Bool -> Bool -> Bool -> LL -> Int -> Int -> Bool -> Int -> Int -> Nat) {R : PV -> Prop} (h : zhs n f es sb i n2 f2 ss J μ R) : PCall Tryz.prog 5 [.sl n f es, .bool sb, .int .i64 i, .sl n2 f2 ss] R :=
 PCall.of Tryz.func5 (by kernel_rfl) (by kernel_rfl) (zl (by kernel_rfl)) (Eq.mpr (by kernel_rfl : aT Tryz.prog (fun _ => none) Tryz.f5 [0, 1, 2, 3, 8, 9, 10, 11, 12, 13, 14, 16, 26, 41, 61, 85, 94, 115] (fun zz_ => match zz_ with | 8 => some ⟨Bool × Bool × LL × Bool × Bool × LL × PV × Int × Bool × Bool × Bool × LL × Int × Int × Bool × Int × Int, fun s => dH n f es sb i n2 f2 ss s.1 s.2.1 s.2.2.1 s.2.2.2.1 s.2.2.2.2.1 s.2.2.2.2.2.1 s.2.2.2.2.2.2.1 s.2.2.2.2.2.2.2.1 s.2.2.2.2.2.2.2.2.1 s.2.2.2.2.2.2.2.2.2.1 s.2.2.2.2.2.2.2.2.2.2.1 s.2.2.2.2.2.2.2.2.2.2.2.1 s.2.2.2.2.2.2.2.2.2.2.2.2.1 s.2.2.2.2.2.2.2.2.2.2.2.2.2.1 s.2.2.2.2.2.2.2.2.2.2.2.2.2.2.1 s.2.2.2.2.2.2.2.2.2.2.2.2.2.2.2.1 s.2.2.2.2.2.2.2.2.2.2.2.2.2.2.2.2, fun _ s => J s.1 s.2.1 s.2.2.1 s.2.2.2.1 s.2.2.2.2.1 s.2.2.2.2.2.1 s.2.2.2.2.2.2.1 s.2.2.2.2.2.2.2.1 s.2.2.2.2.2.2.2.2.1 s.2.2.2.2.2.2.2.2.2.1 s.2.2.2.2.2.2.2.2.2.2.1 s.2.2.2.2.2.2.2.2.2.2.2.1 s.2.2.2.2.2.2.2.2.2.2.2.2.1 s.2.2.2.2.2.2.2.2.2.2.2.2.2.1 s.2.2.2.2.2.2.2.2.2.2.2.2.2.2.1 s.2.2.2.2.2.2.2.2.2.2.2.2.2.2.2.1 s.2.2.2.2.2.2.2.2.2.2.2.2.2.2.2.2, fun s => μ s.1 s.2.1 s.2.2.1 s.2.2.2.1 s.2.2.2.2.1 s.2.2.2.2.2.1 s.2.2.2.2.2.2.1 s.2.2.2.2.2.2.2.1 s.2.2.2.2.2.2.2.2.1 s.2.2.2.2.2.2.2.2.2.1 s.2.2.2.2.2.2.2.2.2.2.1 s.2.2.2.2.2.2.2.2.2.2.2.1 s.2.2.2.2.2.2.2.2.2.2.2.2.1 s.2.2.2.2.2.2.2.2.2.2.2.2.2.1 s.2.2.2.2.2.2.2.2.2.2.2.2.2.2.1 s.2.2.2.2.2.2.2.2.2.2.2.2.2.2.2.1 s.2.2.2.2.2.2.2.2.2.2.2.2.2.2.2.2, fun e h => (gN e 0, gF e 0, gS e 0, gN e 9, gF e 9, gS e 9, gP e 10, gI e 12, hB h 0 0, hN h 0 1, hF h 0 1, hS h 0 1, hI h 0 2, hI h 0 3, hB h 0 4, hI h 0 5, hI h 0 6), [], [0, 3, 9, 10, 11, 12], [], fun p => ∀ (n0 f0 : Bool) (s0 : LL) (n9 f9 : Bool) (s9 : LL) (x10 : PV) (x12 : Int) (h0_0 hn0_1 hf0_1 : Bool) (hs0_1 : LL) (h0_2 h0_3 : Int) (h0_4 : Bool) (h0_5 h0_6 : Int), p (n0, f0, s0, n9, f9, s9, x10, x12, h0_0, hn0_1, hf0_1, hs0_1, h0_2, h0_3, h0_4, h0_5, h0_6), fun p h s => h s.1 s.2.1 s.2.2.1 s.2.2.2.1 s.2.2.2.2.1 s.2.2.2.2.2.1 s.2.2.2.2.2.2.1 s.2.2.2.2.2.2.2.1 s.2.2.2.2.2.2.2.2.1 s.2.2.2.2.2.2.2.2.2.1 s.2.2.2.2.2.2.2.2.2.2.1 s.2.2.2.2.2.2.2.2.2.2.2.1 s.2.2.2.2.2.2.2.2.2.2.2.2.1 s.2.2.2.2.2.2.2.2.2.2.2.2.2.1 s.2.2.2.2.2.2.2.2.2.2.2.2.2.2.1 s.2.2.2.2.2.2.2.2.2.2.2.2.2.2.2.1 s.2.2.2.2.2.2.2.2.2.2.2.2.2.2.2.2⟩ | _ => none) (Tryz.f5.body.getD .skip) [.sl n f es, .bool sb, .int .i64 i, .sl n2 f2 ss] R = _) h)

end Go.Eng



namespace Go.Eng
open Go Go.Proofs Go.Eng.Rows Go.Eng.Trie Go.Eng.Srt
structure SeekS where
 back : Bool
 pat : List Int
 line : Int
 place : Int
 failed : Bool
 ha : Int
 hp : Int
def gJ (n f : Bool) (s : SeekS) : PV := .agg [.bool s.back, .sl n f (aA s.pat), .int .i64 s.line, .int .i64 s.place, .bool s.failed, .int .i64 s.ha, .int .i64 s.hp]
def eZ (b : Bool) : Int := if b = true then 1 else -1
def eC (rows : List Row) (T : List (List Int)) (s : SeekS) (i : Int) : SeekS := match eB (jT rows s.pat) T (eZ s.back) i with
 | some (a, b) => ⟨s.back, s.pat, a, b, false, s.ha, s.hp⟩
 | none => ⟨s.back, s.pat, s.line, s.place, true, s.ha, s.hp⟩
def mA (rows : List Row) (T : List (List Int)) (s : SeekS) (r : Int) : SeekS := eC rows T ⟨s.back, s.pat ++ [r], s.line, s.place, s.failed, s.ha, s.hp⟩ s.line
def kS (rows : List Row) (T : List (List Int)) (s : SeekS) : SeekS :=
 if s.pat.take (s.pat.length - 1) = [] then ⟨s.back, [], s.ha, s.hp, false, s.ha, s.hp⟩
 else eC rows T ⟨s.back, s.pat.take (s.pat.length - 1), s.ha, s.hp, false, s.ha, s.hp⟩ s.ha
def c9 (rows : List Row) (T : List (List Int)) (s : SeekS) (b : Bool) : SeekS :=
 if s.pat = [] then ⟨b, s.pat, s.line, s.place, false, s.ha, s.hp⟩
 else eC rows T ⟨b, s.pat, s.line, s.place, s.failed, s.ha, s.hp⟩ (s.line + eZ b)
def doK (rows : List Row) (T : List (List Int)) (s : SeekS) (k r : Int) : SeekS :=
 if k = 0 ∨ k = 1 ∨ k = 2 ∨ k = 3 then mA rows T s r else if k = 4 then kS rows T s else if k = 5 then c9 rows T s true else c9 rows T s false
structure KOK (m : Nat) (s : SeekS) : Prop where
 r : R32 s.pat
 l : s.pat.length <= m
 a : -2199023255552 <= s.line /\ s.line <= 2199023255552
 h : -2199023255552 <= s.ha /\ s.ha <= 2199023255552
theorem zT (rows : List Row) (T : List (List Int)) (s : SeekS) (i : Int) : (eB (jT rows s.pat) T (eZ s.back) i = none /\ eC rows T s i = ⟨s.back, s.pat, s.line, s.place, true, s.ha, s.hp⟩) ∨
 ∃ a b c, eB (jT rows s.pat) T (eZ s.back) i = some (a, b) /\ a < T.length /\ jT rows s.pat (T.getD a []) = some (b, c) /\ eC rows T s i = ⟨s.back, s.pat, a, b, false, s.ha, s.hp⟩ := by
 unfold eC
 cases h : eB (jT rows s.pat) T (eZ s.back) i with
 | none => exact .inl ⟨rfl, rfl⟩
 | some q =>
   obtain ⟨a, b⟩ := q
   obtain ⟨h1, c, h2⟩ := zhh (p := jT rows s.pat) h
   exact .inr ⟨a, b, c, rfl, h1, h2, rfl⟩
theorem KOK.look {m : Nat} {s : SeekS} (h : KOK m s) (rows : List Row) {T : List (List Int)} (hT : T.length < 100000) (i : Int) : KOK m (eC rows T s i) := by
 rcases zT rows T s i with ⟨_, e⟩ | ⟨a, b, c, _, h1, _, e⟩
 ·rw [e]; exact ⟨h.r, h.l, h.a, h.h⟩
 ·rw [e]; exact ⟨h.r, h.l, by dsimp only; omega, h.h⟩
theorem KOK.doK {m : Nat} {s : SeekS} (h : KOK m s) (rows : List Row) {T : List (List Int)} (hT : T.length < 100000) {k r : Int} (hr : -2147483648 <= r /\ r <= 2147483647) : KOK (m + 1) (doK rows T s k r) := by
 have hl := h.l
 have ag : ∀ b, KOK (m + 1) (c9 rows T s b) := fun b => by
  unfold c9
  split
  ·exact ⟨h.r, by dsimp only; omega, h.a, h.h⟩
  ·refine KOK.look ?_ rows hT _
   exact ⟨h.r, by dsimp only; omega, h.a, h.h⟩
 unfold Go.Eng.doK
 split
 ·unfold mA
  refine KOK.look ?_ rows hT _
  refine ⟨fun x hx => ?_, ?_, h.a, h.h⟩
  ·rcases List.mem_append.1 hx with hx | hx
   ·exact h.r x hx
   ·rw [List.mem_singleton.1 hx]; exact hr
  ·dsimp only; rw [List.length_append, List.length_singleton]; omega
 ·split
  ·unfold kS
   split
   ·exact ⟨(fun x hx => by cases hx), Nat.zero_le _, h.h, h.h⟩
   ·refine KOK.look ?_ rows hT _
    refine ⟨h.r.take _, ?_, h.h, h.h⟩
    dsimp only; rw [List.length_take]; omega
  ·split
   ·exact ag true
   ·exact ag false
section
variable {rows : List Row} {v : PV}
theorem zht (b : Bool) (i j : Int) : PCall Tryz.prog 18 [.bool b, .int .i64 i, .int .i64 j] fun x => x = gJ true true ⟨b, [], i, j, false, i, j⟩ := by
 refine zrl _ _ _ ?_; unfold zhk; rfl
theorem zhu (n f : Bool) (s : SeekS) : PCall Tryz.prog 87 [gJ n f s] fun x => x = .int .i64 (eZ s.back) := by
 refine zrm _ _ _ _ _ _ _ _ _ ?_; unfold zhl
 cases h : s.back
 ·exact bA (by simp) rfl
 ·exact bB rfl rfl
theorem zU (hp : cK rows) (hk : c6 rows) (hv : eV rows v) (n f n2 f2 : Bool) (ls : List (Bool × Bool × List Int)) (hls : iS ls) {m : Nat} (hm : m < 1000000) (s : SeekS) (hs : KOK m s) (i : Int) :
 PCall Tryz.prog 64 [gJ n f s, v, .sl n2 f2 (ls.map cY), .int .i64 i] fun x => x = gJ n f (eC rows (cR ls) s i) := by
 have hv' := hv
 obtain ⟨tc, tg, tj, tf, tp, made, sec, rfl, ht, hm'⟩ := hv
 refine zrn _ _ _ _ _ _ _ _ _ _ _ _ _ _ _ _ _ _ _ _ ?_; unfold zhm
 refine (zhu n f s).mono ?_
 rintro _ rfl
 refine ⟨_, rfl, ?_⟩
 refine (zrj hp hk hv' n2 f2 n f ls hls s.pat hs.r (by have := hs.l; omega) i (eZ s.back)).mono ?_
 rintro _ rfl
 rcases zT rows (cR ls) s i with ⟨e1, e⟩ | ⟨a, b, c, e1, h1, _, e⟩
 ·rw [e1, e]; exact ⟨_, rfl, rfl, _, rfl, _, rfl, _, rfl, _, rfl, _, rfl, _, rfl, bA (by simp) rfl⟩
 ·rw [e1, e]; exact ⟨_, rfl, rfl, _, rfl, _, rfl, _, rfl, _, rfl, _, rfl, _, rfl, bB rfl rfl⟩
theorem zhv (hp : cK rows) (hk : c6 rows) (hv : eV rows v) (n f n2 f2 : Bool) (ls : List (Bool × Bool × List Int)) (hls : iS ls) {m : Nat} (hm : m < 1000) (s : SeekS) (hs : KOK m s) (hn : n = true -> s.pat = []) (r : Int) (hr : -2147483648 <= r /\ r <= 2147483647) :
 PCall Tryz.prog 19 [gJ n f s, v, .sl n2 f2 (ls.map cY), .int .i32 r] fun x => ∃ n f, x = gJ n f (mA rows (cR ls) s r) /\ (n = true -> (mA rows (cR ls) s r).pat = []) := by
 have hv' := hv
 obtain ⟨tc, tg, tj, tf, tp, made, sec, rfl, ht, hm'⟩ := hv
 have hl := hs.l
 refine zro _ _ _ _ _ _ _ _ _ _ _ _ _ _ _ _ _ _ _ _ ?_; unfold zhn
 refine (yZ n f (aA s.pat) (fun h => by rw [hn h]; rfl) ⟨rfl, .inl rfl, fun e he => (by cases he), dC _, by simp only [List.length_nil, bC]; omega⟩).mono ?_
 rintro _ _ ⟨rfl, rfl⟩
 refine ⟨true, ⟨rfl, rfl⟩, trivial, ⟨dC [r], by rw [bC]; omega⟩, ?_⟩
 have e : aA s.pat ++ [[PV.int .i32 r]] = aA (s.pat ++ [r]) := by rw [iN]; rfl
 rw [e]
 have hs' : KOK (m + 1) ⟨s.back, s.pat ++ [r], s.line, s.place, s.failed, s.ha, s.hp⟩ := ⟨fun x hx => (List.mem_append.1 hx).elim (hs.r x) (fun h => by rw [List.mem_singleton.1 h]; exact hr), by dsimp only; rw [List.length_append, List.length_singleton]; omega, hs.a, hs.h⟩
 refine (zU hp hk hv' (n && false) false n2 f2 ls hls (by omega) _ hs' s.line).mono ?_
 rintro _ rfl
 exact ⟨_, rfl, rfl, _, rfl, _, _, _, rfl, _, rfl, _, rfl, _, rfl, _, rfl, _, rfl,  _, _, rfl, fun h => by simp at h⟩
theorem zrv (l : List Int) (hl : l.length < 100000) : (if i64.wrap ((l.length : Int) - 1) < 0 then (0 : Int) else i64.wrap ((l.length : Int) - 1)) = ((l.length - 1 : Nat) : Int) := by
 rw [aD (by omega) (by omega)]
 split <;> omega
theorem zrw (L : List Int) (k : Nat) : List.drop 0 (List.take ((k : Nat) : Int).toNat (aA L)) = aA (L.take k) := by simp [aA]
theorem zrx {len : Nat} {j : Int} (h0 : 0 <= j) (h2 : j <= len) : dK len none (some j) none := ⟨Int.le_refl _, h0, h2, trivial⟩
theorem zry (hp : cK rows) (hk : c6 rows) (hv : eV rows v) (n f n2 f2 : Bool) (ls : List (Bool × Bool × List Int)) (hls : iS ls) {m : Nat} (hm : m < 1000) (s : SeekS) (hs : KOK m s) (hn : n = true -> s.pat = []) :
 PCall Tryz.prog 66 [gJ n f s, v, .sl n2 f2 (ls.map cY)] fun x => ∃ n f, x = gJ n f (kS rows (cR ls) s) /\ (n = true -> (kS rows (cR ls) s).pat = []) := by
 have hv' := hv
 obtain ⟨tc, tg, tj, tf, tp, made, sec, rfl, ht, hm'⟩ := hv
 have hl := hs.l
 have hn' : n = true -> s.pat.take (s.pat.length - 1) = [] := fun h => by rw [hn h]; rfl
 refine zrp _ _ _ _ _ _ _ _ _ _ _ _ _ _ _ _ _ _ _ ?_; unfold zho
 rw [bC, zrv s.pat (by omega), zrw]
 have hlt : (s.pat.take (s.pat.length - 1)).length <= s.pat.length := by rw [List.length_take]; omega
 refine ⟨⟨zrx (by omega) (by omega), dC _⟩, ?_⟩
 refine (yZ n _ (aA (s.pat.take (s.pat.length - 1))) (fun h => by rw [hn' h]; rfl) ⟨rfl, .inl rfl, fun e he => (by cases he), dC _, by simp only [List.length_nil, bC]; omega⟩).mono ?_
 rintro _ _ ⟨rfl, rfl⟩
 refine ⟨true, ⟨rfl, rfl⟩, trivial, aF (fun hc => ?_) (fun hc => ?_)⟩
 ·simp only [beq_iff_eq, bC] at hc
  have he : s.pat.take (s.pat.length - 1) = [] := List.eq_nil_of_length_eq_zero (by omega)
  unfold kS; rw [if_pos he, he]
  exact ⟨_, _, rfl, fun _ => rfl⟩
 ·simp only [beq_iff_eq, bC] at hc
  have he : s.pat.take (s.pat.length - 1) ≠ [] := fun e => by rw [e] at hc; exact hc rfl
  unfold kS; rw [if_neg he]
  have hs' : KOK m ⟨s.back, s.pat.take (s.pat.length - 1), s.ha, s.hp, false, s.ha, s.hp⟩ := ⟨hs.r.take _, by dsimp only; omega, hs.h, hs.h⟩
  refine (zU hp hk hv' n false n2 f2 ls hls (by omega) _ hs' s.ha).mono ?_
  rintro _ rfl
  refine ⟨_, rfl, rfl, _, rfl, _, _, _, rfl, _, rfl, _, rfl, _, rfl, _, rfl, _, rfl,  n, false, rfl, fun h => absurd (hn' h) he⟩
theorem zV (hp : cK rows) (hk : c6 rows) (hv : eV rows v) (n f n2 f2 : Bool) (ls : List (Bool × Bool × List Int)) (hls : iS ls) {m : Nat} (hm : m < 1000) (s : SeekS) (hs : KOK m s) (hn : n = true -> s.pat = []) (b : Bool) :
 PCall Tryz.prog 48 [gJ n f s, v, .sl n2 f2 (ls.map cY), .bool b] fun x => ∃ n f, x = gJ n f (c9 rows (cR ls) s b) /\ (n = true -> (c9 rows (cR ls) s b).pat = []) := by
 have hv' := hv
 obtain ⟨tc, tg, tj, tf, tp, made, sec, rfl, ht, hm'⟩ := hv
 refine zrq _ _ _ _ _ _ _ _ _ _ _ _ _ _ _ _ _ _ _ _ ?_; unfold zhp
 refine aF (fun hc => ?_) (fun hc => ?_)
 ·simp only [beq_iff_eq, bC] at hc
  have he : s.pat = [] := List.eq_nil_of_length_eq_zero (by omega)
  unfold c9; rw [if_pos he]
  exact ⟨_, _, rfl, fun _ => he⟩
 ·simp only [beq_iff_eq, bC] at hc
  have he : s.pat ≠ [] := fun e => by rw [e] at hc; exact hc rfl
  unfold c9; rw [if_neg he]
  refine (zhu n f ⟨b, s.pat, s.line, s.place, s.failed, s.ha, s.hp⟩).mono ?_
  rintro _ rfl
  have hs' : KOK m ⟨b, s.pat, s.line, s.place, s.failed, s.ha, s.hp⟩ := ⟨hs.r, hs.l, hs.a, hs.h⟩
  have ha := hs.a
  have hw : i64.wrap (s.line + eZ b) = s.line + eZ b := by
   have : eZ b = 1 ∨ eZ b = -1 := by unfold eZ; split <;> omega
   exact aD (by omega) (by omega)
  refine ⟨_, rfl, ?_⟩
  rw [hw]
  refine (zU hp hk hv' n f n2 f2 ls hls (by omega) _ hs' (s.line + eZ b)).mono ?_
  rintro _ rfl
  exact ⟨_, rfl, rfl, _, rfl, _, _, _, rfl, _, rfl, _, rfl, _, rfl, _, rfl, _, rfl,  n, f, rfl, fun h => absurd (hn h) he⟩
theorem tW (rows : List Row) (T : List (List Int)) (s : SeekS) {k : Int} (r : Int) (h : k = 0 ∨ k = 1 ∨ k = 2 ∨ k = 3) : doK rows T s k r = mA rows T s r := by unfold Go.Eng.doK; rw [if_pos h]
theorem zrz (rows : List Row) (T : List (List Int)) (s : SeekS) {k : Int} (r : Int) (h : k = 4) : doK rows T s k r = kS rows T s := by subst h; rfl
theorem zr0 (rows : List Row) (T : List (List Int)) (s : SeekS) {k : Int} (r : Int) (h : k = 5) : doK rows T s k r = c9 rows T s true := by subst h; rfl
theorem zr1 (rows : List Row) (T : List (List Int)) (s : SeekS) {k : Int} (r : Int) (h : ¬(k = 0 ∨ k = 1 ∨ k = 2 ∨ k = 3)) (h4 : k ≠ 4) (h5 : k ≠ 5) : doK rows T s k r = c9 rows T s false := by unfold Go.Eng.doK; rw [if_neg h, if_neg h4, if_neg h5]
theorem zr2 (hp : cK rows) (hk : c6 rows) (hv : eV rows v) (n f n2 f2 : Bool) (ls : List (Bool × Bool × List Int)) (hls : iS ls) {m : Nat} (hm : m < 1000) (s : SeekS) (hs : KOK m s) (hn : n = true -> s.pat = []) (k r : Int) (hr : -2147483648 <= r /\ r <= 2147483647) :
 PCall Tryz.prog 22 [v, .sl n2 f2 (ls.map cY), gJ n f s, .agg [.int .i64 k, .int .i32 r]] fun x => ∃ n f, x = gJ n f (doK rows (cR ls) s k r) /\ (n = true -> (doK rows (cR ls) s k r).pat = []) := by
 have hv' := hv
 obtain ⟨tc, tg, tj, tf, tp, made, sec, rfl, ht, hm'⟩ := hv
 have ty := zhv hp hk hv' n f n2 f2 ls hls hm s hs hn r hr
 have ru := zry hp hk hv' n f n2 f2 ls hls hm s hs hn
 have ag := zV hp hk hv' n f n2 f2 ls hls hm s hs hn
 refine zrt _ _ _ _ _ _ _ _ _ _ _ _ _ _ _ _ _ _ _ _ _ ?_; unfold zhr
 refine aF (fun h0 => bB h0 ?_) (fun h0 => aF (fun h1 => bB h1 ?_) (fun h1 => aF (fun h2 => bB h2 ?_) (fun h2 => aF (fun h3 => ?_) (fun h3 => aF (fun h4 => ?_) (fun h4 => aF (fun h5 => ?_) (fun h5 => ?_))))))
 ·rw [tW rows _ s r (.inl (by simpa using h0))]
  refine ty.mono ?_
  rintro _ ⟨n, f, rfl, h⟩
  exact ⟨_, rfl, rfl, _, rfl, _, _, _, rfl, _, rfl, _, rfl, _, rfl, _, rfl, _, rfl,  n, f, rfl, h⟩
 ·rw [tW rows _ s r (.inr (.inl (by simpa using h1)))]
  refine ty.mono ?_
  rintro _ ⟨n, f, rfl, h⟩
  exact ⟨_, rfl, rfl, _, rfl, _, _, _, rfl, _, rfl, _, rfl, _, rfl, _, rfl, _, rfl,  n, f, rfl, h⟩
 ·rw [tW rows _ s r (.inr (.inr (.inl (by simpa using h2))))]
  refine ty.mono ?_
  rintro _ ⟨n, f, rfl, h⟩
  exact ⟨_, rfl, rfl, _, rfl, _, _, _, rfl, _, rfl, _, rfl, _, rfl, _, rfl, _, rfl,  n, f, rfl, h⟩
 ·rw [tW rows _ s r (.inr (.inr (.inr (by simpa using h3))))]
  refine ty.mono ?_
  rintro _ ⟨n, f, rfl, h⟩
  exact ⟨_, rfl, rfl, _, rfl, _, _, _, rfl, _, rfl, _, rfl, _, rfl, _, rfl, _, rfl,  n, f, rfl, h⟩
 ·rw [zrz rows _ s r (by simpa using h4)]
  refine ru.mono ?_
  rintro _ ⟨n, f, rfl, h⟩
  exact ⟨_, rfl, rfl, _, rfl, _, _, _, rfl, _, rfl, _, rfl, _, rfl, _, rfl, _, rfl,  n, f, rfl, h⟩
 ·rw [zr0 rows _ s r (by simpa using h5)]
  refine (ag true).mono ?_
  rintro _ ⟨n, f, rfl, h⟩
  exact ⟨_, rfl, rfl, _, rfl, _, _, _, rfl, _, rfl, _, rfl, _, rfl, _, rfl, _, rfl,  n, f, rfl, h⟩
 ·simp only [beq_iff_eq] at h0 h1 h2 h3 h4 h5
  rw [zr1 rows _ s r (by omega) h4 h5]
  refine (ag false).mono ?_
  rintro _ ⟨n, f, rfl, h⟩
  exact ⟨_, rfl, rfl, _, rfl, _, _, _, rfl, _, rfl, _, rfl, _, rfl, _, rfl, _, rfl,  n, f, rfl, h⟩
theorem zr3 (n f : Bool) (ls : List (Bool × Bool × List Int)) (hr : ∀ q ∈ ls, R32 q.2.2) : PCall Tryz.prog 13 [.sl n f (ls.map cY)] fun x => ∃ (n f : Bool) (ls' : List (Bool × Bool × List Int)), x = .sl n f (ls'.map cY) /\ iS ls' := by
 refine zrs _ _ _ (fun x _ s => 0 <= x /\ x <= 6 /\ ∃ out : List (Bool × Bool × List Int), s = out.map cY /\ out.length = x.toNat /\ (∀ q ∈ out, R32 q.2.2) /\ ∀ q ∈ out, q.2.2.length < 100000) (fun x _ _ => 6 - x.toNat) ?_
 unfold zhq
 refine ⟨⟨rfl, Int.le_refl _, by omega, [], rfl, rfl, (fun q hq => by cases hq), (fun q hq => by cases hq)⟩, ?_⟩
 rintro x n0 _ ⟨x0, x6, out, rfl, hl, h1, h2⟩
 refine aF (fun hc => ?_) (fun hc => ?_)
 ·simp only [Bool.and_eq_true, decide_eq_true_eq, List.length_map] at hc
  have hi : x.toNat < ls.length := by omega
  obtain ⟨g1, g2⟩ := zQ x0 hi
  refine ⟨g1, _, _, _, by rw [g2]; rfl, ?_⟩
  refine (zp9 _ _ ls[x.toNat].2.2 8 (by omega)).mono ?_
  rintro _ ⟨n1, f1, rfl⟩
  have hw : i64.wrap (x + 1) = x + 1 := aD (by omega) (by omega)
  rw [hw]
  refine ⟨_, _, _, rfl, ⟨pO (enc := cY) (fun _ => rfl) [(n1, f1, ls[x.toNat].2.2.take 8)], by rw [List.length_map]; omega⟩, rfl, ⟨by omega, by omega, out ++ [(n1, f1, ls[x.toNat].2.2.take 8)], by rw [List.map_append]; rfl, by rw [List.length_append, List.length_singleton]; omega, fun q hq => ?_, fun q hq => ?_⟩, by dsimp only; omega⟩
  ·rcases List.mem_append.1 hq with hq | hq
   ·exact h1 q hq
   ·rw [List.mem_singleton.1 hq]; exact (hr _ (List.getElem_mem hi)).take _
  ·rcases List.mem_append.1 hq with hq | hq
   ·exact h2 q hq
   ·rw [List.mem_singleton.1 hq]; have := zq0 ls[x.toNat].2.2 8; dsimp only; omega
 ·exact ⟨_, _, out, rfl, by omega, h1, h2⟩
end
end Go.Eng



namespace Go.Eng
open Go Go.Proofs Go.Eng.Rows Go.Eng.Trie Go.Eng.Srt
def mB (d : Int × Int) : List PV := [.int .i64 d.1, .int .i32 d.2]
theorem zr4 {l : List (Int × Int)} {i : Int} (h0 : 0 <= i) (h : i.toNat < l.length) : aM (l.map mB) i 2 /\ (l.map mB).getD i.toNat [] = mB l[i.toNat] :=
 ⟨bK (enc := mB) (fun _ => rfl) h0 (by omega), bX h⟩
def D32 (l : List (Int × Int)) : Prop := ∀ d ∈ l, -2147483648 <= d.2 /\ d.2 <= 2147483647
theorem wD : Tryz.prog.underlying 38 = some (.slice 42) := by kernel_rfl
theorem zr5 {v : PV} (h : jH Tryz.prog 8 38 v) : ∃ (nl : Bool) (l : List (Int × Int)), v = .sl nl false (l.map mB) /\ D32 l := by
 obtain ⟨nl, es, e, _, _, h3⟩ := wB wD (sG (by kernel_rfl) h)
 cases e
 obtain ⟨m, rfl, hm⟩ := sF (f := mB) (Q := fun d => -2147483648 <= d.2 /\ d.2 <= 2147483647) (l := es) fun x hx => by
  obtain ⟨hl, h4⟩ := zkz (l := [(3, 0, 1), (21, 1, 1)]) (by kernel_rfl) (h3 x hx)
  have hl : x.length = 2 := hl.trans (by kernel_rfl)
  match x, hl with
  | [a, b], _ =>
    obtain ⟨m0, e0, _⟩ := sE w3 (h4 (3, 0, 1) (by simp))
    obtain ⟨m1, e1, h1⟩ := sE v21 (h4 (21, 1, 1) (by simp))
    simp at e0 e1
    subst e0; subst e1
    exact ⟨(m0, m1), rfl, zco h1⟩
 exact ⟨nl, m, rfl, hm⟩
theorem zr6 {v : PV} (h : jH Tryz.prog 8 4 v) : ∃ b : Bool, v = .bool b := by
 obtain ⟨b, e⟩ := zk0 (by kernel_rfl) (sG (by kernel_rfl) h)
 cases e
 exact ⟨b, rfl⟩
def T25 : List (List Int) := [[], [99, 97, 98], [97, 98, 99]]
theorem g1' : mA tab T25 ⟨true, [], 0, 0, false, 0, 0⟩ 97 = ⟨true, [97], 1, 1, false, 0, 0⟩ := by kernel_rfl
theorem g2' : c9 tab T25 ⟨true, [97], 1, 1, false, 0, 0⟩ true = ⟨true, [97], 2, 0, false, 0, 0⟩ := by kernel_rfl
theorem g3' : c9 tab T25 ⟨true, [97], 2, 0, false, 0, 0⟩ true = ⟨true, [97], 2, 0, true, 0, 0⟩ := by kernel_rfl
theorem awake25 : PCall Tryz.prog 15 [] fun v => v = .bool true := by
 refine zrr ?_; unfold zR
 refine p42.mono ?_
 rintro _ ⟨n, f, rfl⟩
 refine ⟨_, _, _, rfl, ?_⟩
 refine (zgr n f).mono fun t ht => ?_
 have hls : iS [(true, true, []), (false, true, [99, 97, 98]), (false, true, [97, 98, 99])] := ⟨by simp, fun q hq => by
  simp only [List.mem_cons, List.not_mem_nil, or_false] at hq
  rcases hq with rfl | rfl | rfl
  ·exact fun x hx => by cases hx
  ·exact fun x hx => by simp at hx; omega
  ·exact fun x hx => by simp at hx; omega, fun q hq => by
  simp only [List.mem_cons, List.not_mem_nil, or_false] at hq
  rcases hq with rfl | rfl | rfl <;> simp⟩
 have hT : cR [(true, true, []), (false, true, [99, 97, 98]), (false, true, [97, 98, 99])] = T25 := rfl
 refine (zht true 0 0).mono ?_
 rintro _ rfl
 refine ⟨_, rfl, rfl, _, rfl, _, _, _, rfl, _, rfl, _, rfl, _, rfl, _, rfl, _, rfl, ?_⟩
 refine (zhv nJ qE ht true true false true _ hls (m := 0) (by omega) ⟨true, [], 0, 0, false, 0, 0⟩ ⟨(fun x hx => by cases hx), Nat.le_refl _, by dsimp only; omega, by dsimp only; omega⟩ (fun _ => rfl) 97 (by omega)).mono ?_
 rintro _ ⟨n1, f1, rfl, hn1⟩
 rw [hT, g1'] at hn1 ⊢
 refine ⟨_, rfl, rfl, _, rfl, _, _, _, rfl, _, rfl, _, rfl, _, rfl, _, rfl, _, rfl, ?_⟩
 have k1 : ∀ {a b : Int} {c : Bool}, (-2199023255552 <= a /\ a <= 2199023255552) -> KOK 1 ⟨true, [97], a, b, c, 0, 0⟩ := fun {a b c} h => ⟨(fun x hx => by simp at hx; omega), Nat.le_refl _, h, by dsimp only; omega⟩
 refine (zV nJ qE ht n1 f1 false true _ hls (m := 1) (by omega) _ (k1 (by omega)) hn1 true).mono ?_
 rintro _ ⟨n2, f2, rfl, hn2⟩
 rw [hT, g2'] at hn2 ⊢
 refine ⟨_, rfl, rfl, _, rfl, _, _, _, rfl, _, rfl, _, rfl, _, rfl, _, rfl, _, rfl, ?_⟩
 refine (zV nJ qE ht n2 f2 false true _ hls (m := 1) (by omega) _ (k1 (by omega)) hn2 true).mono ?_
 rintro _ ⟨n3, f3, rfl, hn3⟩
 rw [hT, g3'] at hn3 ⊢
 exact ⟨_, rfl, rfl, _, rfl, _, _, _, rfl, _, rfl, _, rfl, _, rfl, _, rfl, _, rfl, bB rfl (bB rfl (bB rfl (bB rfl (bB rfl (bB rfl rfl)))))⟩
theorem zhw : PCall Tryz.prog 15 [] fun v => ∃ b : Bool, v = .bool b /\ PV.bool b = .bool true := awake25.mono fun v e => ⟨true, e, rfl⟩
structure mC (T : List (List Int)) (s : SeekS) : Prop where
 a : 0 <= s.line /\ s.line < T.length
 h : 0 <= s.ha /\ s.ha < T.length
theorem zW {T : List (List Int)} {s : SeekS} (h : mC T s) (rows : List Row) (i : Int) : mC T (eC rows T s i) /\ ((eC rows T s i).failed = true -> (eC rows T s i).line = s.line /\ (eC rows T s i).place = s.place) /\
 ((eC rows T s i).failed = false -> ∃ b c : Nat, (eC rows T s i).place = b /\ findL rows (T.getD (eC rows T s i).line.toNat []) (bN rows (eC rows T s i).pat) = some (b, c)) := by
 rcases zT rows T s i with ⟨_, e⟩ | ⟨a, b, c, _, h1, h2, e⟩
 ·rw [e]; exact ⟨⟨h.a, h.h⟩, fun _ => ⟨rfl, rfl⟩, (fun e => by cases e)⟩
 ·rw [e]; exact ⟨⟨by dsimp only; omega, h.h⟩, (fun e => by cases e), fun _ => ⟨b, c, rfl, h2⟩⟩
theorem zr7 {T : List (List Int)} {s : SeekS} (h : mC T s) (rows : List Row) (k r : Int) : mC T (doK rows T s k r) /\ ((doK rows T s k r).failed = true -> k ≠ 4 -> (doK rows T s k r).line = s.line /\ (doK rows T s k r).place = s.place) /\
 ((doK rows T s k r).failed = false -> (doK rows T s k r).pat ≠ [] -> ∃ b c : Nat, (doK rows T s k r).place = b /\ findL rows (T.getD (doK rows T s k r).line.toNat []) (bN rows (doK rows T s k r).pat) = some (b, c)) := by
 have ag : ∀ b, mC T (c9 rows T s b) /\ ((c9 rows T s b).failed = true -> k ≠ 4 -> (c9 rows T s b).line = s.line /\ (c9 rows T s b).place = s.place) /\
  ((c9 rows T s b).failed = false -> (c9 rows T s b).pat ≠ [] -> ∃ b' c : Nat, (c9 rows T s b).place = b' /\ findL rows (T.getD (c9 rows T s b).line.toNat []) (bN rows (c9 rows T s b).pat) = some (b', c)) := fun b => by
  unfold c9
  split
  ·rename_i he
   exact ⟨⟨h.a, h.h⟩, (fun e => by cases e), fun _ hp => absurd he hp⟩
  ·obtain ⟨q1, q2, q3⟩ := zW (s := ⟨b, s.pat, s.line, s.place, s.failed, s.ha, s.hp⟩) ⟨h.a, h.h⟩ rows (s.line + eZ b)
   exact ⟨q1, fun e _ => q2 e, fun e _ => q3 e⟩
 unfold Go.Eng.doK
 split
 ·unfold mA
  obtain ⟨q1, q2, q3⟩ := zW (s := ⟨s.back, s.pat ++ [r], s.line, s.place, s.failed, s.ha, s.hp⟩) ⟨h.a, h.h⟩ rows s.line
  exact ⟨q1, fun e _ => q2 e, fun e _ => q3 e⟩
 ·split
  ·rename_i h4
   unfold kS
   split
   ·exact ⟨⟨h.h, h.h⟩, (fun e => by cases e), fun _ hp => absurd rfl hp⟩
   ·obtain ⟨q1, q2, q3⟩ := zW (s := ⟨s.back, s.pat.take (s.pat.length - 1), s.ha, s.hp, false, s.ha, s.hp⟩) ⟨h.h, h.h⟩ rows s.ha
    exact ⟨q1, fun _ hk => absurd h4 hk, fun e _ => q3 e⟩
  ·split
   ·exact ag true
   ·exact ag false
theorem zr8 (n f : Bool) (ls : List (Bool × Bool × List Int)) (hr : ∀ q ∈ ls, R32 q.2.2) (sb : Bool) (i : Int) (n2 f2 : Bool) (ds : List (Int × Int)) (hd : D32 ds) : PCall Tryz.prog 5 [.sl n f (ls.map cY), .bool sb, .int .i64 i, .sl n2 f2 (ds.map mB)] fun v => v = .bool true := by
 refine zru _ _ _ _ _ _ _ _
  (fun _ _ s0 _ _ s9 x10 x12 b0 m0 _ p0 l0 c0 d0 e0 g0 => ∃ (ls : List (Bool × Bool × List Int)) (s : SeekS), iS ls /\ s0 = ls.map cY /\ s9 = bD tab /\ eV tab x10 /\ 0 <= x12 /\ x12 <= 20 /\ KOK x12.toNat s /\ mC (cR ls) s /\ (m0 = true -> s.pat = []) /\
   (b0 = s.back /\ p0 = aA s.pat /\ l0 = s.line /\ c0 = s.place /\ d0 = s.failed /\ e0 = s.ha /\ g0 = s.hp))
  (fun _ _ _ _ _ _ _ x12 _ _ _ _ _ _ _ _ _ => 20 - x12.toNat) ?_
 unfold zhs
 refine (zr3 n f ls hr).mono ?_
 rintro _ ⟨n1, f1, ls', rfl, hls⟩
 refine ⟨_, _, _, rfl, aF (fun _ => zhw) (fun hc => ?_)⟩
 simp only [Bool.or_eq_true, decide_eq_true_eq, ge_iff_le, List.length_map] at hc
 have hn := hls.n
 refine p42.mono ?_
 rintro _ ⟨n3, f3, rfl⟩
 refine ⟨_, _, _, rfl, ?_⟩
 refine (zgr n3 f3).mono fun t ht => ?_
 refine (zht sb i 0).mono ?_
 rintro _ rfl
 refine ⟨_, rfl, rfl, _, rfl, _, _, _, rfl, _, rfl, _, rfl, _, rfl, _, rfl, _, rfl, ⟨rfl, ls', ⟨sb, [], i, 0, false, i, 0⟩, hls, rfl, rfl, ht, Int.le_refl _, by omega, ⟨(fun x hx => by cases hx), Nat.le_refl _, by dsimp only; omega, by dsimp only; omega⟩, ⟨by rw [nM]; dsimp only; omega, by rw [nM]; dsimp only; omega⟩, fun _ => rfl, ⟨rfl, rfl, rfl, rfl, rfl, rfl, rfl⟩⟩, ?_⟩
 clear ht t hc hn hls ls' n1 f1
 rintro q0 g0 _ q1 g1 _ t x _ m0 f0 _ _ _ _ _ _ ⟨ls, s, hls, rfl, rfl, ht, x0, x1, hs, ha, hm, ⟨rfl, rfl, rfl, rfl, rfl, rfl, rfl⟩⟩
 refine aF (fun hc => ?_) (fun hc => zhw)
 simp only [Bool.and_eq_true, decide_eq_true_eq, List.length_map] at hc
 have hi : x.toNat < ds.length := by omega
 obtain ⟨g1, g2⟩ := zr4 x0 hi
 have hw : i64.wrap (x + 1) = x + 1 := aD (by omega) (by omega)
 rw [hw]
 have hr1 := hd _ (List.getElem_mem hi)
 generalize hkr : ds[x.toNat] = kr at *
 obtain ⟨k, r⟩ := kr
 have hT : (cR ls).length < 100000 := by rw [nM]; exact hls.n
 refine ⟨g1, k, by rw [g2]; rfl, r, by rw [g2]; rfl, and_self_iff.2 ?_⟩
 refine (zr2 nJ qE ht m0 f0 _ _ ls hls (m := x.toNat) (by omega) s hs hm k r hr1).mono ?_
 rintro _ ⟨n4, f4, rfl, hn4⟩
 refine ⟨_, rfl, rfl, _, rfl, _, _, _, rfl, _, rfl, _, rfl, _, rfl, _, rfl, _, rfl, ?_⟩
 have hs' := hs.doK tab hT (k := k) (r := r) hr1
 rw [show x.toNat + 1 = (x + 1).toNat by omega] at hs'
 obtain ⟨a1, a2, a3⟩ := zr7 ha tab k r
 have hpl : (doK tab (cR ls) s k r).pat.length < 1000000 := by have := hs'.l; omega
 have hln := a1.a
 rw [nM] at hln
 generalize doK tab (cR ls) s k r = u at *
 have hi2 : u.line.toNat < ls.length := by omega
 have fin : ∀ {J : Prop}, J -> J := fun h => h
 have tail : ∀ {A B C : Prop}, A -> B -> C -> A /\ B /\ C := fun a b c => ⟨a, b, c⟩
 have hJ : ∃ (ls' : List (Bool × Bool × List Int)) (s : SeekS), iS ls' /\ ls.map cY = ls'.map cY /\ bD tab = bD tab /\ eV tab t /\ 0 <= x + 1 /\ x + 1 <= 20 /\ KOK (x + 1).toNat s /\ mC (cR ls') s /\ (n4 = true -> s.pat = []) /\
  (u.back = s.back /\ aA u.pat = aA s.pat /\ u.line = s.line /\ u.place = s.place /\ u.failed = s.failed /\ u.ha = s.ha /\ u.hp = s.hp) :=
  ⟨ls, u, hls, rfl, rfl, ht, by omega, by omega, hs', a1, hn4, ⟨rfl, rfl, rfl, rfl, rfl, rfl, rfl⟩⟩
 have hmu : 20 - (x + 1).toNat < 20 - x.toNat := by omega
 refine bA (by simp only [decide_eq_true_eq]; omega) (bA (by simp only [decide_eq_true_eq, List.length_map, ge_iff_le]; omega) ?_)
 have rest : u.failed = false -> u.pat ≠ [] -> aM (ls.map cY) u.line 1 /\ ∃ b c, (ls.map cY).getD u.line.toNat [] = cY ls[u.line.toNat] /\ R32 ls[u.line.toNat].2.2 /\ ls[u.line.toNat].2.2.length < 100000 /\ u.place = (b : Nat) /\ findL tab ls[u.line.toNat].2.2 (bN tab u.pat) = some (b, c) := fun h1 h2 => by
  obtain ⟨b, c, e1, e2⟩ := a3 h1 h2
  obtain ⟨z1, z2⟩ := zQ (by omega) hi2
  rw [zhj hi2] at e2
  exact ⟨z1, b, c, z2, hls.r _ (List.getElem_mem hi2), hls.l _ (List.getElem_mem hi2), e1, e2⟩
 cases hfl : u.failed with
 | true =>
   refine bB rfl ⟨g1, k, by rw [g2]; rfl, aF (fun h4 => ?_) (fun h4 => ?_)⟩
   ·simp only [bne_iff_ne, ne_eq] at h4
    obtain ⟨e1, e2⟩ := a2 hfl h4
    rw [hfl] at hJ
    exact bA (by simp [e1]) (bA (by simp [e2]) (bA (by simp) ⟨rfl, hJ, hmu⟩))
   ·rw [hfl] at hJ
    exact bA (by simp) ⟨rfl, hJ, hmu⟩
 | false =>
   rw [hfl] at hJ
   refine bA (by simp) (bB (by simp) (aF (fun h5 => ?_) (fun h5 => ⟨rfl, hJ, hmu⟩)))
   simp only [decide_eq_true_eq, gt_iff_lt, bC] at h5
   obtain ⟨z1, b, c, z2, z3, z4, z5, z6⟩ := rest hfl (fun e => by rw [e] at h5; exact absurd h5 (by simp))
   refine ⟨z1, _, _, _, by rw [z2]; rfl, ?_⟩
   refine (zrb nJ qE _ _ _ _ _ _ zgq _ u.pat z3 z4 hs'.r (by omega)).mono ?_
   rintro _ rfl
   rw [z6]
   exact ⟨_, rfl, rfl, _, rfl, _, rfl, _, rfl, _, rfl, _, rfl, _, rfl, bA (by simp) (bA (by simp [z5]) ⟨rfl, hJ, hmu⟩)⟩
theorem lawSeekFinds {pvs : List PV} (h : pN Tryz.prog 8 Tryz.f5.params.toList pvs) : PCall Tryz.prog 5 pvs fun v => v = .bool true := by
 obtain ⟨v0, r0, rfl, h0, v1, r1, rfl, h1, v2, r2, rfl, h2, v3, r3, rfl, h3, rfl⟩ : pN Tryz.prog 8 [22, 4, 3, 38] pvs := h
 obtain ⟨nl, ls, rfl, hr⟩ := zrk h0
 obtain ⟨b, rfl⟩ := zr6 h1
 obtain ⟨i, rfl⟩ := zq1 h2
 obtain ⟨nl2, ds, rfl, hd⟩ := zr5 h3
 exact zr8 _ _ ls hr b i _ _ ds hd
end Go.Eng


