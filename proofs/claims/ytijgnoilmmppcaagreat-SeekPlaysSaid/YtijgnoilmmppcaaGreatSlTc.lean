/- States run over the code: what each function gives, and what follows. -/
import Derived.Test.YtijgnoilmmppcaaGreatSlTb
open Go.IntKind (i64 i32)
set_option linter.unusedVariables false
set_option linter.unusedSimpArgs false
set_option maxRecDepth 100000
set_option linter.constructorNameAsVariable false
namespace Go.Eng
open Go Go.Proofs Go.Eng.Rows Go.Eng.Srt
def iT (key : Int -> Int) (nl : Bool) (T : PV) (P S R : List Int) (r : LV) (h' : Hp) : Prop := ∃ S' : List Int, r = .tup [] /\ h' = [.sl (21, 1) false nl (aA (P ++ (S' ++ R))), .box [.pv T]] /\ Srtd key S' /\ Stab key S S'
section
variable {key : Int -> Int} {T : PV}
theorem qD {i j : Int} (h0 : 0 <= i) (h1 : i <= j) (h2 : j <= 1000000000000) : i64.wrap ((IntKind.u64.wrap (i64.wrap (i + j))).fdiv (2 ^ 1)) = (i + j) / 2 := zeg h0 h1 (by omega)
theorem zpw (hc : iS T key) (lo hi : Nat) (nl : Bool) (P Y R : List Int) (x : Int) (a m b : Int) (ha : 0 <= a) (hP : P.length = lo + a.toNat) (hm : m = a + 1) (hb : b = m + Y.length) (hhi : (lo : Int) + b <= hi) (hr : R32 (P ++ ([x] ++ (Y ++ R)))) (hlen : hi < 1000000000000) (hY : Srtd key Y) :
 ACall Tryz.prog 175 [.sub 0 lo hi, .pv (.int .i64 a), .pv (.int .i64 m), .pv (.int .i64 b), .fn 145 [.box 1 0]] [.sl (21, 1) false nl (aA (P ++ ([x] ++ (Y ++ R)))), .box [.pv T]] (iT key nl T P ([x] ++ Y) R) := by
 have hat : ∀ h : Int, m <= h -> h < b -> (P ++ ([x] ++ (Y ++ R)))[lo + h.toNat]? = some (Y.getD (h - m).toNat 0) := fun h h1 h2 => by
  have e : P ++ ([x] ++ (Y ++ R)) = (P ++ [x]) ++ (Y ++ R) := by simp
  rw [e, List.getElem?_append_right (by simp; omega), show lo + h.toNat - (P ++ [x]).length = (h - m).toNat by simp; omega, List.getElem?_append_left (by omega)]
  exact qC (by omega)
 have hax : (P ++ ([x] ++ (Y ++ R)))[lo + a.toNat]? = some x := by rw [<- hP]; exact nM P (Y ++ R) x
 refine wL _ _ _ _ _ _ _ _
  (fun i j s => s = aA (P ++ ([x] ++ (Y ++ R))) /\ m <= i /\ i <= j /\ j <= b /\ (∀ h, m <= h -> h < i -> key (Y.getD (h - m).toNat 0) < key x) /\ (∀ h, j <= h -> h < b -> ¬ key (Y.getD (h - m).toNat 0) < key x)) (fun i j _ => (j - i).toNat)
  (fun i k s => m <= i /\ i <= b /\ (∀ h, m <= h -> h < i -> key (Y.getD (h - m).toNat 0) < key x) /\ (∀ h, i <= h -> h < b -> ¬ key (Y.getD (h - m).toNat 0) < key x) /\ a <= k /\ k <= i - 1 /\ s = aA (P ++ (Y.take (k - a).toNat ++ (x :: (Y.drop (k - a).toNat ++ R))))) (fun i k _ => (i - 1 - k).toNat)
  (fun _ _ _ => True) (fun _ _ _ => 0) (fun _ _ _ => True) (fun _ _ _ => 0) (fun _ _ _ => True) (fun _ _ _ => 0) ?_
 unfold sT
 have w1 : i64.wrap (m - a) = 1 := by rw [aD (by omega) (by omega)]; omega
 refine bA (by rw [w1]; rfl) ⟨⟨rfl, rfl, Int.le_refl _, by omega, Int.le_refl _, fun h h1 h2 => by omega, fun h h1 h2 => by omega⟩, ?_⟩
 rintro i j _ ⟨rfl, i0, hij, hjb, hlt, hge⟩
 refine aF (fun hc1 => ?_) (fun hc1 => ?_)
 ·simp only [decide_eq_true_eq] at hc1
  rw [qD (by omega) (by omega) (by omega)]
  obtain ⟨h, hh⟩ : ∃ h, h = (i + j) / 2 := ⟨_, rfl⟩
  rw [<- hh]
  have b1 : i <= h /\ h < j := by omega
  have gy := hat h (by omega) (by omega)
  have wh : i64.wrap (h + 1) = h + 1 := aD (by omega) (by omega)
  rw [wh]
  refine ⟨⟨by omega, by omega, by rw [cS gy]; rfl⟩, _, by rw [cS gy]; rfl, ⟨by omega, by omega, by rw [cS hax]; rfl⟩, x, by rw [cS hax]; rfl, ?_⟩
  refine (hc _ x (kS hr gy) (kS hr hax)).mono ?_
  rintro _ ⟨n2, rfl, hn2⟩
  refine ⟨n2, rfl, rfl, aF (fun hl => ?_) (fun hl => ?_)⟩
  ·simp only [decide_eq_true_eq] at hl
   have hk := hn2.1 hl
   refine ⟨rfl, ⟨rfl, by omega, by omega, by omega, fun q q1 q2 => ?_, hge⟩, by dsimp only; omega⟩
   have := hY.get (i := (q - m).toNat) (j := (h - m).toNat) (by omega) (by omega)
   omega
  ·simp only [decide_eq_true_eq] at hl
   have hk : ¬ key (Y.getD (h - m).toNat 0) < key x := fun h => hl (hn2.2 h)
   refine ⟨rfl, ⟨rfl, by omega, by omega, by omega, hlt, fun q q1 q2 => ?_⟩, by dsimp only; omega⟩
   have := hY.get (i := (h - m).toNat) (j := (q - m).toNat) (by omega) (by omega)
   omega
 ·simp only [decide_eq_true_eq] at hc1
  have : i = j := by omega
  subst this
  refine ⟨⟨rfl, i0, hjb, hlt, hge, Int.le_refl _, by omega, by simp⟩, ?_⟩
  clear hc1 hij hjb hlt hge i0
  rintro i k _ ⟨i0, ib, hlt, hge, k0, k1, rfl⟩
  have wi : i64.wrap (i - 1) = i - 1 := aD (by omega) (by omega)
  rw [wi]
  refine aF (fun hc2 => ?_) (fun hc2 => ?_)
  ·simp only [decide_eq_true_eq] at hc2
   have wk : i64.wrap (k + 1) = k + 1 := aD (by omega) (by omega)
   rw [wk]
   have hlk : (k - a).toNat < Y.length := by omega
   have hn : (k + 1 - a).toNat = (k - a).toNat + 1 := by omega
   have dy : Y.drop (k - a).toNat = Y[(k - a).toNat] :: Y.drop ((k - a).toNat + 1) := List.drop_eq_getElem_cons hlk
   have ty : Y.take ((k - a).toNat + 1) = Y.take (k - a).toNat ++ [Y[(k - a).toNat]] := c7 hlk
   have lt : (Y.take (k - a).toNat).length = (k - a).toNat := by rw [List.length_take]; omega
   obtain ⟨D, hDe⟩ : ∃ D, D = P ++ (Y.take (k - a).toNat ++ (x :: (Y.drop (k - a).toNat ++ R))) := ⟨_, rfl⟩
   have hRD : R32 D := fun y hy => hr y (by
    rw [hDe] at hy
    simp only [List.mem_append, List.mem_cons] at hy ⊢
    rcases hy with hy | hy | hy | hy | hy
    ·exact .inl hy
    ·exact .inr (.inr (.inl (List.mem_of_mem_take hy)))
    ·exact .inr (.inl (by simp [hy]))
    ·exact .inr (.inr (.inl (List.mem_of_mem_drop hy)))
    ·exact .inr (.inr (.inr hy)))
   rw [<- hDe]
   have hD : D = (P ++ Y.take (k - a).toNat) ++ x :: Y[(k - a).toNat] :: (Y.drop ((k - a).toNat + 1) ++ R) := by rw [hDe, dy]; simp only [List.append_assoc, List.cons_append, List.nil_append]
   have hk0 : lo + k.toNat = (P ++ Y.take (k - a).toNat).length := by rw [List.length_append, lt]; omega
   have hk1 : lo + (k + 1).toNat = (P ++ Y.take (k - a).toNat).length + 1 := by rw [List.length_append, lt]; omega
   have gx : D[lo + k.toNat]? = some x := by rw [hD, hk0, nM]
   have gy : D[lo + (k + 1).toNat]? = some Y[(k - a).toNat] := by rw [hD, hk1, List.getElem?_append_right (by omega)]; simp
   have hsw : (D.set (lo + k.toNat) Y[(k - a).toNat]).set (lo + (k + 1).toNat) x = P ++ (Y.take (k + 1 - a).toNat ++ (x :: (Y.drop (k + 1 - a).toNat ++ R))) := by
    rw [hD, hk0, hk1, zps, hn, ty]; simp only [List.append_assoc, List.cons_append, List.nil_append]
   obtain ⟨t1, t2, t3, t4⟩ := tJ D gx gy (by omega) Y[(k - a).toNat] x
   rw [hsw] at t1
   have hla : 1 <= ((aA D).getD (lo + k.toNat) []).length := by rw [t2]; exact Nat.le_refl _
   refine ⟨⟨by omega, by omega, t3⟩, Y[(k - a).toNat], by rw [cS gy]; rfl, ⟨by omega, by omega, t2⟩, x, by rw [cS gx]; rfl, ⟨by omega, by omega, t2⟩, ?_⟩
   refine ⟨?_, ?_⟩
   all_goals exact ⟨⟨rfl, hla⟩, ⟨by omega, by omega, t4⟩, ⟨rfl, by rw [t4]; exact Nat.le_refl _⟩, rfl, ⟨i0, ib, hlt, hge, by omega, by omega, t1⟩, by dsimp only; omega⟩
  ·simp only [decide_eq_true_eq] at hc2
   have hk : (k - a).toNat = (i - m).toNat := by omega
   rw [hk]
   have h1 : ∀ y ∈ Y.take (i - m).toNat, key y < key x := fun y hy => by
    obtain ⟨q, hq, rfl⟩ := kT hy
    rw [List.length_take] at hq
    have e : (Y.take (i - m).toNat).getD q 0 = Y.getD q 0 := by simp only [List.getD]; rw [List.getElem?_take_of_lt (by omega)]
    rw [e]
    have := hlt (m + q) (by omega) (by omega)
    rwa [show (m + (q : Int) - m).toNat = q by omega] at this
   have h2 : ∀ y ∈ Y.drop (i - m).toNat, key x <= key y := fun y hy => by
    obtain ⟨q, hq, rfl⟩ := kT hy
    rw [List.length_drop] at hq
    have e : (Y.drop (i - m).toNat).getD q 0 = Y.getD ((i - m).toNat + q) 0 := by simp only [List.getD, List.getElem?_drop]
    rw [e]
    have := hge (i + q) (by omega) (by omega)
    rw [show (i + (q : Int) - m).toNat = (i - m).toNat + q by omega] at this
    omega
   have hYs : Srtd key (Y.take (i - m).toNat ++ Y.drop (i - m).toNat) := by rw [List.take_append_drop]; exact hY
   refine ⟨Y.take (i - m).toNat ++ x :: Y.drop (i - m).toNat, rfl, by simp, zge hYs (fun y hy => Int.le_of_lt (h1 y hy)) h2, ?_⟩
   have := Stab.rot1 (key := key) (u := []) (v := Y.drop (i - m).toNat) (a := [x]) (b := Y.take (i - m).toNat) (fun p hp q hq => by simp at hp; subst hp; have := h1 q hq; omega)
   simpa using this
end
end Go.Eng



namespace Go.Eng
open Go Go.Proofs Go.Eng.Rows Go.Eng.Srt
section
variable {key : Int -> Int} {T : PV}
theorem zpx (hc : iS T key) (lo hi : Nat) (nl : Bool) (P X R : List Int) (y : Int) (a m b : Int) (ha : 0 <= a) (hP : P.length = lo + a.toNat) (hm : m = a + X.length) (hX1 : X.length ≠ 1) (hb : b = m + 1) (hhi : (lo : Int) + b <= hi) (hr : R32 (P ++ (X ++ ([y] ++ R)))) (hlen : hi < 1000000000000) (hX : Srtd key X) :
 ACall Tryz.prog 175 [.sub 0 lo hi, .pv (.int .i64 a), .pv (.int .i64 m), .pv (.int .i64 b), .fn 145 [.box 1 0]] [.sl (21, 1) false nl (aA (P ++ (X ++ ([y] ++ R)))), .box [.pv T]] (iT key nl T P (X ++ [y]) R) := by
 have hat : ∀ h : Int, a <= h -> h < m -> (P ++ (X ++ ([y] ++ R)))[lo + h.toNat]? = some (X.getD (h - a).toNat 0) := fun h h1 h2 => by
  rw [List.getElem?_append_right (by omega), show lo + h.toNat - P.length = (h - a).toNat by omega, List.getElem?_append_left (by omega)]
  exact qC (by omega)
 have hay : (P ++ (X ++ ([y] ++ R)))[lo + m.toNat]? = some y := by
  have e : P ++ (X ++ ([y] ++ R)) = (P ++ X) ++ y :: R := by simp
  rw [e, show lo + m.toNat = (P ++ X).length by simp; omega, nM]
 refine wL _ _ _ _ _ _ _ _
  (fun _ _ _ => True) (fun _ _ _ => 0) (fun _ _ _ => True) (fun _ _ _ => 0)
  (fun i j s => s = aA (P ++ (X ++ ([y] ++ R))) /\ a <= i /\ i <= j /\ j <= m /\ (∀ h, a <= h -> h < i -> ¬ key y < key (X.getD (h - a).toNat 0)) /\ (∀ h, j <= h -> h < m -> key y < key (X.getD (h - a).toNat 0))) (fun i j _ => (j - i).toNat)
  (fun i k s => a <= i /\ i <= m /\ (∀ h, a <= h -> h < i -> ¬ key y < key (X.getD (h - a).toNat 0)) /\ (∀ h, i <= h -> h < m -> key y < key (X.getD (h - a).toNat 0)) /\ i <= k /\ k <= m /\ s = aA (P ++ (X.take (k - a).toNat ++ (y :: (X.drop (k - a).toNat ++ R))))) (fun i k _ => (k - i).toNat)
  (fun _ _ _ => True) (fun _ _ _ => 0) ?_
 unfold sT
 have w1 : i64.wrap (m - a) = X.length := by rw [aD (by omega) (by omega)]; omega
 have w2 : i64.wrap (b - m) = 1 := by rw [aD (by omega) (by omega)]; omega
 refine aN (by rw [w1]; simp; omega) (bA (by rw [w2]; rfl) ⟨⟨rfl, rfl, Int.le_refl _, by omega, Int.le_refl _, fun h h1 h2 => by omega, fun h h1 h2 => by omega⟩, ?_⟩)
 rintro i j _ ⟨rfl, i0, hij, hjb, hlt, hge⟩
 refine aF (fun hc1 => ?_) (fun hc1 => ?_)
 ·simp only [decide_eq_true_eq] at hc1
  rw [qD (by omega) (by omega) (by omega)]
  obtain ⟨h, hh⟩ : ∃ h, h = (i + j) / 2 := ⟨_, rfl⟩
  rw [<- hh]
  have b1 : i <= h /\ h < j := by omega
  have gx := hat h (by omega) (by omega)
  have wh : i64.wrap (h + 1) = h + 1 := aD (by omega) (by omega)
  rw [wh]
  refine ⟨⟨by omega, by omega, by rw [cS hay]; rfl⟩, y, by rw [cS hay]; rfl, ⟨by omega, by omega, by rw [cS gx]; rfl⟩, _, by rw [cS gx]; rfl, ?_⟩
  refine (hc y _ (kS hr hay) (kS hr gx)).mono ?_
  rintro _ ⟨n2, rfl, hn2⟩
  refine ⟨n2, rfl, rfl, aF (fun hl => ?_) (fun hl => ?_)⟩
  ·simp only [Bool.not_eq_true', decide_eq_false_iff_not] at hl
   have hk : ¬ key y < key (X.getD (h - a).toNat 0) := fun h => hl (hn2.2 h)
   refine ⟨rfl, ⟨rfl, by omega, by omega, by omega, fun q q1 q2 => ?_, hge⟩, by dsimp only; omega⟩
   have := hX.get (i := (q - a).toNat) (j := (h - a).toNat) (by omega) (by omega)
   omega
  ·simp only [Bool.not_eq_true', decide_eq_false_iff_not, Decidable.not_not] at hl
   have hk := hn2.1 hl
   refine ⟨rfl, ⟨rfl, by omega, by omega, by omega, hlt, fun q q1 q2 => ?_⟩, by dsimp only; omega⟩
   have := hX.get (i := (h - a).toNat) (j := (q - a).toNat) (by omega) (by omega)
   omega
 ·simp only [decide_eq_true_eq] at hc1
  have : i = j := by omega
  subst this
  have hml : (m - a).toNat = X.length := by omega
  refine ⟨⟨rfl, i0, hjb, hlt, hge, by omega, Int.le_refl _, by rw [hml]; simp⟩, ?_⟩
  clear hc1 hij hjb hlt hge i0
  rintro i k _ ⟨i0, ib, hlt, hge, k0, k1, rfl⟩
  refine aF (fun hc2 => ?_) (fun hc2 => ?_)
  ·simp only [decide_eq_true_eq, gt_iff_lt] at hc2
   have wk : i64.wrap (k - 1) = k - 1 := aD (by omega) (by omega)
   rw [wk]
   have hlk : (k - 1 - a).toNat < X.length := by omega
   have hn : (k - a).toNat = (k - 1 - a).toNat + 1 := by omega
   have dx : X.drop (k - 1 - a).toNat = X[(k - 1 - a).toNat] :: X.drop ((k - 1 - a).toNat + 1) := List.drop_eq_getElem_cons hlk
   have tx : X.take ((k - 1 - a).toNat + 1) = X.take (k - 1 - a).toNat ++ [X[(k - 1 - a).toNat]] := c7 hlk
   have lt : (X.take (k - 1 - a).toNat).length = (k - 1 - a).toNat := by rw [List.length_take]; omega
   obtain ⟨D, hDe⟩ : ∃ D, D = P ++ (X.take (k - a).toNat ++ (y :: (X.drop (k - a).toNat ++ R))) := ⟨_, rfl⟩
   have hRD : R32 D := fun z hz => hr z (by
    rw [hDe] at hz
    simp only [List.mem_append, List.mem_cons] at hz ⊢
    rcases hz with hz | hz | hz | hz | hz
    ·exact .inl hz
    ·exact .inr (.inl (List.mem_of_mem_take hz))
    ·exact .inr (.inr (.inl (by simp [hz])))
    ·exact .inr (.inl (List.mem_of_mem_drop hz))
    ·exact .inr (.inr (.inr hz)))
   rw [<- hDe]
   have hD : D = (P ++ X.take (k - 1 - a).toNat) ++ X[(k - 1 - a).toNat] :: y :: (X.drop ((k - 1 - a).toNat + 1) ++ R) := by rw [hDe, hn, tx]; simp only [List.append_assoc, List.cons_append, List.nil_append]
   have hk0 : lo + (k - 1).toNat = (P ++ X.take (k - 1 - a).toNat).length := by rw [List.length_append, lt]; omega
   have hk1 : lo + k.toNat = (P ++ X.take (k - 1 - a).toNat).length + 1 := by rw [List.length_append, lt]; omega
   have gx : D[lo + (k - 1).toNat]? = some X[(k - 1 - a).toNat] := by rw [hD, hk0, nM]
   have gy : D[lo + k.toNat]? = some y := by rw [hD, hk1, List.getElem?_append_right (by omega)]; simp
   have hsw : (D.set (lo + k.toNat) X[(k - 1 - a).toNat]).set (lo + (k - 1).toNat) y = P ++ (X.take (k - 1 - a).toNat ++ (y :: (X.drop (k - 1 - a).toNat ++ R))) := by
    rw [hD, hk0, hk1, zgb, dx]; simp only [List.append_assoc, List.cons_append, List.nil_append]
   obtain ⟨t1, t2, t3, t4⟩ := tJ D gy gx (by omega) X[(k - 1 - a).toNat] y
   rw [hsw] at t1
   have hla : 1 <= ((aA D).getD (lo + k.toNat) []).length := by rw [t2]; exact Nat.le_refl _
   refine ⟨⟨by omega, by omega, t3⟩, X[(k - 1 - a).toNat], by rw [cS gx]; rfl, ⟨by omega, by omega, t2⟩, y, by rw [cS gy]; rfl, ⟨by omega, by omega, t2⟩, ?_⟩
   refine ⟨?_, ?_⟩
   all_goals exact ⟨⟨rfl, hla⟩, ⟨by omega, by omega, t4⟩, ⟨rfl, by rw [t4]; exact Nat.le_refl _⟩, rfl, ⟨i0, ib, hlt, hge, by omega, by omega, t1⟩, by dsimp only; omega⟩
  ·simp only [decide_eq_true_eq, gt_iff_lt] at hc2
   have hk : k = i := by omega
   subst hk
   have h1 : ∀ z ∈ X.take (k - a).toNat, key z <= key y := fun z hz => by
    obtain ⟨q, hq, rfl⟩ := kT hz
    rw [List.length_take] at hq
    have e : (X.take (k - a).toNat).getD q 0 = X.getD q 0 := by simp only [List.getD]; rw [List.getElem?_take_of_lt (by omega)]
    rw [e]
    have := hlt (a + q) (by omega) (by omega)
    rw [show (a + (q : Int) - a).toNat = q by omega] at this
    omega
   have h2 : ∀ z ∈ X.drop (k - a).toNat, key y < key z := fun z hz => by
    obtain ⟨q, hq, rfl⟩ := kT hz
    rw [List.length_drop] at hq
    have e : (X.drop (k - a).toNat).getD q 0 = X.getD ((k - a).toNat + q) 0 := by simp only [List.getD, List.getElem?_drop]
    rw [e]
    have := hge (k + q) (by omega) (by omega)
    rwa [show (k + (q : Int) - a).toNat = (k - a).toNat + q by omega] at this
   have hXs : Srtd key (X.take (k - a).toNat ++ X.drop (k - a).toNat) := by rw [List.take_append_drop]; exact hX
   refine ⟨X.take (k - a).toNat ++ y :: X.drop (k - a).toNat, rfl, by simp, zge hXs h1 (fun z hz => Int.le_of_lt (h2 z hz)), ?_⟩
   have := Stab.rot1 (key := key) (u := X.take (k - a).toNat) (v := []) (a := X.drop (k - a).toNat) (b := [y]) (fun p hp q hq => by simp at hq; subst hq; have := h2 p hp; omega)
   rw [<- List.append_assoc, List.take_append_drop] at this
   simpa using this
end
end Go.Eng



namespace Go.Eng
open Go Go.Proofs Go.Eng.Rows Go.Eng.Srt
section
variable {key : Int -> Int} {T : PV} (lo hi : Nat) (nl : Bool)
abbrev iU (nl : Bool) (T : PV) (t : List (List PV)) : Hp := [.sl (21, 1) false nl t, .box [.pv T]]
abbrev yS (nl : Bool) (T : PV) (t : List (List PV)) (K : List (List PV) -> Prop) : LV -> Hp -> Prop := fun r h' => ∃ t1, (r = .tup [] /\ h' = iU nl T t1) /\ (True /\ ((21, 1) = (21, 1) /\ nl = nl /\ t.length = t1.length) /\ True) /\ K t1
def tK (T : PV) (mid e b : Int) (Q : LV -> Hp -> Prop) (t : List (List PV)) : Prop :=
 if (decide (mid < e) && decide (e < b)) = true then ACall Tryz.prog 175 [.sub 0 lo hi, .pv (.int .i64 mid), .pv (.int .i64 e), .pv (.int .i64 b), .fn 145 [.box 1 0]] (iU nl T t) (yS nl T t fun t1 => Q (.tup []) (iU nl T t1)) else Q (.tup []) (iU nl T t)
def tL (T : PV) (a s mid e b : Int) (Q : LV -> Hp -> Prop) (t : List (List PV)) : Prop :=
 if (decide (a < s) && decide (s < mid)) = true then ACall Tryz.prog 175 [.sub 0 lo hi, .pv (.int .i64 a), .pv (.int .i64 s), .pv (.int .i64 mid), .fn 145 [.box 1 0]] (iU nl T t) (yS nl T t (tK lo hi nl T mid e b Q)) else tK lo hi nl T mid e b Q t
def yT (T : PV) (a s m mid e b : Int) (Q : LV -> Hp -> Prop) (t : List (List PV)) : Prop :=
 if (decide (s < m) && decide (m < e)) = true then ACall Tryz.prog 177 [.sub 0 lo hi, .pv (.int .i64 s), .pv (.int .i64 m), .pv (.int .i64 e), .fn 145 [.box 1 0]] (iU nl T t) (yS nl T t (tL lo hi nl T a s mid e b Q)) else tL lo hi nl T a s mid e b Q t
theorem R32.of {l m : List Int} (h : R32 l) (hm : ∀ x ∈ m, x ∈ l) : R32 m := fun x hx => h x (hm x hx)
def zgf (T : PV) (key : Int -> Int) (N : Int) : Prop := ∀ (P X Y R : List Int) (a m b : Int), 0 <= a -> P.length = lo + a.toNat -> m = a + X.length -> b = m + Y.length -> X ≠ [] -> Y ≠ [] -> (lo : Int) + b <= hi -> R32 (P ++ (X ++ (Y ++ R))) -> Srtd key X -> Srtd key Y -> b - a < N ->
 ACall Tryz.prog 175 [.sub 0 lo hi, .pv (.int .i64 a), .pv (.int .i64 m), .pv (.int .i64 b), .fn 145 [.box 1 0]] (iU nl T (aA (P ++ (X ++ (Y ++ R))))) (iT key nl T P (X ++ Y) R)
theorem zpy {N : Int} (ih : zgf lo hi nl T key N) (hlen : hi < 1000000000000) (P X1 X2 Y1 Y2 R : List Int) (a s m mid e b : Int) (ha : 0 <= a) (hP : P.length = lo + a.toNat) (h1 : s = a + X1.length) (h2 : m = s + X2.length) (h3 : e = m + Y1.length) (h4 : b = e + Y2.length) (h5 : mid = s + Y1.length)
 (hhi : (lo : Int) + b <= hi) (hr : R32 (P ++ (X1 ++ (X2 ++ (Y1 ++ (Y2 ++ R)))))) (hX : Srtd key (X1 ++ X2)) (hY : Srtd key (Y1 ++ Y2)) (f1 : ∀ x ∈ X2, ∀ y ∈ Y1, key y < key x) (f2 : ∀ x ∈ X1, ∀ y ∈ Y2, key x <= key y) (n1 : mid - a < N) (n2 : b - mid < N) :
 yT lo hi nl T a s m mid e b (iT key nl T P ((X1 ++ X2) ++ (Y1 ++ Y2)) R) (aA (P ++ (X1 ++ (X2 ++ (Y1 ++ (Y2 ++ R)))))) := by
 have hl1 : ∀ {u v : List Int}, u.length = v.length -> (aA u).length = (aA v).length := fun h => by simp [h]
 obtain ⟨x1, x2, x3⟩ := iA.1 hX
 obtain ⟨y1, y2, y3⟩ := iA.1 hY
 have t3 : ∀ S1 : List Int, Srtd key S1 -> Stab key (X1 ++ Y1) S1 -> tK lo hi nl T mid e b (iT key nl T P ((X1 ++ X2) ++ (Y1 ++ Y2)) R) (aA (P ++ (S1 ++ (X2 ++ (Y2 ++ R))))) := fun S1 s1 k1 => by
  have kl := k1.len
  rw [List.length_append] at kl
  have fin : ∀ S2 : List Int, Srtd key S2 -> Stab key (X2 ++ Y2) S2 -> iT key nl T P ((X1 ++ X2) ++ (Y1 ++ Y2)) R (.tup []) (iU nl T (aA (P ++ (S1 ++ (S2 ++ R))))) := fun S2 s2 k2 => by
   obtain ⟨c1, c2⟩ := zpv hX hY f1 f2 s1 k1 s2 k2
   exact ⟨S1 ++ S2, rfl, by simp, c1, c2⟩
  unfold tK
  refine aF (fun hc => ?_) (fun hc => ?_)
  ·simp only [Bool.and_eq_true, decide_eq_true_eq] at hc
   have nx : X2 ≠ [] := fun h => by subst h; simp at h2; omega
   have ny : Y2 ≠ [] := fun h => by subst h; simp at h4; omega
   have := ih (P ++ S1) X2 Y2 R mid e b (by omega) (by rw [List.length_append]; omega) (by omega) h4 nx ny hhi (hr.of fun x hx => by
    simp only [List.mem_append] at hx ⊢
    rcases hx with (hx | hx) | hx | hx | hx
    ·exact .inl hx
    ·rcases List.mem_append.1 (k1.mem.2 hx) with hx | hx
     ·exact .inr (.inl hx)
     ·exact .inr (.inr (.inr (.inl hx)))
    ·exact .inr (.inr (.inl hx))
    ·exact .inr (.inr (.inr (.inr (.inl hx))))
    ·exact .inr (.inr (.inr (.inr (.inr hx))))) x2 y2 n2
   rw [show P ++ (S1 ++ (X2 ++ (Y2 ++ R))) = (P ++ S1) ++ (X2 ++ (Y2 ++ R)) by simp]
   refine this.mono ?_
   rintro r h' ⟨S2, rfl, rfl, s2, k2⟩
   refine ⟨_, ⟨rfl, rfl⟩, ⟨trivial, ⟨rfl, rfl, hl1 ?_⟩, trivial⟩, ?_⟩
   ·have := k2.len
    simp only [List.length_append] at this ⊢; omega
   ·have := fin S2 s2 k2
    rw [<- List.append_assoc P] at this
    exact this
  ·simp only [Bool.and_eq_true, decide_eq_true_eq] at hc
   have hz : X2 = [] ∨ Y2 = [] := by
    rcases Nat.eq_zero_or_pos X2.length with h | h
    ·exact .inl (List.length_eq_zero_iff.1 h)
    ·exact .inr (List.length_eq_zero_iff.1 (by omega))
   have s2 : Srtd key (X2 ++ Y2) := by
    rcases hz with h | h
    ·subst h; exact y2
    ·subst h; simpa using x2
   have := fin (X2 ++ Y2) s2 (.refl _)
   rw [List.append_assoc X2 Y2] at this
   exact this
 have t2 : tL lo hi nl T a s mid e b (iT key nl T P ((X1 ++ X2) ++ (Y1 ++ Y2)) R) (aA (P ++ (X1 ++ (Y1 ++ (X2 ++ (Y2 ++ R)))))) := by
  unfold tL
  refine aF (fun hc => ?_) (fun hc => ?_)
  ·simp only [Bool.and_eq_true, decide_eq_true_eq] at hc
   have nx : X1 ≠ [] := fun h => by subst h; simp at h1; omega
   have ny : Y1 ≠ [] := fun h => by subst h; simp at h5; omega
   refine (ih P X1 Y1 (X2 ++ (Y2 ++ R)) a s mid ha hP h1 h5 nx ny (by omega) (hr.of fun x hx => by
    simp only [List.mem_append] at hx ⊢
    rcases hx with hx | hx | hx | hx | hx | hx
    ·exact .inl hx
    ·exact .inr (.inl hx)
    ·exact .inr (.inr (.inr (.inl hx)))
    ·exact .inr (.inr (.inl hx))
    ·exact .inr (.inr (.inr (.inr (.inl hx))))
    ·exact .inr (.inr (.inr (.inr (.inr hx))))) x1 y1 n1).mono ?_
   rintro r h' ⟨S1, rfl, rfl, s1, k1⟩
   refine ⟨_, ⟨rfl, rfl⟩, ⟨trivial, ⟨rfl, rfl, hl1 ?_⟩, trivial⟩, t3 S1 s1 k1⟩
   have := k1.len
   simp only [List.length_append] at this ⊢; omega
  ·simp only [Bool.and_eq_true, decide_eq_true_eq] at hc
   have hz : X1 = [] ∨ Y1 = [] := by
    rcases Nat.eq_zero_or_pos X1.length with h | h
    ·exact .inl (List.length_eq_zero_iff.1 h)
    ·exact .inr (List.length_eq_zero_iff.1 (by omega))
   have s2 : Srtd key (X1 ++ Y1) := by
    rcases hz with h | h
    ·subst h; exact y1
    ·subst h; simpa using x1
   have := t3 (X1 ++ Y1) s2 (.refl _)
   rw [List.append_assoc X1 Y1] at this
   exact this
 unfold yT
 refine aF (fun hc => ?_) (fun hc => ?_)
 ·simp only [Bool.and_eq_true, decide_eq_true_eq] at hc
  have nx : X2 ≠ [] := fun h => by subst h; simp at h2; omega
  have ny : Y1 ≠ [] := fun h => by subst h; simp at h3; omega
  have := zpu (T := T) lo hi nl (P ++ X1) X2 Y1 (Y2 ++ R) s m e (by omega) (by rw [List.length_append]; omega) h2 h3 nx ny (by omega) hlen
  rw [show P ++ (X1 ++ (X2 ++ (Y1 ++ (Y2 ++ R)))) = (P ++ X1) ++ (X2 ++ (Y1 ++ (Y2 ++ R))) by simp]
  refine this.mono ?_
  rintro r h' ⟨rfl, rfl⟩
  refine ⟨_, ⟨rfl, rfl⟩, ⟨trivial, ⟨rfl, rfl, hl1 ?_⟩, trivial⟩, ?_⟩
  ·simp only [List.length_append]; omega
  ·rw [List.append_assoc P]; exact t2
 ·simp only [Bool.and_eq_true, decide_eq_true_eq] at hc
  have hz : X2 = [] ∨ Y1 = [] := by
   rcases Nat.eq_zero_or_pos X2.length with h | h
   ·exact .inl (List.length_eq_zero_iff.1 h)
   ·exact .inr (List.length_eq_zero_iff.1 (by omega))
  have e : P ++ (X1 ++ (X2 ++ (Y1 ++ (Y2 ++ R)))) = P ++ (X1 ++ (Y1 ++ (X2 ++ (Y2 ++ R)))) := by
   rcases hz with h | h <;> subst h <;> simp
  rw [e]; exact t2
end
end Go.Eng



namespace Go.Eng
open Go Go.Proofs Go.Eng.Rows Go.Eng.Srt
section
variable {key : Int -> Int} {T : PV}
theorem zgg (hc : iS T key) (lo hi : Nat) (nl : Bool) (hlen : hi < 1000000000000) : ∀ N : Nat, zgf lo hi nl T key N := by
 intro N
 induction N with
 | zero =>
   intro P X Y R a m b ha hP hm hb hx hy hhi hr hX hY hN
   omega
 | succ N ih =>
   intro P X Y R a m b ha hP hm hb hx hy hhi hr hX hY hN
   have hxl := List.length_pos_iff.2 hx
   have hyl := List.length_pos_iff.2 hy
   by_cases hx1 : X.length = 1
   ·obtain ⟨x, rfl⟩ := List.length_eq_one_iff.1 hx1
    exact zpw hc lo hi nl P Y R x a m b ha hP (by simpa using hm) hb hhi hr hlen hY
   by_cases hy1 : Y.length = 1
   ·obtain ⟨y, rfl⟩ := List.length_eq_one_iff.1 hy1
    exact zpx hc lo hi nl P X R y a m b ha hP hm hx1 (by simpa using hb) hhi hr hlen hX
   obtain ⟨mid, hmid⟩ : ∃ mid, mid = (a + b) / 2 := ⟨_, rfl⟩
   have hat : ∀ h : Int, a <= h -> h < m -> (P ++ (X ++ (Y ++ R)))[lo + h.toNat]? = some (X.getD (h - a).toNat 0) := fun h h1 h2 => by
    rw [List.getElem?_append_right (by omega), show lo + h.toNat - P.length = (h - a).toNat by omega, List.getElem?_append_left (by omega)]
    exact qC (by omega)
   have hbt : ∀ h : Int, m <= h -> h < b -> (P ++ (X ++ (Y ++ R)))[lo + h.toNat]? = some (Y.getD (h - m).toNat 0) := fun h h1 h2 => by
    rw [<- List.append_assoc, List.getElem?_append_right (by rw [List.length_append]; omega), show lo + h.toNat - (P ++ X).length = (h - m).toNat by rw [List.length_append]; omega, List.getElem?_append_left (by omega)]
    exact qC (by omega)
   obtain ⟨s0, hs0⟩ : ∃ s0, s0 = if m > mid then mid + m - b else a := ⟨_, rfl⟩
   obtain ⟨r0, hr0⟩ : ∃ r0, r0 = if m > mid then mid else m := ⟨_, rfl⟩
   have rng : a <= s0 /\ s0 <= r0 /\ r0 <= m /\ mid + m - s0 <= b /\ m <= mid + m - r0 := by
    rw [hs0, hr0]; split <;> omega
   refine wL _ _ _ _ _ _ _ _
    (fun _ _ _ => True) (fun _ _ _ => 0) (fun _ _ _ => True) (fun _ _ _ => 0) (fun _ _ _ => True) (fun _ _ _ => 0) (fun _ _ _ => True) (fun _ _ _ => 0)
    (fun i j s => s = aA (P ++ (X ++ (Y ++ R))) /\ s0 <= i /\ i <= j /\ j <= r0 /\ (∀ c, s0 <= c -> c < i -> ¬ key (Y.getD (mid - 1 - c).toNat 0) < key (X.getD (c - a).toNat 0)) /\ (∀ c, j <= c -> c < r0 -> key (Y.getD (mid - 1 - c).toNat 0) < key (X.getD (c - a).toNat 0))) (fun i j _ => (j - i).toNat) ?_
   unfold sT
   have w1 : i64.wrap (m - a) = X.length := by rw [aD (by omega) (by omega)]; omega
   have w2 : i64.wrap (b - m) = Y.length := by rw [aD (by omega) (by omega)]; omega
   have w3 : i64.wrap (mid + m) = mid + m := aD (by omega) (by omega)
   have w4 : i64.wrap (mid + m - b) = mid + m - b := aD (by omega) (by omega)
   have w5 : i64.wrap (mid + m - 1) = mid + m - 1 := aD (by omega) (by omega)
   rw [w1, w2, qD ha (by omega) (by omega), <- hmid, w3, w4, w5]
   -- what the loop is, and what follows it
   have body : ∀ (x20 x21 : Int) (s : List (List PV)), (s = aA (P ++ (X ++ (Y ++ R))) /\ s0 <= x20 /\ x20 <= x21 /\ x21 <= r0 /\ (∀ c, s0 <= c -> c < x20 -> ¬ key (Y.getD (mid - 1 - c).toNat 0) < key (X.getD (c - a).toNat 0)) /\ (∀ c, x21 <= c -> c < r0 -> key (Y.getD (mid - 1 - c).toNat 0) < key (X.getD (c - a).toNat 0))) ->
    (x20 < x21 -> ∃ h, h = (x20 + x21) / 2 /\ i64.wrap (mid + m - 1 - h) = mid + m - 1 - h /\ i64.wrap (h + 1) = h + 1 /\ (0 <= mid + m - 1 - h /\ mid + m - 1 - h < (hi : Int) - lo /\ (s.getD (lo + (mid + m - 1 - h).toNat) []).length = 1) /\ (0 <= h /\ h < (hi : Int) - lo /\ (s.getD (lo + h.toNat) []).length = 1) /\
     ∃ n n1, (List.drop 0 (s.getD (lo + (mid + m - 1 - h).toNat) [])).head? = some (PV.int .i32 n) /\ (List.drop 0 (s.getD (lo + h.toNat) [])).head? = some (PV.int .i32 n1) /\ (-2147483648 <= n /\ n <= 2147483647) /\ (-2147483648 <= n1 /\ n1 <= 2147483647) /\
     (¬ key n < key n1 -> (s = aA (P ++ (X ++ (Y ++ R))) /\ s0 <= h + 1 /\ h + 1 <= x21 /\ x21 <= r0 /\ (∀ c, s0 <= c -> c < h + 1 -> ¬ key (Y.getD (mid - 1 - c).toNat 0) < key (X.getD (c - a).toNat 0)) /\ (∀ c, x21 <= c -> c < r0 -> key (Y.getD (mid - 1 - c).toNat 0) < key (X.getD (c - a).toNat 0))) /\ (x21 - (h + 1)).toNat < (x21 - x20).toNat) /\
     (key n < key n1 -> (s = aA (P ++ (X ++ (Y ++ R))) /\ s0 <= x20 /\ x20 <= h /\ h <= r0 /\ (∀ c, s0 <= c -> c < x20 -> ¬ key (Y.getD (mid - 1 - c).toNat 0) < key (X.getD (c - a).toNat 0)) /\ (∀ c, h <= c -> c < r0 -> key (Y.getD (mid - 1 - c).toNat 0) < key (X.getD (c - a).toNat 0))) /\ (h - x20).toNat < (x21 - x20).toNat)) /\
    (¬ x20 < x21 -> i64.wrap (mid + m - x20) = mid + m - x20 /\ yT lo hi nl T a x20 m mid (mid + m - x20) b (iT key nl T P (X ++ Y) R) s) := by
    rintro i j _ ⟨rfl, i0, hij, hjr, hge, hlt⟩
    refine ⟨fun hc1 => ?_, fun hc1 => ?_⟩
    ·obtain ⟨h, hh⟩ : ∃ h, h = (i + j) / 2 := ⟨_, rfl⟩
     have b1 : i <= h /\ h < j := by omega
     have gx := hat h (by omega) (by omega)
     have gy := hbt (mid + m - 1 - h) (by omega) (by omega)
     rw [show (mid + m - 1 - h - m).toNat = (mid - 1 - h).toNat by omega] at gy
     refine ⟨h, hh, aD (by omega) (by omega), aD (by omega) (by omega), ⟨by omega, by omega, by rw [cS gy]; rfl⟩, ⟨by omega, by omega, by rw [cS gx]; rfl⟩, _, _, by rw [cS gy]; rfl, by rw [cS gx]; rfl, kS hr gy, kS hr gx, fun hk => ?_, fun hk => ?_⟩
     ·refine ⟨⟨rfl, by omega, by omega, hjr, fun c c1 c2 => ?_, hlt⟩, by omega⟩
      have u := hX.get (i := (c - a).toNat) (j := (h - a).toNat) (by omega) (by omega)
      have v := hY.get (i := (mid - 1 - h).toNat) (j := (mid - 1 - c).toNat) (by omega) (by omega)
      omega
     ·refine ⟨⟨rfl, i0, by omega, by omega, hge, fun c c1 c2 => ?_⟩, by omega⟩
      have u := hX.get (i := (h - a).toNat) (j := (c - a).toNat) (by omega) (by omega)
      have v := hY.get (i := (mid - 1 - c).toNat) (j := (mid - 1 - h).toNat) (by omega) (by omega)
      omega
    ·have hij2 : i = j := by omega
     subst hij2
     refine ⟨aD (by omega) (by omega), ?_⟩
     have l1 : (X.take (i - a).toNat).length = (i - a).toNat := by rw [List.length_take]; omega
     have l2 : (X.drop (i - a).toNat).length = X.length - (i - a).toNat := List.length_drop
     have l3 : (Y.take (mid - i).toNat).length = (mid - i).toNat := by rw [List.length_take]; omega
     have l4 : (Y.drop (mid - i).toNat).length = Y.length - (mid - i).toNat := List.length_drop
     have eX : X.take (i - a).toNat ++ X.drop (i - a).toNat = X := List.take_append_drop _ _
     have eY : Y.take (mid - i).toNat ++ Y.drop (mid - i).toNat = Y := List.take_append_drop _ _
     have tk : ∀ (L : List Int) (k q : Nat), q < k -> (L.take k).getD q 0 = L.getD q 0 := fun L k q h => by simp only [List.getD]; rw [List.getElem?_take_of_lt h]
     have dk : ∀ (L : List Int) (k q : Nat), (L.drop k).getD q 0 = L.getD (k + q) 0 := fun L k q => by simp only [List.getD, List.getElem?_drop]
     have f1 : ∀ x ∈ X.drop (i - a).toNat, ∀ y ∈ Y.take (mid - i).toNat, key y < key x := fun x hx y hy => by
      obtain ⟨q, hq, rfl⟩ := kT hx
      obtain ⟨p, hp, rfl⟩ := kT hy
      rw [l2] at hq
      rw [l3] at hp
      rw [tk _ _ _ hp, dk]
      have hir : i < r0 := by rw [hr0]; split <;> omega
      have k0 := hlt i (Int.le_refl _) hir
      have u := hX.get (i := (i - a).toNat) (j := (i - a).toNat + q) (by omega) (by omega)
      have v := hY.get (i := p) (j := (mid - 1 - i).toNat) (by omega) (by omega)
      omega
     have f2 : ∀ x ∈ X.take (i - a).toNat, ∀ y ∈ Y.drop (mid - i).toNat, key x <= key y := fun x hx y hy => by
      obtain ⟨q, hq, rfl⟩ := kT hx
      obtain ⟨p, hp, rfl⟩ := kT hy
      rw [l1] at hq
      rw [l4] at hp
      rw [tk _ _ _ hq, dk]
      have his : s0 <= i - 1 := by rw [hs0]; split <;> omega
      have k0 := hge (i - 1) his (by omega)
      rw [show (mid - 1 - (i - 1)).toNat = (mid - i).toNat by omega] at k0
      have u := hX.get (i := q) (j := (i - 1 - a).toNat) (by omega) (by omega)
      have v := hY.get (i := (mid - i).toNat) (j := (mid - i).toNat + p) (by omega) (by omega)
      omega
     have := zpy lo hi nl (N := N) ih hlen P (X.take (i - a).toNat) (X.drop (i - a).toNat) (Y.take (mid - i).toNat) (Y.drop (mid - i).toNat) R a i m mid (mid + m - i) b ha hP (by omega) (by omega) (by omega) (by omega) (by omega) hhi
      (by rw [<- List.append_assoc (Y.take _), eY, <- List.append_assoc (X.take _), eX]; exact hr) (by rw [eX]; exact hX) (by rw [eY]; exact hY) f1 f2 (by omega) (by omega)
     rw [<- List.append_assoc (Y.take _) _ R, eY, <- List.append_assoc (X.take _) _ (Y ++ R), eX] at this
     exact this
   refine aN (by simp; omega) (aN (by simp; omega) ?_)
   refine aF (fun hm2 => ?_) (fun hm2 => ?_)
   ·simp only [decide_eq_true_eq] at hm2
    rw [if_pos hm2] at hs0 hr0
    refine ⟨⟨rfl, rfl, by omega, by omega, by omega, fun c c1 c2 => by omega, fun c c1 c2 => by omega⟩, ?_⟩
    rintro i j s hJ
    obtain ⟨b1, b2⟩ := body i j s hJ
    refine aF (fun hc1 => ?_) (fun hc1 => ?_)
    ·simp only [decide_eq_true_eq] at hc1
     obtain ⟨h, hh, e1, e2, e3, e4, n, n1, g1, g2, r1, r2, k1, k2⟩ := b1 hc1
     rw [qD (by omega) (by omega) (by omega), <- hh, e1, e2]
     refine ⟨e3, n, g1, e4, n1, g2, ?_⟩
     refine (hc n n1 r1 r2).mono ?_
     rintro _ ⟨n2, rfl, hn2⟩
     refine ⟨n2, rfl, rfl, aF (fun hl => ?_) (fun hl => ?_)⟩
     ·simp only [Bool.not_eq_true', decide_eq_false_iff_not] at hl
      obtain ⟨q1, q2⟩ := k1 fun h => hl (hn2.2 h)
      exact ⟨rfl, q1, q2⟩
     ·simp only [Bool.not_eq_true', decide_eq_false_iff_not, Decidable.not_not] at hl
      obtain ⟨q1, q2⟩ := k2 (hn2.1 hl)
      exact ⟨rfl, q1, q2⟩
    ·simp only [decide_eq_true_eq] at hc1
     obtain ⟨e1, e2⟩ := b2 hc1
     rw [e1]
     exact e2
   ·simp only [decide_eq_true_eq] at hm2
    rw [if_neg hm2] at hs0 hr0
    refine ⟨⟨rfl, rfl, by omega, by omega, by omega, fun c c1 c2 => by omega, fun c c1 c2 => by omega⟩, ?_⟩
    rintro i j s hJ
    obtain ⟨b1, b2⟩ := body i j s hJ
    refine aF (fun hc1 => ?_) (fun hc1 => ?_)
    ·simp only [decide_eq_true_eq] at hc1
     obtain ⟨h, hh, e1, e2, e3, e4, n, n1, g1, g2, r1, r2, k1, k2⟩ := b1 hc1
     rw [qD (by omega) (by omega) (by omega), <- hh, e1, e2]
     refine ⟨e3, n, g1, e4, n1, g2, ?_⟩
     refine (hc n n1 r1 r2).mono ?_
     rintro _ ⟨n2, rfl, hn2⟩
     refine ⟨n2, rfl, rfl, aF (fun hl => ?_) (fun hl => ?_)⟩
     ·simp only [Bool.not_eq_true', decide_eq_false_iff_not] at hl
      obtain ⟨q1, q2⟩ := k1 fun h => hl (hn2.2 h)
      exact ⟨rfl, q1, q2⟩
     ·simp only [Bool.not_eq_true', decide_eq_false_iff_not, Decidable.not_not] at hl
      obtain ⟨q1, q2⟩ := k2 (hn2.1 hl)
      exact ⟨rfl, q1, q2⟩
    ·simp only [decide_eq_true_eq] at hc1
     obtain ⟨e1, e2⟩ := b2 hc1
     rw [e1]
     exact e2
end
end Go.Eng



namespace Go.Eng
open Go Go.Proofs Go.Eng.Rows Go.Eng.Srt
section
variable {key : Int -> Int} {T : PV}
def mA (key : Int -> Int) (k : Nat) (Bs : List (List Int)) : Prop := ∀ B ∈ Bs, B.length = k /\ Srtd key B
theorem yU {k : Nat} : ∀ {Bs : List (List Int)}, mA key k Bs -> Bs.flatten.length = k * Bs.length
 | [], _ => by simp
 | B :: Bs, h => by
   rw [List.flatten_cons, List.length_append, (h B List.mem_cons_self).1, yU (Bs := Bs) fun C hC => h C (List.mem_cons_of_mem _ hC), List.length_cons, Nat.mul_add]; omega
theorem tM (Bs : List (List Int)) : Bs = [] ∨ (∃ X, Bs = [X]) ∨ ∃ X Y Bs', Bs = X :: Y :: Bs' := by
 match Bs with
 | [] => exact .inl rfl
 | [X] => exact .inr (.inl ⟨X, rfl⟩)
 | X :: Y :: Bs' => exact .inr (.inr ⟨X, Y, Bs', rfl⟩)
theorem zgh {k : Nat} {Bs : List (List Int)} {B : List Int} (h : mA key k Bs) (hl : B.length = k) (hs : Srtd key B) : mA key k (Bs ++ [B]) := fun C hC => by
 rcases List.mem_append.1 hC with hC | hC
 ·exact h C hC
 ·simp only [List.mem_singleton] at hC; subst hC; exact ⟨hl, hs⟩
theorem yV {P S R S' : List Int} (h : R32 (P ++ (S ++ R))) (k : Stab key S S') : R32 (P ++ (S' ++ R)) := h.of fun x hx => by
 simp only [List.mem_append] at hx ⊢
 rcases hx with hx | hx | hx
 ·exact .inl hx
 ·exact .inr (.inl (k.mem.2 hx))
 ·exact .inr (.inr hx)
theorem zpz (hc : iS T key) (lo hi : Nat) (nl : Bool) (P S R : List Int) (hP : P.length = lo) (hS : hi = lo + S.length) (hr : R32 (P ++ (S ++ R))) (hlen : hi < 1000000000000) :
 ACall Tryz.prog 162 [.sub 0 lo hi, .pv (.int .i64 ((hi - lo : Nat) : Int)), .fn 145 [.box 1 0]] (iU nl T (aA (P ++ (S ++ R)))) (iT key nl T P S R) := by
 have hl1 : ∀ {u v : List Int}, u.length = v.length -> (aA u).length = (aA v).length := fun h => by simp [h]
 obtain ⟨n, hn⟩ : ∃ n : Int, n = ((hi - lo : Nat) : Int) := ⟨_, rfl⟩
 rw [<- hn]
 have hnS : n = S.length := by omega
 refine zlz _ _ _ _ _ _
  (fun a b s => b = a + 20 /\ 0 <= a /\ ∃ Bs C, s = aA (P ++ (Bs.flatten ++ C ++ R)) /\ mA key 20 Bs /\ (Bs.flatten.length : Int) = a /\ Stab key S (Bs.flatten ++ C)) (fun a _ _ => (n + 1 - a).toNat)
  (fun k s => 0 < k /\ ∃ Bs C, s = aA (P ++ (Bs.flatten ++ C ++ R)) /\ mA key k.toNat Bs /\ Srtd key C /\ (C.length : Int) < k /\ Stab key S (Bs.flatten ++ C)) (fun k _ => (n - k).toNat)
  (fun k _ _ _ k' a b s => k = k' /\ b = a + 2 * k /\ 0 <= a /\ ∃ B2 Bs C, s = aA (P ++ (B2.flatten ++ (Bs.flatten ++ C) ++ R)) /\ mA key (2 * k).toNat B2 /\ mA key k.toNat Bs /\ Srtd key C /\ (C.length : Int) < k /\ (B2.flatten.length : Int) = a /\ Stab key S (B2.flatten ++ (Bs.flatten ++ C))) (fun k a _ _ => (n + 1 - a).toNat) ?_
 unfold zdb
 refine ⟨⟨rfl, rfl, Int.le_refl _, [], S, by simp, fun B hB => (by cases hB), rfl, by simpa using Stab.refl S⟩, ?_⟩
 rintro a b _ ⟨rfl, a0, Bs, C, rfl, hBs, hBl, hst⟩
 have hsl := hst.len
 rw [List.length_append] at hsl
 refine aF (fun hc1 => ?_) (fun hc1 => ?_)
 ·simp only [decide_eq_true_eq] at hc1
  have wa : i64.wrap (a + 20 + 20) = a + 20 + 20 := aD (by omega) (by omega)
  rw [wa]
  have hC : C.take 20 ++ C.drop 20 = C := List.take_append_drop _ _
  have hCl : (C.take 20).length = 20 := by rw [List.length_take]; omega
  have e1 : P ++ (Bs.flatten ++ C ++ R) = (P ++ Bs.flatten) ++ C.take 20 ++ (C.drop 20 ++ R) := by
   rw [show Bs.flatten ++ C ++ R = Bs.flatten ++ ((C.take 20 ++ C.drop 20) ++ R) by rw [hC]; simp]
   simp only [List.append_assoc]
  have := zgd hc lo hi nl (P ++ Bs.flatten) (C.take 20) (C.drop 20 ++ R) a (a + 20) a0 (by rw [List.length_append]; omega) (by omega) (by omega) (by rw [<- e1]; exact yV hr hst) hlen
  rw [e1]
  refine this.mono ?_
  rintro r h' ⟨S1, rfl, rfl, s1, k1⟩
  have k1l := k1.len
  refine ⟨_, ⟨rfl, rfl⟩, ⟨trivial, ⟨rfl, rfl, hl1 (by simp only [List.length_append]; omega)⟩, trivial⟩, rfl, ⟨rfl, by omega, Bs ++ [S1], C.drop 20, by simp, zgh hBs (by omega) s1, by simp only [List.flatten_append, List.flatten_cons, List.flatten_nil, List.append_nil, List.length_append]; omega, ?_⟩, by dsimp only; omega⟩
  refine hst.trans ?_
  have := (Stab.refl (key := key) Bs.flatten).app (k1.app (Stab.refl (C.drop 20)))
  rw [hC] at this
  simpa using this
 ·simp only [decide_eq_true_eq] at hc1
  have e1 : P ++ (Bs.flatten ++ C ++ R) = (P ++ Bs.flatten) ++ C ++ R := by simp
  have := zgd hc lo hi nl (P ++ Bs.flatten) C R a n a0 (by rw [List.length_append]; omega) (by omega) (by omega) (by rw [<- e1]; exact yV hr hst) hlen
  rw [e1]
  refine this.mono ?_
  rintro r h' ⟨C1, rfl, rfl, s1, k1⟩
  have k1l := k1.len
  refine ⟨_, ⟨rfl, rfl⟩, ⟨trivial, ⟨rfl, rfl, hl1 (by simp only [List.length_append]; omega)⟩, trivial⟩, ⟨rfl, by omega, Bs, C1, by simp, hBs, s1, by omega, hst.trans ((Stab.refl _).app k1)⟩, ?_⟩
  clear hBs hBl hst hsl hc1 e1 this s1 k1 k1l
  rintro k _ ⟨k0, Bs, C, rfl, hBs, hCs, hCk, hst⟩
  have hsl := hst.len
  rw [List.length_append] at hsl
  have hbl := yU hBs
  refine aF (fun hc2 => ?_) (fun hc2 => ?_)
  ·simp only [decide_eq_true_eq] at hc2
   have w2 : i64.wrap (2 * k) = 2 * k := aD (by omega) (by omega)
   have w3 : i64.wrap (k * 2) = 2 * k := by rw [aD (by omega) (by omega)]; omega
   rw [w2]
   refine ⟨⟨rfl, rfl, by omega, Int.le_refl _, [], Bs, C, by simp, fun B hB => (by cases hB), hBs, hCs, hCk, rfl, by simpa using hst⟩, ?_⟩
   clear hBs hCs hCk hst hsl hbl
   rintro _ a b _ ⟨rfl, rfl, a0, B2, Bs, C, rfl, hB2, hBs, hCs, hCk, hBl, hst⟩
   have hsl := hst.len
   rw [List.length_append, List.length_append] at hsl
   have hbl := yU hBs
   have hRs : R32 (P ++ (B2.flatten ++ (Bs.flatten ++ C) ++ R)) := yV hr hst
   rw [w2, w3]
   have hkn : (k.toNat : Int) = k := by omega
   refine aF (fun hc3 => ?_) (fun hc3 => ?_)
   ·simp only [decide_eq_true_eq] at hc3
    have w4 : i64.wrap (a + k) = a + k := aD (by omega) (by omega)
    have w5 : i64.wrap (a + 2 * k + 2 * k) = a + 2 * k + 2 * k := aD (by omega) (by omega)
    rw [w4, w5]
    obtain ⟨X, Y, Bs', rfl⟩ : ∃ X Y Bs', Bs = X :: Y :: Bs' := by
     rcases tM Bs with rfl | ⟨X, rfl⟩ | h
     ·simp only [List.flatten_nil, List.length_nil] at hsl; omega
     ·have h1 := (hBs X (by simp)).1
      simp only [List.flatten_cons, List.flatten_nil, List.append_nil] at hsl; omega
     ·exact h
    obtain ⟨hXl, hXs⟩ := hBs X (by simp)
    obtain ⟨hYl, hYs⟩ := hBs Y (by simp)
    have nx : X ≠ [] := fun h => by subst h; simp at hXl; omega
    have ny : Y ≠ [] := fun h => by subst h; simp at hYl; omega
    have e1 : P ++ (B2.flatten ++ ((X :: Y :: Bs').flatten ++ C) ++ R) = (P ++ B2.flatten) ++ (X ++ (Y ++ (Bs'.flatten ++ C ++ R))) := by simp
    have := zgg hc lo hi nl hlen (2 * k + 1).toNat (P ++ B2.flatten) X Y (Bs'.flatten ++ C ++ R) a (a + k) (a + 2 * k) a0 (by rw [List.length_append]; omega) (by omega) (by omega) nx ny (by omega) (by rw [<- e1]; exact hRs) hXs hYs (by omega)
    rw [e1]
    refine this.mono ?_
    rintro r h' ⟨S1, rfl, rfl, s1, k1⟩
    have k1l := k1.len
    rw [List.length_append] at k1l
    refine ⟨_, ⟨rfl, rfl⟩, ⟨trivial, ⟨rfl, rfl, hl1 (by simp only [List.length_append]; omega)⟩, trivial⟩, rfl, ⟨rfl, rfl, by omega, B2 ++ [S1], Bs', C, by simp, zgh hB2 (by omega) s1, fun B hB => hBs B (by simp [hB]), hCs, hCk, by simp only [List.flatten_append, List.flatten_cons, List.flatten_nil, List.append_nil, List.length_append]; omega, ?_⟩, by dsimp only; omega⟩
    refine hst.trans ?_
    have := (Stab.refl (key := key) B2.flatten).app (k1.app (Stab.refl (Bs'.flatten ++ C)))
    simpa using this
   ·simp only [decide_eq_true_eq] at hc3
    have w4 : i64.wrap (a + k) = a + k := aD (by omega) (by omega)
    rw [w4]
    refine aF (fun hc4 => ?_) (fun hc4 => ?_)
    ·simp only [decide_eq_true_eq] at hc4
     obtain ⟨X, rfl⟩ : ∃ X, Bs = [X] := by
      rcases tM Bs with rfl | h | ⟨X, Y, Bs', rfl⟩
      ·simp only [List.flatten_nil, List.length_nil] at hsl; omega
      ·exact h
      ·have h1 := (hBs X (by simp)).1
       have h2 := (hBs Y (by simp)).1
       simp only [List.flatten_cons, List.length_append] at hsl
       omega
     obtain ⟨hXl, hXs⟩ := hBs X (by simp)
     have nx : X ≠ [] := fun h => by subst h; simp at hXl; omega
     simp only [List.flatten_cons, List.flatten_nil, List.append_nil] at hsl hst
     have ny : C ≠ [] := fun h => by subst h; simp only [List.length_nil] at hsl; omega
     have e1 : P ++ (B2.flatten ++ ([X].flatten ++ C) ++ R) = (P ++ B2.flatten) ++ (X ++ (C ++ R)) := by simp
     have := zgg hc lo hi nl hlen (2 * k + 1).toNat (P ++ B2.flatten) X C R a (a + k) n a0 (by rw [List.length_append]; omega) (by omega) (by omega) nx ny (by omega) (by rw [<- e1]; exact hRs) hXs hCs (by omega)
     rw [e1]
     refine this.mono ?_
     rintro r h' ⟨S1, rfl, rfl, s1, k1⟩
     have k1l := k1.len
     rw [List.length_append] at k1l
     exact ⟨_, ⟨rfl, rfl⟩, ⟨trivial, ⟨rfl, rfl, hl1 (by simp only [List.length_append]; omega)⟩, trivial⟩, rfl, ⟨by omega, B2, S1, by simp, hB2, s1, by omega, hst.trans ((Stab.refl _).app k1)⟩, by dsimp only; omega⟩
    ·simp only [decide_eq_true_eq] at hc4
     have hCs2 : Srtd key (Bs.flatten ++ C) /\ ((Bs.flatten ++ C).length : Int) < 2 * k := by
      rcases tM Bs with rfl | ⟨X, rfl⟩ | ⟨X, Y, Bs', rfl⟩
      ·exact ⟨by simpa using hCs, by simp; omega⟩
      ·have h1 := hBs X (by simp)
       simp only [List.flatten_cons, List.flatten_nil, List.append_nil] at hsl ⊢
       have hC0 : C = [] := List.length_eq_zero_iff.1 (by omega)
       subst hC0
       exact ⟨by simpa using h1.2, by simp; omega⟩
      ·exfalso
       have h1 := (hBs X (by simp)).1
       have h2 := (hBs Y (by simp)).1
       simp only [List.flatten_cons, List.length_append] at hsl
       omega
     exact ⟨rfl, ⟨by omega, B2, Bs.flatten ++ C, by simp, hB2, hCs2.1, hCs2.2, hst⟩, by dsimp only; omega⟩
  ·simp only [decide_eq_true_eq] at hc2
   have hz : Srtd key (Bs.flatten ++ C) := by
    rcases tM Bs with rfl | ⟨X, rfl⟩ | ⟨X, Y, Bs', rfl⟩
    ·simpa using hCs
    ·have h1 := hBs X (by simp)
     simp only [List.flatten_cons, List.flatten_nil, List.append_nil] at hsl ⊢
     have hC0 : C = [] := List.length_eq_zero_iff.1 (by omega)
     subst hC0
     simpa using h1.2
    ·exfalso
     have h1 := (hBs X (by simp)).1
     have h2 := (hBs Y (by simp)).1
     simp only [List.flatten_cons, List.length_append] at hsl
     omega
   exact ⟨Bs.flatten ++ C, rfl, rfl, hz, hst⟩
theorem zp0 (hc : iS T key) (lo hi : Nat) (nl : Bool) (P S R : List Int) (hP : P.length = lo) (hS : hi = lo + S.length) (hr : R32 (P ++ (S ++ R))) (hlen : hi < 1000000000000) :
 ACall Tryz.prog 144 [.sub 0 lo hi, .fn 145 [.box 1 0]] (iU nl T (aA (P ++ (S ++ R)))) (iT key nl T P S R) := by
 refine zl0 _ _ _ _ _ ?_
 unfold zdc
 refine (zpz hc lo hi nl P S R hP hS hr hlen).mono ?_
 rintro r h' ⟨S1, rfl, rfl, s1, k1⟩
 exact ⟨_, ⟨rfl, rfl⟩, ⟨trivial, ⟨rfl, rfl, by have := k1.len; simp; omega⟩, trivial⟩, S1, rfl, rfl, s1, k1⟩
end
end Go.Eng



namespace Go.Eng
open Go Go.Proofs Go.Eng.Rows Go.Eng.Srt
section
variable {Z : World -> (Nat -> Prop) -> (Nat -> Pl) -> Hp -> Prop} {key : Int -> Int} {nl : Bool} {T : PV} {l : Nat}
def YQ (key : Int -> Int) (L : List Int) (f i : Nat) (L' : List Int) : Prop := ∃ S', L' = L.take f ++ (S' ++ L.drop i) /\ Srtd key S' /\ Stab key ((L.take i).drop f) S'
def yW (Z : World -> (Nat -> Prop) -> (Nat -> Pl) -> Hp -> Prop) (key : Int -> Int) (nl : Bool) (T : PV) (l N0 : Nat) : Prop :=
 ∀ (w : World) (I : Nat -> Prop) (G : Nat -> Pl) (L : List Int) (f i : Nat), HRel w I G (aL nl T (aA L)) -> Z w I G (aL nl T (aA L)) -> f + 1 < i -> i <= L.length -> R32 L -> L.length < 1000000000000 -> L.length = N0 ->
  ∃ fn tmps assign body, (Instr.yield l #[.int .i64 f, .int .i64 i]).run Tryz.prog w = .ok (.round l fn tmps assign body) w /\ RoundIn Fence.wide 0 Tryz.prog l fn tmps assign body w fun e w' =>
   e = .returned (.bool true) /\ ∃ L' I' G', YQ key L f i L' /\ HRel w' I' G' (aL nl T (aA L')) /\ Keeps w I w' I' /\ Like G G' (aL nl T (aA L)) (aL nl T (aA L')) /\ Z w' I' G' (aL nl T (aA L'))
def o8 (ops : Array Oper) : Oper := ops.toList.getD 8 default
theorem e6a (y : Value) (es : List (List PV)) (i f : Int) (K : Env -> Hp -> Prop) : bN Tryz.prog (fun _ => none) 39 (bU (c6 Tryz.f161)).toList ((bU (c6 Tryz.f161)).toList.take 8) (eM y i f) (aL nl T es) K =
 K ((35, LV.spec 32 true (.pv (.int .i64 i))) :: (34, LV.spec 32 true (.pv (.int .i64 f))) :: (33, LV.spec 32 true (.pv (.raw y))) :: (32, .pv (.bool (decide (i64.wrap (i - f) > (1 : Int))))) :: (31, .pv (.bool (decide (i64.wrap (i - f) > (1 : Int))))) ::
  (30, .pv (.int .i64 (i64.wrap (i - f)))) :: (29, .pv (.int .i64 f)) :: (28, .pv (.int .i64 i)) :: eM y i f) (aL nl T es) := by kernel_rfl
theorem e6b (y : Value) (es : List (List PV)) (i f : Int) (K : Env -> Hp -> Prop) : bN Tryz.prog (fun _ => none) 39 (bU (c6 Tryz.f161)).toList ((bU (c6 Tryz.f161)).toList.drop 9) ((36, .pv (.bool true)) :: (32, .pv (.bool true)) :: eM y i f) (aL nl T es) K =
 K ((38, .pv (.bool false)) :: (37, .spec 32 true (.pv (.bool false))) :: (36, .pv (.bool true)) :: (32, .pv (.bool true)) :: eM y i f) (aL nl T es) := by kernel_rfl
theorem e6c (y : Value) (es : List (List PV)) (i f : Int) (K : Env -> Hp -> Prop) : bN Tryz.prog (fun _ => none) 39 (bU (c6 Tryz.f161)).toList ((bU (c6 Tryz.f161)).toList.drop 9) ((32, .pv (.bool false)) :: eM y i f) (aL nl T es) K =
 K ((38, .pv (.bool false)) :: (37, .pv .unit) :: (32, .pv (.bool false)) :: (32, .pv (.bool false)) :: eM y i f) (aL nl T es) := by kernel_rfl
theorem zp1 : c6 Tryz.f161 = .region 6 (bU (c6 Tryz.f161)) false := by kernel_rfl
theorem zp2 : (bU (c6 Tryz.f161)).size = 11 /\ iN (bU (c6 Tryz.f161)).toList = true /\ (bU (c6 Tryz.f161)).toList.length = 11 /\ (bU (c6 Tryz.f161))[8]? = some (o8 (bU (c6 Tryz.f161))) /\
 (o8 (bU (c6 Tryz.f161))).dst = some 36 /\ (o8 (bU (c6 Tryz.f161))).guard = some (4, true) /\ (o8 (bU (c6 Tryz.f161))).op = .call { callee := .value (.tmp 33), args := #[.tmp 34, .tmp 35], argTypes := #[3, 3] } /\
 ((bU (c6 Tryz.f161))[4]?).bind (·.dst) = some 32 :=
 ⟨by kernel_rfl, by kernel_rfl, by kernel_rfl, by kernel_rfl, by kernel_rfl, by kernel_rfl, by kernel_rfl, by kernel_rfl⟩
theorem zp3 {F : Fence} {n : Nat} {P : Program} {ops : Array Oper} {Q : Exit -> Act -> World -> Prop} {i : Nat} {rest : List Nat} {a : Act} {w : World} {o : Oper} (ho : ops[i]? = some o)
 (h : if Region.wanted o (yielded ops a.tmps) then o.wpIn F n P a w (wpOpsIn F n P ops Q rest) Q else (∀ f, o.about P w a.eval = some f -> F.fn f) /\ wpOpsIn F n P ops Q rest (a.put o.dst undef) w) : wpOpsIn F n P ops Q (i :: rest) a w := by
 simp only [wpOpsIn, ho]; exact h
theorem zp4 {w : World} {I : Nat -> Prop} {G : Nat -> Pl} {h : Hp} {tm : Array Value} {s : Nat} {b : Bool} (hr : LRel w I G h (.pv (.bool b)) (tm.getD s undef)) : tm[s]? = some (.bool b) := by
 have := hr.bool_eq
 rw [Array.getD_eq_getD_getElem?] at this
 cases hx : tm[s]? with
 | none => rw [hx] at this; simp [undef] at this
 | some v => rw [hx] at this; simpa using this
theorem LRel.raw_eq {w : World} {I : Nat -> Prop} {G : Nat -> Pl} {h : Hp} {v cv : Value} (hr : LRel w I G h (.pv (.raw v)) cv) : cv = v := by cases hr with | pv _ _ h1 => cases h1; rfl
theorem zp5 {N0 : Nat} (hY : yW Z key nl T l N0) (hZ : ∀ w I G h w' I' G' h', Z w I G h -> HRel w I G h -> HRel w' I' G' h' -> TrN 5 w I G h w' I' G' h' -> Z w' I' G' h') (L : List Int) (f i : Nat) (hf : f <= i) (hi : i <= L.length) (hr : R32 L) (hL : L.length < 1000000000000) (hN : L.length = N0) :
 CodeZ Z Tryz.prog 39 (c6 Tryz.f161) (eM (.func (.yield l) #[] #[]) i f) (aL nl T (aA L)) fun x e h => ∃ L', x = .normal /\ (if f + 1 < i then YQ key L f i L' else L' = L) /\ e = (38, .pv (.bool false)) :: eM (.func (.yield l) #[] #[]) i f /\ h = aL nl T (aA L') := by
 intro w I G a Qx hs hz hq
 obtain ⟨q1, q2, q3, q4, q5, q6, q7, q8⟩ := zp2
 rw [zp1]
 have ea := e6a (nl := nl) (T := T) (.func (.yield l) #[] #[]) (aA L) i f
 have eb := fun es => e6b (nl := nl) (T := T) (.func (.yield l) #[] #[]) es i f
 have ec := e6c (nl := nl) (T := T) (.func (.yield l) #[] #[]) (aA L) i f
 generalize bU (c6 Tryz.f161) = O at *
 generalize o8 O = o at *
 have ww : i64.wrap ((i : Int) - f) = (i : Int) - f := aD (by omega) (by omega)
 rw [ww] at ea
 refine wp_mono (Q := fun x a' w' => x = .normal /\ ∃ L' I' G', (if f + 1 < i then YQ key L f i L' else L' = L) /\ SRel w' I' G' ((38, .pv (.bool false)) :: eM (.func (.yield l) #[] #[]) i f) (aL nl T (aA L')) 39 a' /\ a'.defers = a.defers /\ Z w' I' G' (aL nl T (aA L'))) ((wpIn_wide (n := 0)).1 (wpIn_region (F := wd none) ?_)) ?_
 rotate_left
 ·rintro x a' w' ⟨rfl, L', I', G', h1, h2, h3, h4⟩
  exact hq .normal _ _ w' I' G' a' ⟨L', rfl, h1, rfl, rfl⟩ h2 h3 h4
 rw [q1, show List.range 11 = List.range' 0 8 ++ (8 :: List.range' 9 2) from rfl]
 refine sK ?_
 rw [show (8 : Nat) = (O.toList.take 8).length by simp [q3]]
 have hsuf : ∀ j, j < (O.toList.drop 9).length -> (O.toList.drop 9)[j]? = O[9 + j]? := fun j _ => by rw [List.getElem?_drop]; simp
 have hl2 : (O.toList.drop 9).length = 2 := by simp [q3]
 refine wK (ro := none) q2 (fun j hj => ?_) (by rw [ea]; exact ⟨rfl, rfl⟩ : bN Tryz.prog (fun _ => none) 39 O.toList (O.toList.take 8) _ _ (fun e' h' => e' = _ /\ h' = aL nl T (aA L))) hs (fun a w h => nomatch h.1) ?_
 ·rw [List.getElem?_take, if_pos (by simp only [List.length_take] at hj; omega)]; simp
 rintro _ _ w1 I1 G1 a1 ⟨rfl, rfl⟩ hs1 hd1 ht1
 rw [show (O.toList.take 8).length = 8 by simp [q3]]
 have hz1 := hZ _ _ _ _ _ _ _ _ hz hs.hh hs1.hh ht1.toN
 have h32 := zp4 (hs1.he 32 _ rfl)
 have hyl : yielded O a1.tmps 4 = some (decide ((i : Int) - f > 1)) := by
  unfold yielded
  rw [q8]; simp [h32]
 have hwd : Region.wanted o (yielded O a1.tmps) = decide ((i : Int) - f > 1) := by unfold Region.wanted; rw [q6]; simp [hyl]
 show wpOpsIn (wd none) 0 Tryz.prog O _ (8 :: List.range' 9 2) a1 w1
 refine zp3 q4 ?_
 rw [hwd]
 have hdst : gV 39 o = true := by unfold gV; rw [q5]; rfl
 by_cases hc : f + 1 < i
 ·have hd' : decide ((i : Int) - f > 1) = true := by simp; omega
  rw [hd'] at hs1 h32 ⊢
  rw [if_pos rfl]
  refine ⟨fun _ _ => trivial, ?_⟩
  have h32' : a1.tmps.getD 32 undef = .bool true := (hs1.he 32 _ rfl).bool_eq
  have v33 := ((hs1.he 33 _ rfl).1 h32').raw_eq
  have v34 := ((hs1.he 34 _ rfl).1 h32').int_eq
  have v35 := ((hs1.he 35 _ rfl).1 h32').int_eq
  obtain ⟨fn, tmps, assign, body, hy, hR⟩ := hY w1 I1 G1 L f i hs1.hh hz1 hc hi hr hL hN
  have hrun : (o.semAt none a1.eval).run Tryz.prog w1 = .ok (.round l fn tmps assign body) w1 := by
   rw [Oper.semAt_none]
   unfold execOp
   rw [q7]
   have e33 : a1.eval (.tmp 33) = .func (.yield l) #[] #[] := v33
   have e34 : a1.eval (.tmp 34) = .int .i64 f := v34
   have e35 : a1.eval (.tmp 35) = .int .i64 i := v35
   have hres : resolve a1.eval { callee := .value (.tmp 33), args := #[.tmp 34, .tmp 35], argTypes := #[3, 3] } o.type = pure { target := .fn (.yield l) #[], args := #[.int .i64 f, .int .i64 i] } := by
    simp [resolve, e33, e34, e35, Deferred.ofValue]
   simp only [hres, pure_bind]
   exact hy
  rw [hrun]
  refine ⟨(fun x => by cases x), hR.mono ?_⟩
  rintro e w2 ⟨rfl, L', I2, G2, y1, y2, y3, y4, y5⟩
  have hs2 : SRel w2 I2 G2 ((36, .pv (.bool true)) :: (32, .pv (.bool true)) :: eM (.func (.yield l) #[] #[]) i f) (aL nl T (aA L')) 39 (a1.put o.dst (.bool true)) := by
   have s1 : SRel w1 I1 G1 ((32, .pv (.bool true)) :: eM (.func (.yield l) #[] #[]) i f) (aL nl T (aA L)) 39 a1 := hs1.le (LeE.le ⟨rfl, rfl, rfl, rfl, rfl, rfl, trivial⟩)
   obtain ⟨p1, p2⟩ := kA (v := .pv (.bool true)) hdst s1.hn y2 (s1.he.mono y3 y4) (.pv _ _ (.bool true))
   have : put o (.pv (.bool true)) ((32, .pv (.bool true)) :: eM (.func (.yield l) #[] #[]) i f) = (36, .pv (.bool true)) :: (32, .pv (.bool true)) :: eM (.func (.yield l) #[] #[]) i f := by unfold put; rw [q5]; rfl
   rwa [this] at p1
  have := wK (ro := none) (n := 0) (k := 9) q2 hsuf (by rw [eb]; exact ⟨rfl, rfl⟩ : bN Tryz.prog (fun _ => none) 39 O.toList (O.toList.drop 9) _ _ (fun e' h' => e' = _ /\ h' = aL nl T (aA L'))) hs2 (Q := fun x a' w' => x = .normal /\ ∃ L' I' G', (if f + 1 < i then YQ key L f i L' else L' = L) /\ SRel w' I' G' ((38, .pv (.bool false)) :: eM (.func (.yield l) #[] #[]) i f) (aL nl T (aA L')) 39 a' /\ a'.defers = a.defers /\ Z w' I' G' (aL nl T (aA L'))) (fun a w h => nomatch h.1) (by
   rintro _ _ w3 I3 G3 a3 ⟨rfl, rfl⟩ hs3 hd3 ht3
   refine ⟨rfl, L', I3, G3, by rw [if_pos hc]; exact y1, hs3.le (LeE.le ⟨rfl, rfl, rfl, rfl, rfl, rfl, trivial⟩), hd3.trans ((by unfold Act.put; cases o.dst <;> rfl : (a1.put o.dst (.bool true)).defers = a1.defers).trans hd1), hZ _ _ _ _ _ _ _ _ y5 hs2.hh hs3.hh ht3.toN⟩)
  rw [hl2] at this
  exact this
 ·have hd' : decide ((i : Int) - f > 1) = false := by simp; omega
  rw [hd'] at hs1 h32 ⊢
  rw [if_neg (by simp)]
  refine ⟨fun _ _ => trivial, ?_⟩
  have hlt : 36 < a1.tmps.size := by rw [hs1.hn]; omega
  have hs2 : SRel w1 I1 G1 ((32, .pv (.bool false)) :: eM (.func (.yield l) #[] #[]) i f) (aL nl T (aA L)) 39 (a1.put o.dst undef) := by
   have s1 : SRel w1 I1 G1 ((32, .pv (.bool false)) :: eM (.func (.yield l) #[] #[]) i f) (aL nl T (aA L)) 39 a1 := hs1.le (LeE.le ⟨rfl, rfl, rfl, rfl, rfl, rfl, trivial⟩)
   obtain ⟨p1, p2⟩ := kA (v := .bot) (cv := undef) hdst s1.hn s1.hh s1.he (.bot _)
   have : put o .bot ((32, .pv (.bool false)) :: eM (.func (.yield l) #[] #[]) i f) = (36, .bot) :: (32, .pv (.bool false)) :: eM (.func (.yield l) #[] #[]) i f := by unfold put; rw [q5]; rfl
   rw [this] at p1
   exact p1.le (LeE.le ⟨rfl, rfl, rfl, rfl, rfl, rfl, trivial⟩)
  have := wK (ro := none) (n := 0) (k := 9) q2 hsuf (by rw [ec]; exact ⟨rfl, rfl⟩ : bN Tryz.prog (fun _ => none) 39 O.toList (O.toList.drop 9) _ _ (fun e' h' => e' = _ /\ h' = aL nl T (aA L))) hs2 (Q := fun x a' w' => x = .normal /\ ∃ L' I' G', (if f + 1 < i then YQ key L f i L' else L' = L) /\ SRel w' I' G' ((38, .pv (.bool false)) :: eM (.func (.yield l) #[] #[]) i f) (aL nl T (aA L')) 39 a' /\ a'.defers = a.defers /\ Z w' I' G' (aL nl T (aA L'))) (fun a w h => nomatch h.1) (by
   rintro _ _ w3 I3 G3 a3 ⟨rfl, rfl⟩ hs3 hd3 ht3
   exact ⟨rfl, L, I3, G3, by rw [if_neg hc], hs3.le (LeE.le ⟨rfl, rfl, rfl, rfl, rfl, rfl, trivial⟩), hd3.trans ((by unfold Act.put; cases o.dst <;> rfl : (a1.put o.dst undef).defers = a1.defers).trans hd1), hZ _ _ _ _ _ _ _ _ hz1 hs2.hh hs3.hh ht3.toN⟩)
  rw [hl2] at this
  exact this
end
end Go.Eng



namespace Go.Eng.Srt
open Go Go.Eng
section
variable (key : Int -> Int)
def dX (x y : Int) : Bool := decide (key x ≠ 0) && decide (key x < key y)
def qE (x : Int) : List Int -> List Int
 | [] => [x]
 | y :: r => if dX key x y = true then y :: qE x r else x :: y :: r
def ins (l : List Int) (x : Int) : List Int := (qE key x l.reverse).reverse
def bR (l : List Int) : List Int := l.foldl (ins key) []
inductive Eqv : List Int -> List Int -> Prop
 | refl (a : List Int) : Eqv a a
 | swap (u v w : List Int) (x y : Int) (hx : key x ≠ 0) (hy : key y ≠ 0) (hxy : key x ≠ key y) (h : Eqv (u ++ y :: x :: v) w) : Eqv (u ++ x :: y :: v) w
def cA : List Int -> Prop
 | x :: y :: r => (key y ≠ 0 -> key x <= key y) /\ cA (y :: r)
 | _ => True
end
variable {key : Int -> Int}
theorem nN {x y : Int} : dX key x y = true ↔ key x ≠ 0 /\ key x < key y := by simp [dX]
theorem tN {x y : Int} : dX key x y = false ↔ key x = 0 ∨ key y <= key x := by
 simp only [dX, Bool.and_eq_false_imp, decide_eq_true_eq, decide_eq_false_iff_not]
 constructor
 ·intro h; by_cases h0 : key x = 0
  ·exact .inl h0
  ·exact .inr (by have := h h0; omega)
 ·rintro (h | h) h0
  ·exact absurd h h0
  ·omega
theorem zgi {x : Int} : ∀ {B A : List Int}, (∀ y ∈ B, dX key x y = true) -> (A = [] ∨ ∃ z A', A = z :: A' /\ dX key x z = false) -> qE key x (B ++ A) = B ++ x :: A
 | [], A, _, h => by
   rcases h with rfl | ⟨z, A', rfl, h⟩
   ·rfl
   ·simp [qE, h]
 | y :: B, A, hB, h => by
   rw [List.cons_append, qE, if_pos (hB y List.mem_cons_self), zgi (fun z hz => hB z (List.mem_cons_of_mem _ hz)) h]; rfl
theorem mB {x : Int} {A B : List Int} (h1 : ∀ y ∈ B, dX key x y = true) (h2 : A = [] ∨ ∃ A' z, A = A' ++ [z] /\ dX key x z = false) : ins key (A ++ B) x = A ++ x :: B := by
 unfold ins
 rw [List.reverse_append, zgi (fun y hy => h1 y (List.mem_reverse.1 hy)) (h2.elim (fun e => .inl (by rw [e]; rfl)) fun ⟨A', z, e, h⟩ => .inr ⟨z, A'.reverse, by rw [e]; simp, h⟩)]
 simp
theorem yX (l : List Int) (x : Int) : ∃ A B, l = A ++ B /\ (∀ y ∈ B, dX key x y = true) /\ (A = [] ∨ ∃ A' z, A = A' ++ [z] /\ dX key x z = false) := by
 have : ∀ r : List Int, ∃ B A, r = B ++ A /\ (∀ y ∈ B, dX key x y = true) /\ (A = [] ∨ ∃ z A', A = z :: A' /\ dX key x z = false) := by
  intro r
  induction r with
  | nil => exact ⟨[], [], rfl, (fun y hy => by cases hy), .inl rfl⟩
  | cons y r ih =>
    cases hp : dX key x y with
    | true =>
      obtain ⟨B, A, e, h1, h2⟩ := ih
      exact ⟨y :: B, A, by rw [e]; rfl, fun z hz => by rcases List.mem_cons.1 hz with rfl | hz; exact hp; exact h1 z hz, h2⟩
    | false => exact ⟨[], y :: r, rfl, (fun y hy => by cases hy), .inr ⟨y, r, rfl, hp⟩⟩
 obtain ⟨B, A, e, h1, h2⟩ := this l.reverse
 refine ⟨A.reverse, B.reverse, by rw [<- List.reverse_append, <- e]; simp, fun y hy => h1 y (List.mem_reverse.1 hy), h2.elim (fun e => .inl (by rw [e]; rfl)) fun ⟨z, A', e, h⟩ => .inr ⟨A'.reverse, z, by rw [e]; simp, h⟩⟩
theorem zgj {l : List Int} {x y : Int} (hx : key x ≠ 0) (hxy : key x < key y) : ins key (ins key l y) x = ins key (ins key l x) y := by
 obtain ⟨B1, B2, rfl, b1, b2⟩ := yX (key := key) l y
 obtain ⟨C1, C2, rfl, c1, c2⟩ := yX (key := key) B1 x
 have px : ∀ z ∈ B2, dX key x z = true := fun z hz => nN.2 ⟨hx, by have := (nN.1 (b1 z hz)).2; omega⟩
 rw [mB b1 b2]
 have e1 : C1 ++ C2 ++ y :: B2 = C1 ++ (C2 ++ y :: B2) := by simp
 have e2 : C1 ++ C2 ++ B2 = C1 ++ (C2 ++ B2) := by simp
 rw [e1, mB (B := C2 ++ y :: B2) (fun z hz => ?_) c2, e2, mB (B := C2 ++ B2) (fun z hz => ?_) c2]
 ·have e3 : C1 ++ x :: (C2 ++ B2) = (C1 ++ x :: C2) ++ B2 := by simp
  rw [e3, mB b1 (.inr ?_)]
  ·simp
  ·rcases C2.eq_nil_or_concat with rfl | ⟨D, z, rfl⟩
   ·exact ⟨C1, x, rfl, tN.2 (.inr (by omega))⟩
   ·refine ⟨C1 ++ x :: D, z, by simp, ?_⟩
    rcases b2 with e | ⟨A', z', e, h⟩
    ·simp at e
    ·have : z = z' := by
      have := congrArg List.getLast? e
      simp at this; exact this
     rw [this]; exact h
 ·rcases List.mem_append.1 hz with hz | hz
  ·exact c1 z hz
  ·exact px z hz
 ·rcases List.mem_append.1 hz with hz | hz
  ·exact c1 z hz
  ·rcases List.mem_cons.1 hz with rfl | hz
   ·exact nN.2 ⟨hx, hxy⟩
   ·exact px z hz
theorem zp6 {l : List Int} {x y : Int} (hx : key x ≠ 0) (hy : key y ≠ 0) (hxy : key x ≠ key y) : ins key (ins key l x) y = ins key (ins key l y) x := by
 rcases Int.lt_or_gt_of_ne hxy with h | h
 ·exact (zgj hx h).symm
 ·exact zgj hy h
theorem yY (l : List Int) (x : Int) : bR key (l ++ [x]) = ins key (bR key l) x := by simp [bR]
theorem Eqv.trans {a b c : List Int} (h : Eqv key a b) (k : Eqv key b c) : Eqv key a c := by
 induction h with
 | refl a => exact k
 | swap u v w x y hx hy hxy h ih => exact .swap u v c x y hx hy hxy (ih k)
theorem Eqv.app {a b : List Int} (h : Eqv key a b) (p q : List Int) : Eqv key (p ++ (a ++ q)) (p ++ (b ++ q)) := by
 induction h with
 | refl a => exact .refl _
 | swap u v w x y hx hy hxy h ih =>
   have := Eqv.swap (p ++ u) (v ++ q) _ x y hx hy hxy (by simpa using ih)
   simpa using this
theorem Eqv.symm {a b : List Int} (h : Eqv key a b) : Eqv key b a := by
 induction h with
 | refl a => exact .refl _
 | swap u v w x y hx hy hxy h ih => exact ih.trans (.swap u v _ y x hy hx (Ne.symm hxy) (.refl _))
theorem zp7 {a b : List Int} (h : Eqv key a b) : bR key a = bR key b := by
 induction h with
 | refl a => rfl
 | swap u v w x y hx hy hxy h ih =>
   rw [<- ih]
   simp only [bR, List.foldl_append, List.foldl_cons]
   rw [zp6 hx hy hxy]
theorem Eqv.len {a b : List Int} (h : Eqv key a b) : a.length = b.length := by
 induction h with
 | refl a => rfl
 | swap u v w x y hx hy hxy h ih => rw [<- ih]; simp
theorem Eqv.mem {a b : List Int} (h : Eqv key a b) {z : Int} : z ∈ a ↔ z ∈ b := by
 induction h with
 | refl a => exact Iff.rfl
 | swap u v w x y hx hy hxy h ih => rw [<- ih]; simp only [List.mem_append, List.mem_cons]; exact or_congr_right ⟨fun h => h.elim (fun e => .inr (.inl e)) (fun h => h.elim .inl fun h => .inr (.inr h)), fun h => h.elim (fun e => .inr (.inl e)) (fun h => h.elim .inl fun h => .inr (.inr h))⟩
theorem Eqv.ahead {x : Int} (hx : key x ≠ 0) : ∀ {B : List Int} (q : List Int), (∀ y ∈ B, key y ≠ 0 /\ key y ≠ key x) -> Eqv key (B ++ x :: q) (x :: (B ++ q))
 | [], q, _ => .refl _
 | y :: B, q, h => by
   have h1 := Eqv.ahead hx (B := B) q fun z hz => h z (List.mem_cons_of_mem _ hz)
   have h2 := h1.app [y] []
   simp only [List.append_nil, List.cons_append, List.nil_append] at h2
   obtain ⟨hy, hyx⟩ := h y List.mem_cons_self
   exact h2.trans (.swap [] (B ++ q) _ y x hy hx hyx (.refl _))
theorem zp8 (hk : ∀ x, 0 <= key x) (l : List Int) (x : Int) : Eqv key (l ++ [x]) (ins key l x) := by
 obtain ⟨A, B, rfl, h1, h2⟩ := yX (key := key) l x
 rw [mB h1 h2]
 by_cases hB : B = []
 ·subst hB; simp; exact .refl _
 ·obtain ⟨y, hy⟩ := List.exists_mem_of_ne_nil B hB
  have hx := (nN.1 (h1 y hy)).1
  have := (Eqv.ahead hx (B := B) [] fun z hz => by have := (nN.1 (h1 z hz)).2; have := hk x; omega).app A []
  simpa using this
theorem kU {p : List Int -> Prop} (h0 : p []) (h1 : ∀ l x, p l -> p (l ++ [x])) (l : List Int) : p l := by
 have : ∀ r : List Int, p r.reverse := by
  intro r
  induction r with
  | nil => exact h0
  | cons x r ih => rw [List.reverse_cons]; exact h1 _ _ ih
 have := this l.reverse
 rwa [List.reverse_reverse] at this
theorem tO (hk : ∀ x, 0 <= key x) (l : List Int) : Eqv key l (bR key l) := by
 induction l using kU with
 | h0 => exact .refl _
 | h1 l x ih =>
   rw [yY]
   have := ih.app [] [x]
   exact Eqv.trans (by simpa using this) (zp8 hk _ x)
theorem mC : ∀ {A B : List Int}, cA key (A ++ B) ↔ cA key A /\ cA key B /\ (∀ z x, A.getLast? = some z -> B.head? = some x -> key x ≠ 0 -> key z <= key x)
 | [], B => by simp [cA]
 | [a], [] => by simp [cA]
 | [a], b :: B => by simp [cA, and_comm]
 | a :: c :: A, B => by
   have := mC (A := c :: A) (B := B)
   simp only [List.cons_append, cA] at this ⊢
   rw [this, List.getLast?_cons_cons, and_assoc]
theorem zp9 {l : List Int} (h : cA key l) : bR key l = l := by
 revert h
 induction l using kU with
 | h0 => exact fun _ => rfl
 | h1 l x ih =>
   intro h
   obtain ⟨q1, q2, q3⟩ := mC.1 h
   rw [yY, ih q1]
   have := mB (key := key) (x := x) (A := l) (B := []) (fun y hy => by cases hy) (by
    rcases l.eq_nil_or_concat with rfl | ⟨D, z, rfl⟩
    ·exact .inl rfl
    ·refine .inr ⟨D, z, by simp, tN.2 ?_⟩
     by_cases hx : key x = 0
     ·exact .inl hx
     ·exact .inr (q3 z x (by simp) rfl hx))
   simpa using this
theorem zgk : ∀ {S' S : List Int}, Stab key S S' -> (∀ x ∈ S, key x ≠ 0) -> Eqv key S S'
 | [], S, h, _ => by have := h.len; cases S with | nil => exact .refl _ | cons => simp at this
 | y :: r, S, h, h0 => by
   have hf := h.2 (key y)
   rw [List.filter_cons, if_pos (by simp)] at hf
   obtain ⟨A, B, rfl, hA, hB⟩ := List.filter_eq_cons_iff.1 hf
   have hy : key y ≠ 0 := h0 y (by simp)
   have hA' : ∀ z ∈ A, key z ≠ key y := fun z hz => by have := hA z hz; simpa using this
   have e1 := Eqv.ahead hy (B := A) B fun z hz => ⟨h0 z (by simp [hz]), hA' z hz⟩
   have hs : Stab key (A ++ B) r := by
    refine ⟨(List.perm_cons y).1 ((List.perm_middle.symm).trans h.1), fun c => ?_⟩
    have := h.2 c
    rw [List.filter_append, List.filter_cons, List.filter_cons] at this
    rw [List.filter_append]
    by_cases hc : key y = c
    ·have hn : A.filter (fun x => decide (key x = c)) = [] := List.filter_eq_nil_iff.2 fun z hz => by simp only [decide_eq_true_eq]; intro e; exact hA' z hz (e.trans hc.symm)
     rw [hn] at this ⊢
     simp only [hc, decide_true, if_true, List.nil_append, List.cons.injEq, true_and] at this
     exact this
    ·simp only [hc, decide_false, Bool.false_eq_true, if_false] at this
     exact this
   have e2 := (zgk hs fun z hz => h0 z (by rcases List.mem_append.1 hz with hz | hz <;> simp [hz])).app [y] []
   simp only [List.append_nil, List.cons_append, List.nil_append] at e2
   exact e1.trans e2
theorem zgl : ∀ {S : List Int}, Srtd key S -> cA key S
 | [], _ => trivial
 | [a], _ => trivial
 | a :: b :: S, h => ⟨fun _ => (List.pairwise_cons.1 h).1 b List.mem_cons_self, zgl (List.pairwise_cons.1 h).2⟩
theorem tP (L : List Int) {i j : Nat} (hij : i <= j) (hj : j <= L.length) : L = L.take i ++ ((L.take j).drop i ++ L.drop j) /\ (L.take i).length = i /\ ((L.take j).drop i).length = j - i := by
 refine ⟨?_, by rw [List.length_take]; omega, by rw [List.length_drop, List.length_take]; omega⟩
 have h1 : L = L.take j ++ L.drop j := (List.take_append_drop j L).symm
 have h2 : L.take j = (L.take j).take i ++ (L.take j).drop i := (List.take_append_drop i _).symm
 rw [List.take_take, Nat.min_eq_left hij] at h2
 rw [<- List.append_assoc, <- h2]; exact h1
theorem zqa (hk : ∀ x, 0 <= key x) {L : List Int} {i j : Nat} (hij : i <= j) (hj : j <= L.length) (hb : i = 0 ∨ key (L.getD (i - 1) 0) = 0) (hnz : ∀ k, i <= k -> k < j -> key (L.getD k 0) ≠ 0) (hend : j = L.length ∨ key (L.getD j 0) = 0)
 (hc : cA key (L.take i)) {S' : List Int} (hs : Srtd key S') (hst : Stab key ((L.take j).drop i) S') :
 Eqv key L (L.take i ++ (S' ++ L.drop j)) /\ cA key ((L.take i ++ (S' ++ L.drop j)).take (j + 1)) /\ (j < L.length -> key ((L.take i ++ (S' ++ L.drop j)).getD j 0) = 0) := by
 obtain ⟨c1, c2, c3⟩ := tP L hij hj
 have hl : S'.length = j - i := by rw [<- hst.len]; exact c3
 refine ⟨?_, ?_, fun hlt => ?_⟩
 ·have hm : ∀ x ∈ (L.take j).drop i, key x ≠ 0 := fun x hx => by
   obtain ⟨k, hk1, hk2⟩ := List.getElem_of_mem hx
   have := hnz (i + k) (by omega) (by omega)
   rw [List.getElem_drop, List.getElem_take] at hk2
   have hl2 : i + k < L.length := by omega
   simp only [List.getD, List.getElem?_eq_getElem hl2, Option.getD_some, hk2] at this
   exact this
  have := (zgk hst hm).app (L.take i) (L.drop j)
  rwa [<- c1] at this
 ·rw [List.take_append, c2, List.take_of_length_le (by omega), List.take_append, hl, List.take_of_length_le (by omega : S'.length <= j + 1 - i), show j + 1 - i - (j - i) = 1 by omega]
  have hR : ∀ x, ((L.drop j).take 1).head? = some x -> key x = 0 := fun x hx => by
   rcases hend with e | e
   ·rw [List.drop_eq_nil_of_le (by omega)] at hx; cases hx
   ·rcases Nat.lt_or_ge j L.length with h' | h'
    ·rw [List.drop_eq_getElem_cons h'] at hx
     simp only [List.take_succ_cons, List.head?_cons, Option.some.injEq] at hx
     rw [<- hx]
     simpa [List.getD, List.getElem?_eq_getElem h'] using e
    ·rw [List.drop_eq_nil_of_le h'] at hx; cases hx
  refine mC.2 ⟨hc, mC.2 ⟨zgl hs, ?_, fun z x _ hx h0 => absurd (hR x hx) h0⟩, fun z x hz hx h0 => ?_⟩
  ·cases L.drop j with
   | nil => trivial
   | cons a r => trivial
  ·have : key z = 0 := by
    rcases hb with rfl | hb
    ·simp at hz
    ·rw [List.getLast?_eq_getElem?, c2] at hz
     by_cases h0 : i = 0
     ·subst h0; simp at hz
     ·rw [List.getElem?_take, if_pos (by omega)] at hz
      simpa [List.getD, hz] using hb
   rw [this]; exact hk x
 ·rcases hend with e | e
  ·omega
  ·rw [<- List.append_assoc]
   simp only [List.getD] at e ⊢
   rw [List.getElem?_append_right (by simp only [List.length_append]; omega), List.length_append, c2, hl, List.getElem?_drop, show j + (j - (i + (j - i))) = j by omega]
   exact e
theorem zqb {S : List Int} (h : S.length <= 1) : Srtd key S := by
 match S, h with
 | [], _ => exact List.Pairwise.nil
 | [a], _ => exact List.pairwise_singleton _ _
end Go.Eng.Srt



namespace Go.Eng
open Go Go.Proofs Go.Eng.Rows Go.Eng.Srt
section
variable {Z : World -> (Nat -> Prop) -> (Nat -> Pl) -> Hp -> Prop} {key : Int -> Int} {nl : Bool} {T : PV} {l : Nat} {y : Value} {es : List (List PV)}
theorem eI0 (Q : Qt) : c5 Tryz.prog (fun _ => none) 5 39 lM (fun _ => none) (dB (cM Tryz.f161)) (eV [.pv (.raw y), .box 4 0, .box 3 0] 0) (aL nl T es) Q = Q .normal (eN y 0) (aL nl T es) := by kernel_rfl
theorem eI1 (i : Int) (Q : Qt) : c5 Tryz.prog (fun _ => none) 5 39 lM (fun _ => none) (dB (cL Tryz.f161)) (eN y i) (aL nl T es) Q =
 if decide (i < (es.length : Int)) = true then Q .normal [(0, .pv (.raw y)), (1, .box 4 0), (2, .box 3 0), (4, .pv (.int .i64 i)), (9, .pv (.bool (decide (i < (es.length : Int)))))] (aL nl T es)
 else Q (.exit 0) [(0, .pv (.raw y)), (1, .box 4 0), (2, .box 3 0), (4, .pv (.int .i64 i)), (9, .pv (.bool (decide (i < (es.length : Int)))))] (aL nl T es) := by kernel_rfl
theorem eI3 (i : Int) (Q : Qt) : c5 Tryz.prog (fun _ => none) 5 39 lM (fun _ => none) (dB (cB Tryz.f161)) (eN y i) (aL nl T es) Q = Q .normal (eM y i i) (aL nl T es) := by kernel_rfl
theorem eI2 (i : Int) (Q : Qt) : c5 Tryz.prog (fun _ => none) 5 39 lM (fun _ => none) (cG (cG (cL Tryz.f161))) (eN y i) (aL nl T es) Q = Q .normal (eN y (i64.wrap (i + 1))) (aL nl T es) := by kernel_rfl
def yZ (y : Value) (i f : Int) (b : Bool) : Env := [(0, .pv (.raw y)), (1, .box 4 0), (2, .box 3 0), (4, .pv (.int .i64 i)), (5, .pv (.int .i64 f)), (25, .pv (.bool b))]
theorem eI4 (i f : Int) (J : Int -> Prop) (μ : Int -> Nat) (Q : Qt) : c5 Tryz.prog (fun _ => none) 5 39 lM (fun zz_ => match zz_ with | 4 => some ⟨Int × Unit, fun s => (eM y s.1 f, aL nl T es), fun _ s => J s.1, fun s => μ s.1, fun e h => (gI e 4, ()), [], [0, 1, 2, 4, 5], [], fun p => ∀ (x4 : Int), p (x4, ()), fun p h s => h s.1⟩ | _ => none) (dB (cG (cB Tryz.f161))) (eM y i f) (aL nl T es) Q =
 ((SameSt (eM y i f, aL nl T es) (eM y i f, aL nl T es) /\ J i) /\ ∀ (x4 : Int), J x4 -> if decide (x4 < (es.length : Int)) = true then aO es x4 1 /\ ∃ (n : Int), (List.drop 0 (es.getD x4.toNat [])).head? = some (.int .i32 n) /\ PCall Tryz.prog 80 [T, .int .i32 n] fun (v : PV) => ∃ (n1 : Int), v = .int .i64 n1 /\
  if (n1 != (0 : Int)) = true then SameSt (eM y (i64.wrap (x4 + 1)) f, aL nl T es) (eM y (i64.wrap (x4 + 1)) f, aL nl T es) /\ J (i64.wrap (x4 + 1)) /\ μ (i64.wrap (x4 + 1)) < μ x4
  else Q .normal (yZ y x4 f (n1 != (0 : Int))) (aL nl T es)
   else Q .normal (yZ y x4 f false) (aL nl T es)) := by kernel_rfl
theorem y6 : cM Tryz.f161 = .seq (dB (cM Tryz.f161)) (.block 0 (.loop (cL Tryz.f161))) /\
 cL Tryz.f161 = .seq (dB (cL Tryz.f161)) (.seq (.block 1 (cB Tryz.f161)) (cG (cG (cL Tryz.f161)))) /\
 cB Tryz.f161 = .seq (dB (cB Tryz.f161)) (.seq (dB (cG (cB Tryz.f161))) (.seq (c6 Tryz.f161) (.cond (.tmp 38) .ret .skip))) := ⟨by kernel_rfl, by kernel_rfl, by kernel_rfl⟩
theorem CodeZ.le {P : Program} {N : Nat} {c : Code} {e e' : Env} {h : Hp} {Q : Qt} (hl : LeE e' e) (hK : CodeZ Z P N c e' h Q) : CodeZ Z P N c e h Q :=
 fun w I G a Qx hs hz hq => hK w I G a Qx (hs.le hl.le) hz hq
theorem zqc (hk : ∀ x, 0 <= key x) (hT : ∀ r : Int, (-2147483648 <= r /\ r <= 2147483647) -> PCall Tryz.prog 80 [T, .int .i32 r] fun v => v = .int .i64 (key r)) 
 (hZ : ∀ w I G h w' I' G' h', Z w I G h -> HRel w I G h -> HRel w' I' G' h' -> TrN 5 w I G h w' I' G' h' -> Z w' I' G' h') (L0 : List Int) (hY : yW Z key nl T l L0.length) (hr : R32 L0) (hL : L0.length < 1000000000000) :
 CodeZ Z Tryz.prog 39 (cM Tryz.f161) (eV [.pv (.raw (.func (.yield l) #[] #[])), .box 4 0, .box 3 0] 0) (aL nl T (aA L0)) fun x e h => x = .normal /\ h = aL nl T (aA (bR key L0)) := by
 obtain ⟨y, hy⟩ : ∃ y : Value, y = .func (.yield l) #[] #[] := ⟨_, rfl⟩
 rw [y6.1, <- hy]
 refine CodeZ.seq (CodeZ.of (n0 := 5) hZ (gE (Eq.mpr (eI0 _) ?_)))
 show CodeZ Z Tryz.prog 39 (.block 0 (.loop (cL Tryz.f161))) (eN y 0) (aL nl T (aA L0)) _
 refine CodeZ.block (CodeZ.loop (σ := Nat × List Int) (fun s => (eN y s.1, aL nl T (aA s.2))) (fun s => s.1 <= L0.length + 1 /\ Eqv key L0 s.2 /\ cA key (s.2.take s.1) /\ (s.1 = 0 ∨ L0.length < s.1 ∨ key (s.2.getD (s.1 - 1) 0) = 0)) (fun s => L0.length + 1 - s.1) (0, L0) (LeE.le ⟨rfl, rfl, rfl, rfl, trivial⟩) rfl ⟨by omega, .refl _, by simp [cA], .inl rfl⟩ ?_)
 rintro ⟨i, L⟩ ⟨hi, hq, hc, hb⟩
 have hlen := hq.len
 have hr' : R32 L := fun x hx => hr x (hq.mem.2 hx)
 dsimp only at hi hq hc hb hlen ⊢
 rw [y6.2.1]
 refine CodeZ.seq (CodeZ.of (n0 := 5) hZ (gE (Eq.mpr (eI1 _ _) ?_)))
 by_cases hlt : i < L.length
 ·rw [if_pos (by simpa using hlt)]
  show CodeZ Z Tryz.prog 39 (.seq (.block 1 (cB Tryz.f161)) (cG (cG (cL Tryz.f161)))) _ _ _
  refine CodeZ.le (e' := eN y i) ⟨rfl, rfl, rfl, rfl, trivial⟩ (CodeZ.seq (CodeZ.block ?_))
  rw [y6.2.2]
  refine CodeZ.seq (CodeZ.of (n0 := 5) hZ (gE (Eq.mpr (eI3 _ _) ?_)))
  show CodeZ Z Tryz.prog 39 (.seq (dB (cG (cB Tryz.f161))) (.seq (c6 Tryz.f161) (.cond (.tmp 38) .ret .skip))) (eM y i i) _ _
  refine CodeZ.seq (CodeZ.of (n0 := 5) hZ (gE (Eq.mpr (eI4 _ _ (fun x => ∃ j : Nat, x = j /\ i <= j /\ j <= L.length /\ ∀ k, i <= k -> k < j -> key (L.getD k 0) ≠ 0) (fun x => ((L.length : Int) - x).toNat) _) ?_)))
  refine ⟨⟨rfl, i, rfl, Nat.le_refl _, by omega, fun k h1 h2 => by omega⟩, ?_⟩
  rintro _ ⟨j, rfl, hij, hj, hnz⟩
  -- what follows the row of marks
  have rest : ∀ b, (j = L.length ∨ key (L.getD j 0) = 0) -> CodeZ Z Tryz.prog 39 (.seq (c6 Tryz.f161) (.cond (.tmp 38) .ret .skip)) (yZ y j i b) (aL nl T (aA L)) fun x e h => match x with
   | .normal => CodeZ Z Tryz.prog 39 (cG (cG (cL Tryz.f161))) e h fun x e h => match x with
     | .normal => ∃ s' : Nat × List Int, (∀ i v, get (eN y s'.1) i = some v -> get e i = some v) /\ h = aL nl T (aA s'.2) /\ (s'.1 <= L0.length + 1 /\ Eqv key L0 s'.2 /\ cA key (s'.2.take s'.1) /\ (s'.1 = 0 ∨ L0.length < s'.1 ∨ key (s'.2.getD (s'.1 - 1) 0) = 0)) /\ L0.length + 1 - s'.1 < L0.length + 1 - i
     | _ => False
   | _ => False := fun b hend => by
   refine CodeZ.le (e' := eM y j i) ⟨rfl, rfl, rfl, rfl, rfl, trivial⟩ (CodeZ.seq ?_)
   rw [hy]
   refine (zp5 hY hZ L i j hij hj hr' (by omega) hlen.symm).mono ?_
   rintro _ _ _ ⟨L', rfl, hL', rfl, rfl⟩
   refine CodeZ.cond (t := false) rfl ?_
   simp only [Bool.false_eq_true, if_false]
   refine CodeZ.skip ?_
   rw [<- hy]
   refine CodeZ.le (e' := eN y j) ⟨rfl, rfl, rfl, rfl, trivial⟩ (CodeZ.of (n0 := 5) hZ (gE (Eq.mpr (eI2 _ _) ?_)))
   have wj : i64.wrap ((j : Int) + 1) = ((j + 1 : Nat) : Int) := by rw [aD (by omega) (by omega)]; omega
   rw [wj]
   have hb' : i = 0 ∨ key (L.getD (i - 1) 0) = 0 := by
    rcases hb with h | h | h
    ·exact .inl h
    ·omega
    ·exact .inr h
   obtain ⟨S', hs, hst, rfl⟩ : ∃ S', Srtd key S' /\ Stab key ((L.take j).drop i) S' /\ L' = L.take i ++ (S' ++ L.drop j) := by
    by_cases h1 : i + 1 < j
    ·rw [if_pos h1] at hL'
     obtain ⟨S', e, h2, h3⟩ := hL'
     exact ⟨S', h2, h3, e⟩
    ·rw [if_neg h1] at hL'
     obtain ⟨c1, c2, c3⟩ := tP L hij hj
     exact ⟨_, zqb (by omega), Stab.refl _, hL'.trans c1⟩
   obtain ⟨g1, g2, g3⟩ := zqa hk hij hj hb' hnz hend hc hs hst
   refine ⟨(j + 1, _), LeE.le ⟨rfl, rfl, rfl, rfl, trivial⟩, rfl, ⟨by dsimp only; omega, hq.trans g1, g2, ?_⟩, by dsimp only; omega⟩
   rcases Nat.lt_or_ge j L.length with h | h
   ·exact .inr (.inr (g3 h))
   ·exact .inr (.inl (by dsimp only; omega))
  by_cases hjl : j < L.length
  ·rw [if_pos (by simpa using hjl)]
   refine ⟨bK (enc := fun n => [PV.int .i32 n]) (l := L) (fun _ => rfl) (by omega) (by omega), L.getD j 0, by rw [Int.toNat_natCast, zcu hjl]; rfl, (hT _ (hr' _ (List.mem_of_getElem? (qC hjl)))).mono ?_⟩
   rintro _ rfl
   refine ⟨_, rfl, ?_⟩
   by_cases hz : key (L.getD j 0) = 0
   ·rw [if_neg (by simpa using hz)]
    exact (rest _ (.inr hz)).mono fun x e h hx => by cases x <;> first | exact hx.elim | exact CodeZ.mono hx fun x e h hx => (by cases x <;> first | exact hx | exact hx.elim)
   ·rw [if_pos (by simpa using hz)]
    have wj : i64.wrap ((j : Int) + 1) = ((j + 1 : Nat) : Int) := by rw [aD (by omega) (by omega)]; omega
    rw [wj]
    refine ⟨rfl, ⟨j + 1, rfl, by omega, hjl, fun k h1 h2 => ?_⟩, by omega⟩
    rcases Nat.lt_or_ge k j with h | h
    ·exact hnz k h1 h
    ·have : k = j := by omega
     subst this; exact hz
  ·rw [if_neg (by simpa using hjl)]
   exact (rest _ (.inl (by omega))).mono fun x e h hx => by cases x <;> first | exact hx.elim | exact CodeZ.mono hx fun x e h hx => (by cases x <;> first | exact hx | exact hx.elim)
 ·rw [if_neg (by simpa using hlt)]
  refine ⟨rfl, ?_⟩
  rw [List.take_of_length_le (by omega)] at hc
  rw [zp7 hq, zp9 hc]
end
end Go.Eng



namespace Go.Eng
open Go Go.Proofs Go.Eng.Rows Go.Eng.Srt
section
variable {w w' : World} {I I' : Nat -> Prop} {G G' : Nat -> Pl} {h h' : Hp}
theorem HRel.off (hh : HRel w I G h) {l : Nat} (o : Obj) (hI : ¬ I l) (ho : ¬ aX h G l) : HRel (w.putObj l o) I G h := by
 have hw : ∀ b, b ≠ l -> (w.putObj l o).heap[b]? = w.heap[b]? := fun b hb => World.putObj_heap_other hb
 have hk : Keeps w I (w.putObj l o) I := ⟨fun b hb _ => hw b fun e => hI (e ▸ hb), fun b hb _ => hb⟩
 have blk : ∀ (i : Nat) x, h[i]? = some x -> x.alive (G i) -> (G i).blk ≠ l := fun i x hx ha e => ho ⟨i, x, hx, ha, e⟩
 refine ⟨fun i x hx => ?_, hh.sep, hh.nI, fun b hb => by rw [World.putObj_size]; exact hh.cl b hb⟩
 have := hh.obs i x hx
 cases x with
 | dead => trivial
 | box cs => obtain ⟨vs, ty, e1, e2, e3⟩ := this; exact ⟨vs, ty, by rw [hw _ (blk i _ hx trivial)]; exact e1, e2, fun k v hv => ⟨(e3 k v hv).1.mono hk (.refl _ _), (e3 k v hv).2⟩⟩
 | arr cs => obtain ⟨vs, ty, e1, e2, e3⟩ := this; exact ⟨vs, ty, by rw [hw _ (blk i _ hx trivial)]; exact e1, e2, fun k v hv => ⟨(e3 k v hv).1.mono hk.1 hk.2, (e3 k v hv).2⟩⟩
 | sl ty m n es =>
   cases n with
   | true => exact this
   | false =>
     obtain ⟨e1, e2, e3, e3', e4, e5⟩ := this
     refine ⟨e1, e2, e3, e3', e4, fun hc => ?_⟩
     obtain ⟨vs, f1, f2, f3⟩ := e5 hc
     exact ⟨vs, by rw [hw _ (blk i _ hx ⟨rfl, hc⟩)]; exact f1, f2, fun i' e he k v hv => ⟨(f3 i' e he k v hv).1.mono hk.1 hk.2, (f3 i' e he k v hv).2⟩⟩
 | mp kvs => obtain ⟨es, ck, e1, e2, e3⟩ := this; exact ⟨es, ck, by rw [hw _ (blk i _ hx trivial)]; exact e1, e2, fun k kv hv => ⟨(e3 k kv hv).1.mono hk.1 hk.2, (e3 k kv hv).2.mono hk.1 hk.2⟩⟩
 | iter ty rem cur => exact IterRel.mono this (hw _ (blk i _ hx trivial)) hk
theorem jQ (hh : HRel w I G h) {b : Nat} {o : Obj} (ho : w.heap[b]? = some o) (hn : (match o with | .cells .. => true | .map .. => true | .mapIter .. => true | _ => false) = false) : ¬ aX h G b := by
 rintro ⟨i, ob, hi, ha, rfl⟩
 have := hh.obs i ob hi
 cases ob with
 | dead => exact ha
 | box cs => obtain ⟨vs, ty, e1, _⟩ := this; rw [ho] at e1; cases e1; cases hn
 | arr cs => obtain ⟨vs, ty, e1, _⟩ := this; rw [ho] at e1; cases e1; cases hn
 | sl ty m n es =>
   cases n with
   | true => exact absurd ha.1 (by simp)
   | false => obtain ⟨vs, e1, _⟩ := this.2.2.2.2.2 ha.2; rw [ho] at e1; cases e1; cases hn
 | mp kvs => obtain ⟨es, ck, e1, _⟩ := this; rw [ho] at e1; cases e1; cases hn
 | iter ty rem cur => obtain ⟨_, _, _, _, _, _, e1, _⟩ := this; rw [ho] at e1; cases e1; cases hn
theorem Tr.off {own own' : Nat -> Prop} (t : Tr w I own w' I' own') {l : Nat} (hl : w.heap.size <= l) (o : Obj) : Tr w I own (w'.putObj l o) I' own' :=
 ⟨t.os, t.tape, t.output, by rw [World.putObj_size]; exact t.size, fun b hb hn => (World.putObj_heap_other (by omega)).trans (t.keep b hb hn), t.i1, t.i2, t.own2,
  fun a ha => (World.frozen?_of_block (World.putObj_heap_other (by omega))).trans (t.frz a ha), t.drawn⟩
theorem TrN.off {n0 : Nat} (t : TrN n0 w I G h w' I' G' h') {l : Nat} (hl : w.heap.size <= l) (o : Obj) : TrN n0 w I G h (w'.putObj l o) I' G' h' := ⟨t.t.off hl o, t.len, t.stay⟩
theorem qF (hh : HRel w I G h) (t : Tr w I (aX h G) w' I' (aX h' G')) : Keeps w I w' I' :=
 ⟨fun b hb hlt => t.keep b hlt fun ⟨o, ob, h1, h2, e⟩ => hh.nI o ob h1 h2 (e ▸ hb), fun b hb _ => t.i1 b hb⟩
theorem Keeps.trans {w1 w2 : World} {I1 I2 : Nat -> Prop} (h : Keeps w I w1 I1) (hs : w.heap.size <= w1.heap.size) (k : Keeps w1 I1 w2 I2) : Keeps w I w2 I2 :=
 ⟨fun b hb hlt => (k.1 b (h.2 b hb hlt) (Nat.lt_of_lt_of_le hlt hs)).trans (h.1 b hb hlt), fun b hb hlt => k.2 b (h.2 b hb hlt) (Nat.lt_of_lt_of_le hlt hs)⟩
theorem Keeps.off {l : Nat} (hI : ¬ I l) (o : Obj) : Keeps w I (w.putObj l o) I := ⟨fun b hb _ => World.putObj_heap_other fun e => hI (e ▸ hb), fun b hb _ => hb⟩
structure ZR (W0 : World) (I0 : Nat -> Prop) (G0 : Nat -> Pl) (h0 : Hp) (l D : Nat) (rec : Loop) (W : World) (I : Nat -> Prop) (G : Nat -> Pl) (h : Hp) : Prop where
 t : TrN 5 W0 I0 G0 h0 W I G h
 hl : W.heap[l]? = some (.loop rec)
 hD : W.heap[D]? = some (.deferred (some []))
 nl : ¬ I l
 nD : ¬ I D
theorem ZR.step {W0 : World} {I0 : Nat -> Prop} {G0 : Nat -> Pl} {h0 : Hp} {l D : Nat} {rec : Loop} (z : ZR W0 I0 G0 h0 l D rec w I G h) (hh : HRel w I G h) (t : TrN 5 w I G h w' I' G' h') : ZR W0 I0 G0 h0 l D rec w' I' G' h' := by
 have l1 := (Array.getElem?_eq_some_iff.1 z.hl).1
 have l2 := (Array.getElem?_eq_some_iff.1 z.hD).1
 have n1 := jQ hh z.hl rfl
 have n2 := jQ hh z.hD rfl
 exact ⟨z.t.trans t, (t.t.keep l l1 n1).trans z.hl, (t.t.keep D l2 n2).trans z.hD, fun x => (t.t.i2 l x).elim z.nl (fun x => x.elim n1 fun x => by omega), fun x => (t.t.i2 D x).elim z.nD (fun x => x.elim n2 fun x => by omega)⟩
end
section
variable {key : Int -> Int} {nl : Bool} {T : PV}
theorem y7 {G G' : Nat -> Pl} {es es' : List (List PV)} (hl : es.length = es'.length) (hG : ∀ o, o < 5 -> G' o = G o) : Like G G' (aL nl T es) (aL nl T es') := by
 intro o ob ho
 have hlt : o < 5 := (List.getElem?_eq_some_iff.1 ho).1
 refine ⟨?_, fun _ => hG o hlt⟩
 match o, ho with
 | 0, ho => cases ho; exact ⟨_, rfl, trivial⟩
 | 1, ho => cases ho; exact ⟨_, rfl, rfl, rfl, hl⟩
 | 2, ho => cases ho; exact ⟨_, rfl, trivial⟩
 | 3, ho => cases ho; exact ⟨_, rfl, trivial⟩
 | 4, ho => cases ho; exact ⟨_, rfl, trivial⟩
theorem tQ {w w' : World} {I I' : Nat -> Prop} {G G' : Nat -> Pl} {es es' : List (List PV)} (t : TrN 5 w I G (aL nl T es) w' I' G' (aL nl T es')) : ∀ o, o < 5 -> G' o = G o := by
 intro o ho
 have hs := t.stay (Nat.le_refl _)
 match o, ho with
 | 0, _ => exact (hs 0 _ (by omega) rfl rfl).1
 | 1, _ => exact (hs 1 _ (by omega) rfl rfl).1
 | 2, _ => exact (hs 2 _ (by omega) rfl rfl).1
 | 3, _ => exact (hs 3 _ (by omega) rfl rfl).1
 | 4, _ => exact (hs 4 _ (by omega) rfl rfl).1
theorem eA3 (es : List (List PV)) (i f : Int) (K : Env -> Hp -> Prop) : bN Tryz.prog (fun _ => none) 22 (bU (dB (fG (cH Tryz.f121)))).toList (bU (dB (fG (cH Tryz.f121)))).toList (eO f i) (aL nl T es) K = K ((6, .pv (.int .i64 f)) :: eO f i) (aL nl T es) := by kernel_rfl
theorem eA4 (es : List (List PV)) (i f : Int) (K : Env -> Hp -> Prop) : bN Tryz.prog (fun _ => none) 22 (bU (cG (fG (cH Tryz.f121)))).toList (bU (cG (fG (cH Tryz.f121)))).toList ((6, .pv (.int .i64 f)) :: eO f i) (aL nl T es) K = K ((7, .pv (.int .i64 i)) :: (6, .pv (.int .i64 f)) :: eO f i) (aL nl T es) := by kernel_rfl
theorem eA5 (es : List (List PV)) (i f : Int) (K : Env -> Hp -> Prop) : bN Tryz.prog wI 22 (bU (gZ (fH (cH Tryz.f121)))).toList (bU (gZ (fH (cH Tryz.f121)))).toList ((7, .pv (.int .i64 i)) :: (6, .pv (.int .i64 f)) :: eO f i) (aL nl T es) K =
 (dI es.length (some f) (some i) none /\ ACall Tryz.prog 144 [.sub 0 f.toNat i.toNat, .fn 145 [.box 1 0]] [.sl (21, 1) false nl es, .box [.pv T]] fun (r : LV) (h' : Hp) => ∃ (t : List (List PV)), (r = .tup [] /\ h' = [.sl (21, 1) false nl t, .box [.pv T]]) /\
  (True /\ (((21, 1) : Nat × Nat) = (21, 1) /\ nl = nl /\ es.length = t.length) /\ True) /\ K ((20, .tup []) :: (19, .fn 145 [.box 0 0]) :: (18, .sub 1 f.toNat i.toNat) :: (17, .pv (.int .i64 i)) :: (16, .pv (.int .i64 f)) :: (15, .own 1) :: (7, .pv (.int .i64 i)) :: (6, .pv (.int .i64 f)) :: eO f i) (aL nl T t)) := by kernel_rfl
theorem zgm : fG (cH Tryz.f121) = .seq (.region 3 (bU (dB (fG (cH Tryz.f121)))) false) (.region 4 (bU (cG (fG (cH Tryz.f121)))) false) /\ fH (cH Tryz.f121) = .block 1 (.region 5 (bU (gZ (fH (cH Tryz.f121)))) false) /\
 cH Tryz.f121 = .rangeFunc (.tmp 12) #[13, 14] (fG (cH Tryz.f121)) (fH (cH Tryz.f121)) /\ iN (bU (dB (fG (cH Tryz.f121)))).toList = true /\ iN (bU (cG (fG (cH Tryz.f121)))).toList = true /\ iN (bU (gZ (fH (cH Tryz.f121)))).toList = true :=
 ⟨by kernel_rfl, by kernel_rfl, by kernel_rfl, by kernel_rfl, by kernel_rfl, by kernel_rfl⟩
theorem zqd (hc : iS T key) {W0 : World} {I0 : Nat -> Prop} {G0 : Nat -> Pl} {L0 : List Int} {a : Act} {v12 : LV} (hs0 : SRel W0 I0 G0 [(2, .box 0 0), (5, .box 2 0), (12, v12)] (aL nl T (aA L0)) 22 a) (rec : Loop)
 (r1 : rec.state = .ready) (r2 : rec.pending = none) (r3 : rec.tmps = a.tmps) (r4 : rec.params = #[13, 14]) (r5 : rec.assign = fG (cH Tryz.f121)) (r6 : rec.body = fH (cH Tryz.f121)) :
 yW (ZR W0 I0 G0 (aL nl T (aA L0)) (W0.heap.size + 1) W0.heap.size rec) key nl T (W0.heap.size + 1) L0.length := by
 intro w I G L f i hh hz hfi hil hr hLn hN
 obtain ⟨l, hl⟩ : ∃ l, l = W0.heap.size + 1 := ⟨_, rfl⟩
 have hWl : W0.heap.size <= l := by omega
 rw [<- hl] at hz ⊢
 refine ⟨_, _, _, _, run_yield (P := Tryz.prog) hz.hl (by rw [r4]; rfl), roundIn_of_wpIn trivial ?_⟩
 have hlt := (Array.getElem?_eq_some_iff.1 hz.hl).1
 have hel : ∀ L' : List Int, L'.length = L.length -> (aA L0).length = (aA L').length := fun L' h => by simp [hN, h]
 have hs : SRel w I G (eO f i) (aL nl T (aA L)) 22 { tmps := (a.tmps.setIfInBounds 13 (.int .i64 f)).setIfInBounds 14 (.int .i64 i), defers := [] } := by
  have h1 := hs0.he.mono (qF hs0.hh hz.t.t) (y7 (hel L rfl) (tQ hz.t))
  have h2 := h1.set (d := 13) (v := .pv (.int .i64 f)) (by rw [hs0.hn]; omega) (.pv _ _ (.int .i64 f)) (fun _ _ _ e => by cases e)
  have h3 := h2.set (d := 14) (v := .pv (.int .i64 i)) (by simp [hs0.hn]) (.pv _ _ (.int .i64 i)) (fun _ _ _ e => by cases e)
  exact ⟨hh, fun k v hk => h3 k v ((LeE.le (e' := eO f i) ⟨rfl, rfl, rfl, rfl, trivial⟩) k v hk), by simp [hs0.hn]⟩
 obtain ⟨q1, q2, q3, q4, q5, q6⟩ := zgm
 rw [r5, q1, r4, r3]
 have hfold : ∀ x y : Value, (((#[13, 14] : Array Tmp).zip #[x, y]).foldl (fun tmps (t, a) => tmps.setIfInBounds t a) a.tmps) = (a.tmps.setIfInBounds 13 x).setIfInBounds 14 y := fun x y => by simp
 rw [hfold]
 refine wpIn_seq ?_
 show Code.wpIn (wd (some l)) 0 Tryz.prog _ (Exit.then (Code.wpIn (wd (some l)) 0 Tryz.prog _ _) _) { tmps := (a.tmps.setIfInBounds 13 (.int .i64 f)).setIfInBounds 14 (.int .i64 i), defers := [] } w
 refine wJ q4 (by rw [eA3]; exact ⟨rfl, rfl⟩ : bN Tryz.prog (fun _ => none) 22 _ _ _ _ (fun e' h' => e' = _ /\ h' = _)) hs ?_ ?_
 ·exact fun a w h => h
 rintro _ _ w1 I1 G1 a1 ⟨rfl, rfl⟩ hs1 hd1 ht1
 refine wJ q5 (by rw [eA4]; exact ⟨rfl, rfl⟩ : bN Tryz.prog (fun _ => none) 22 _ _ _ _ (fun e' h' => e' = _ /\ h' = _)) hs1 ?_ ?_
 ·exact fun a w h => h
 rintro _ _ w2 I2 G2 a2 ⟨rfl, rfl⟩ hs2 hd2 ht2
 have z1 := hz.step hh ht1.toN
 have z2 := z1.step hs1.hh ht2.toN
 refine ⟨_, run_beginRound z2.hl r1, ?_⟩
 have n2 := jQ hs2.hh z2.hl rfl
 have l2 := (Array.getElem?_eq_some_iff.1 z2.hl).1
 have hs3 : SRel (w2.putObj l (.loop { rec with state := .busy })) I2 G2 _ _ 22 a2 := ⟨hs2.hh.off _ z2.nl n2, hs2.he.mono (Keeps.off z2.nl _) (.refl _ _), hs2.hn⟩
 have hp3 : (w2.putObj l (.loop { rec with state := .busy })).heap[l]? = some (.loop { rec with state := .busy }) := World.putObj_heap_same l2
 have hb : ∀ {c : Code} {Q a w}, c = fH (cH Tryz.f121) -> Code.wpIn (wd (some l)) 0 Tryz.prog (.block 1 (.region 5 (bU (gZ (fH (cH Tryz.f121)))) false)) Q a w -> Code.wpIn (wd (some l)) 0 Tryz.prog c Q a w := fun e h => by rw [e, q2]; exact h
 refine hb r6 ?_
 have h5 : bN Tryz.prog wI 22 (bU (gZ (fH (cH Tryz.f121)))).toList (bU (gZ (fH (cH Tryz.f121)))).toList ((7, .pv (.int .i64 i)) :: (6, .pv (.int .i64 f)) :: eO f i) (aL nl T (aA L)) (fun _ h' => ∃ L', YQ key L f i L' /\ h' = aL nl T (aA L')) := by
  rw [eA5, Int.toNat_natCast, Int.toNat_natCast]
  obtain ⟨c1, c2, c3⟩ := tP L (show f <= i by omega) hil
  have e : aA L = aA (L.take f ++ ((L.take i).drop f ++ L.drop i)) := congrArg aA c1
  refine ⟨⟨by simp, by simp; omega, by simp; omega, trivial⟩, ?_⟩
  rw [e]
  refine (zp0 hc f i nl (L.take f) ((L.take i).drop f) (L.drop i) c2 (by omega) (by rw [<- c1]; exact hr) (by omega)).mono ?_
  rintro r h' ⟨S', rfl, rfl, s1, k1⟩
  refine ⟨_, ⟨rfl, rfl⟩, ⟨trivial, ⟨rfl, rfl, ?_⟩, trivial⟩, _, ⟨S', rfl, s1, k1⟩, rfl⟩
  have := k1.len
  simp only [a8, List.length_append]; omega
 refine wpIn_block ?_
 show Code.wpIn (wd (some l)) 0 Tryz.prog _ _ _ _
 refine wJ (H := wI) (ro := some l) (n := 0) (id := 5) q6 h5 hs3 ?_ ?_
 ·exact fun a w h => h
 rintro e4 _ w4 I4 G4 a4 ⟨L', hYQ, rfl⟩ hs4 hd4 ht4
 have n3 := jQ hs3.hh hp3 rfl
 have hl4 : w4.heap[l]? = some (.loop { rec with state := .busy }) := (ht4.t.keep l (by rw [World.putObj_size]; exact l2) n3).trans hp3
 have l4 := (Array.getElem?_eq_some_iff.1 hl4).1
 have nI4 : ∀ b, ¬ I2 b -> ¬ aX (aL nl T (aA L)) G2 b -> b < w2.heap.size -> ¬ I4 b := fun b x y z h => (ht4.t.i2 b h).elim x fun h => h.elim y fun h => by rw [World.putObj_size] at h; omega
 have nl4 := nI4 l z2.nl n2 l2
 have hDne : W0.heap.size ≠ l := by omega
 have nD2 := jQ hs2.hh z2.hD rfl
 have lD := (Array.getElem?_eq_some_iff.1 z2.hD).1
 have hrec : ({ { rec with state := .busy } with state := if (none : Option Code).isNone then .ready else .done, pending := none } : Loop) = rec := by
  cases rec; simp only at r1 r2; subst r1; subst r2; rfl
 have hrun := run_endRound (P := Tryz.prog) none hl4
 rw [hrec] at hrun
 have hLL : L'.length = L.length := by
  obtain ⟨S', rfl, s1, k1⟩ := hYQ
  obtain ⟨c1, c2, c3⟩ := tP L (show f <= i by omega) hil
  have := k1.len
  rw [List.length_append, List.length_append, c2, <- this, c3, List.length_drop]; omega
 have tB : TrN 5 W0 I0 G0 (aL nl T (aA L0)) (w4.putObj l (.loop rec)) I4 G4 (aL nl T (aA L')) := ((z2.t.off hWl _).trans ht4.toN).off hWl _
 refine ⟨_, _, hrun, rfl, L', I4, G4, hYQ, hs4.hh.off _ nl4 (jQ hs4.hh hl4 rfl), ?_, y7 (by simp [hLL]) (fun o ho => (tQ tB o ho).trans (tQ hz.t o ho).symm), ⟨tB, World.putObj_heap_same l4, ?_, nl4, nI4 _ z2.nD nD2 lD⟩⟩
 ·have k1 := (qF hh ht1.t).trans ht1.t.size (qF hs1.hh ht2.t)
  have s2 := Nat.le_trans ht1.t.size ht2.t.size
  have k2 := (k1.trans s2 (Keeps.off z2.nl (.loop { rec with state := .busy }))).trans (by rw [World.putObj_size]; exact s2) (qF hs3.hh ht4.t)
  exact k2.trans (by have := ht4.t.size; rw [World.putObj_size] at this; omega) (Keeps.off nl4 _)
 ·rw [World.putObj_heap_other hDne]
  exact (ht4.t.keep _ (by rw [World.putObj_size]; exact lD) (jQ hs3.hh ((World.putObj_heap_other hDne).trans z2.hD) rfl)).trans ((World.putObj_heap_other hDne).trans z2.hD)
end
end Go.Eng



namespace Go.Eng
open Go Go.Proofs
def zgn (nl fl : Bool) (es : LL) (R : LV -> Hp -> Prop) : Prop :=
 if (bif true then nl else !nl) = true then R (LV.pv (PV.sl true true [])) [] else fV true [] es 1 4 /\ R (LV.own 0) [Ob.sl (21, 1) false false ([] ++ es)]
theorem zqe (nl fl : Bool) (es : LL) {R : LV -> Hp -> Prop} (h : zgn nl fl es R) : ACall Tryz.prog 63 [.pv (.sl nl fl es)] [] R :=
 ACall.ofA Tryz.func63 (by kernel_rfl) (by kernel_rfl) (zl (by kernel_rfl)) (Eq.mpr (by kernel_rfl : pP Tryz.prog (fun _ => none) Tryz.f63 [0, 2, 4] (fun _ => none) (Tryz.f63.body.getD .skip) [.pv (.sl nl fl es)] [] R = _) h)

def zqf (nl : Bool) (ts : List PV) (es : LL) (R : LV -> Hp -> Prop) : Prop :=
 R (LV.fn 161 [LV.box 2 0, LV.box 1 0]) [Ob.sl (21, 1) false nl es, Ob.box [LV.pv (PV.ptr ts)], Ob.box [LV.own 0]]
theorem zqg (nl : Bool) (ts : List PV) (es : LL) {R : LV -> Hp -> Prop} (h : zqf nl ts es R) : ACall Tryz.prog 143 [.pv (.ptr ts), .own 0] [.sl (21, 1) false nl es] R :=
 ACall.of Tryz.func143 (by kernel_rfl) (by kernel_rfl) (zl (by kernel_rfl)) (Eq.mpr (by kernel_rfl : dM Tryz.prog (fun _ => none) Tryz.f143 [0, 1, 2, 3, 4] (fun _ => none) [0, 1, 2] (Tryz.f143.body.getD .skip) [.pv (.ptr ts), .own 0] [.sl (21, 1) false nl es] R = _) h)

end Go.Eng



namespace Go.Eng
open Go Go.Proofs Go.Eng.Rows Go.Eng.Srt
theorem ACall.nilOwn {P : Program} {f : Nat} {args : List LV} {Q Q' : LV -> Hp -> Prop} {ty : Nat × Nat} (hc : ACall P f args [] Q) (hq : ∀ r h', Q r h' -> Q' r h' ∨ ∃ fl, r = .pv (.sl true fl []) /\ h' = [] /\ Q' (.own 0) [.sl ty false true []]) : ACall P f args [] Q' :=
 ⟨hc.1, fun w I G cargs h1 h2 h3 => (hc.2 w I G cargs h1 h2 h3).mono fun e w' ⟨cv, r, h', I', G', e1, e2, e3, e4, e5⟩ => (hq r h' e2).elim (fun q => ⟨cv, r, h', I', G', e1, q, e3, e4, e5⟩) fun ⟨fl, hr, hh, q⟩ => by
  subst hr; subst hh
  have hcv : cv = .slice none 0 0 := by cases e4 with | pv _ _ h => cases h; rfl
  subst hcv
  have one : ∀ {o : Nat} {ob : Ob}, [Ob.sl ty false true []][o]? = some ob -> ob = .sl ty false true [] := fun {o ob} h => by
   cases o with
   | zero => cases h; rfl
   | succ o => simp at h
  have dead : ∀ {p : Pl}, ¬ (Ob.sl ty false true []).alive p := fun h => by cases h.1
  have noB : ∀ b, ¬ aX [Ob.sl ty false true []] G' b := fun b ⟨o, ob, ho, ha, _⟩ => by rw [one ho] at ha; exact dead ha
  refine ⟨_, .own 0, [.sl ty false true []], I', G', e1, q, ⟨fun o ob ho => by rw [one ho]; rfl, fun o o' ob ob' ho ha => by rw [one ho] at ha; exact (dead ha).elim, fun o ob ho ha => by rw [one ho] at ha; exact (dead ha).elim, e3.cl⟩, .ownNil 0 ty false [] rfl, ?_, by simp, fun o ob' ho => by simp at ho⟩
  have t := e5.t
  exact ⟨t.os, t.tape, t.output, t.size, t.keep, t.i1, t.i2, fun b hb => (noB b hb).elim, t.frz, t.drawn⟩⟩
theorem y8 (nl fl : Bool) (es : List (List PV)) (hn : nl = true -> es = []) (ha : fV true [] es 1 4) : ACall Tryz.prog 63 [.pv (.sl nl fl es)] [] fun r h' => r = .own 0 /\ h' = [.sl (21, 1) false nl es] := by
 refine ACall.nilOwn (ty := (21, 1)) (Q := fun r h' => (nl = true /\ r = .pv (.sl true true []) /\ h' = []) ∨ (nl = false /\ r = .own 0 /\ h' = [.sl (21, 1) false nl es])) (zqe nl fl es ?_) ?_
 ·unfold zgn
  cases nl with
  | true => exact .inl ⟨rfl, rfl, rfl⟩
  | false => exact ⟨ha, .inr ⟨rfl, rfl, by simp⟩⟩
 ·rintro r h' (⟨rfl, rfl, rfl⟩ | ⟨rfl, rfl, rfl⟩)
  ·rw [hn rfl]; exact .inr ⟨true, rfl, rfl, rfl, rfl⟩
  ·exact .inl ⟨rfl, rfl⟩
theorem tR {P : Program} {n0 N : Nat} {c : Code} {e E : Env} {h Hh : Hp} (hS : CodeS P n0 N c e h fun x e' h' => x = .normal /\ e' = E /\ h' = Hh) {w : World} {I : Nat -> Prop} {G : Nat -> Pl} {a : Act} (hs : SRel w I G e h N a) {Q : Exit -> Act -> World -> Prop}
 (hq : ∀ w' I' G' a', SRel w' I' G' E Hh N a' -> a'.defers = a.defers -> TrN n0 w I G h w' I' G' Hh -> Q .normal a' w') : c.wp P Q a w :=
 hS w I G a Q hs fun x e' h' w' I' G' a' hk hs' hd ht => by obtain ⟨rfl, rfl, rfl⟩ := hk; exact hq w' I' G' a' hs' hd ht
section
variable {nl fl : Bool} {ts : List PV} {es : List (List PV)}
theorem eB0 (Q : Qt) : c5 Tryz.prog (fun _ => none) 0 22 [1, 2, 4] (fun _ => none) (cO0 Tryz.f121) (eV [.pv (.ptr ts), .pv (.sl nl fl es)] 0) [] Q = Q .normal [(1, .pv (.sl nl fl es)), (2, .box 0 0), (4, .pv (.sl true true []))] [.box [.pv (.ptr ts)]] := by kernel_rfl
theorem eB1 (Q : Qt) : c5 Tryz.prog zc5 0 22 [2, 5] (fun _ => none) (cO1 Tryz.f121) [(1, .pv (.sl nl fl es)), (2, .box 0 0)] [.box [.pv (.ptr ts)]] Q =
 ACall Tryz.prog 63 [.pv (.sl nl fl es)] [] fun (r : LV) (h' : Hp) => ∃ (_ : Unit), (r = .own 0 /\ h' = [.sl (21, 1) false nl es]) /\ True /\ Q .normal [(2, .box 0 0), (5, .box 2 0)] [.box [.pv (.ptr ts)], .sl (21, 1) false nl es, .box [.own 1]] := by kernel_rfl
theorem eB2 (Q : Qt) : c5 Tryz.prog zc5 0 22 [2, 5, 12] (fun _ => none) (cO2 Tryz.f121) [(2, .box 0 0), (5, .box 2 0)] [.box [.pv (.ptr ts)], .sl (21, 1) false nl es, .box [.own 1]] Q =
 ACall Tryz.prog 143 [.pv (.ptr ts), .own 0] [.sl (21, 1) false nl es] fun (r : LV) (h' : Hp) => ∃ (_ : Unit), (r = .fn 161 [.box 2 0, .box 1 0] /\ h' = [.sl (21, 1) false nl es, .box [.pv (.ptr ts)], .box [.own 0]]) /\
  ((((21, 1) : Nat × Nat) = (21, 1) /\ nl = nl /\ es.length = es.length) /\ True) /\ Q .normal [(2, .box 0 0), (5, .box 2 0), (12, .fn 161 [.box 4 0, .box 3 0])] (aL nl (.ptr ts) es) := by kernel_rfl
theorem eB6 (Q : Qt) : c5 Tryz.prog (fun _ => none) 5 22 [4] (fun _ => none) (cO6 Tryz.f121) [(2, .box 0 0), (5, .box 2 0)] (aL nl (.ptr ts) es) Q = Q .normal [(4, .own 1)] (aL nl (.ptr ts) es) := by kernel_rfl
theorem y9 : cM Tryz.f121 = .seq (cO0 Tryz.f121) (.seq (cO1 Tryz.f121) (.seq (.seq (cO2 Tryz.f121) (.block 0 (cH Tryz.f121))) (.seq (cO6 Tryz.f121) .ret))) /\ Tryz.f121.body = some (cM Tryz.f121) /\ Tryz.f121.ntmps = 22 /\
 Tryz.f161.body = some (cM Tryz.f161) /\ Tryz.f161.ntmps = 39 /\ Tryz.f121.results = #[.tmp 4] /\ Tryz.f161.results = #[] /\ Tryz.f121.body.isNone = false /\ (Tryz.f121.name == "runtime.NumGoroutine") = false /\ Tryz.f161.body.isNone = false /\ (Tryz.f161.name == "runtime.NumGoroutine") = false :=
 ⟨by kernel_rfl, by kernel_rfl, by kernel_rfl, by kernel_rfl, by kernel_rfl, by kernel_rfl, by kernel_rfl, by kernel_rfl, by kernel_rfl, by kernel_rfl, by kernel_rfl⟩
variable {key : Int -> Int}
theorem Tr.alloc0 {w : World} {I own : Nat -> Prop} (o : Obj) : Tr w I own (w.alloc o) I own :=
 ⟨rfl, rfl, rfl, by simp, fun b hb _ => cN w o hb, fun _ h => h, fun _ h => .inl h, fun _ h => .inl h, fun a ha => World.frozen?_of_block (cN w o ha), Nat.le_refl _⟩
theorem KA.alloc0 (w : World) (o : Obj) : KA w (w.alloc o) := ⟨by simp, fun b hb => cN w o hb⟩
theorem zqh (hk : ∀ x, 0 <= key x) (hT : ∀ r : Int, (-2147483648 <= r /\ r <= 2147483647) -> PCall Tryz.prog 80 [.ptr ts, .int .i32 r] fun v => v = .int .i64 (key r)) (hc : iS (.ptr ts) key) (L : List Int) (hr : R32 L) (hL : L.length < 1000000000000)
 {w3 : World} {I3 : Nat -> Prop} {G3 : Nat -> Pl} {a3 : Act} {v12 : LV} (hs3 : SRel w3 I3 G3 [(2, .box 0 0), (5, .box 2 0), (12, v12)] (aL nl (.ptr ts) (aA L)) 22 a3) (rec : Loop) (r1 : rec.state = .ready) (r2 : rec.pending = none) (r3 : rec.tmps = a3.tmps) (r4 : rec.params = #[13, 14])
 (r5 : rec.assign = fG (cH Tryz.f121)) (r6 : rec.body = fH (cH Tryz.f121)) (vs : Array Value) (hvsz : vs.size = 2) (hvs : ∀ (k : Nat) v, [LV.box 4 0, LV.box 3 0][k]? = some v -> LRel w3 I3 G3 (aL nl (.ptr ts) (aA L)) v (vs.getD k undef)) :
 Calls Tryz.prog 161 (#[Value.func (.yield (w3.heap.size + 1)) #[] #[]] ++ vs) ((w3.alloc (.deferred (some []))).alloc (.loop rec)) fun e w4 => (∃ v, e = .returned v) /\ ∃ I4 G4, HRel w4 I4 G4 (aL nl (.ptr ts) (aA (bR key L))) /\
  ZR w3 I3 G3 (aL nl (.ptr ts) (aA L)) (w3.heap.size + 1) w3.heap.size rec w4 I4 G4 (aL nl (.ptr ts) (aA (bR key L))) := by
 obtain ⟨k1, k2, k3, k4, k5, k6, k7, k8, k9, k10, k11⟩ := y9
 obtain ⟨W1, hW1⟩ : ∃ W1, W1 = (w3.alloc (.deferred (some []))).alloc (.loop rec) := ⟨_, rfl⟩
 rw [<- hW1]
 have tA : Tr w3 I3 (aX (aL nl (.ptr ts) (aA L)) G3) W1 I3 (aX (aL nl (.ptr ts) (aA L)) G3) := by rw [hW1]; exact (Tr.alloc0 _).trans (Tr.alloc0 _)
 have ka : KA w3 W1 := by rw [hW1]; exact (KA.alloc0 _ _).trans (KA.alloc0 _ _)
 have hl1 : W1.heap[w3.heap.size + 1]? = some (.loop rec) := by rw [hW1]; have := World.alloc_heap_new (w3.alloc (.deferred (some []))) (.loop rec); rwa [World.size_alloc] at this
 have hD1 : W1.heap[w3.heap.size]? = some (.deferred (some [])) := by rw [hW1]; exact (cN _ _ (by simp)).trans (World.alloc_heap_new w3 _)
 have z1 : ZR w3 I3 G3 (aL nl (.ptr ts) (aA L)) (w3.heap.size + 1) w3.heap.size rec W1 I3 G3 (aL nl (.ptr ts) (aA L)) := ⟨(TrH.same tA).toN, hl1, hD1, fun h => by have := hs3.hh.cl _ h; omega, fun h => by have := hs3.hh.cl _ h; omega⟩
 have hRd := zqd hc hs3 rec r1 r2 r3 r4 r5 r6
 have hwalk := zqc hk hT (fun w I G h w' I' G' h' z hh _ t => z.step hh t) L hRd hr hL
 have hsW : SRel W1 I3 G3 (eV [.pv (.raw (Value.func (.yield (w3.heap.size + 1)) #[] #[])), .box 4 0, .box 3 0] 0) (aL nl (.ptr ts) (aA L)) 39 { tmps := (#[Value.func (.yield (w3.heap.size + 1)) #[] #[]] ++ vs) ++ Array.replicate (39 - (#[Value.func (.yield (w3.heap.size + 1)) #[] #[]] ++ vs).size) undef, defers := [] } := by
  obtain ⟨y, hy⟩ : ∃ y, y = Value.func (.yield (w3.heap.size + 1)) #[] #[] := ⟨_, rfl⟩
  rw [<- hy]
  obtain ⟨x0, x1, rfl⟩ : ∃ x0 x1, vs = #[x0, x1] := by
   obtain ⟨l⟩ := vs
   match l, hvsz with
   | [a, b], _ => exact ⟨a, b, rfl⟩
  have hk : Keeps w3 I3 W1 I3 := ⟨fun b _ hb => ka.2 b hb, fun b hb _ => hb⟩
  have h1 := (hvs 0 _ rfl).mono hk (.refl _ _)
  have h2 := (hvs 1 _ rfl).mono hk (.refl _ _)
  have e0 : ∀ r : Array Value, (#[y] ++ #[x0, x1] ++ r).getD 0 undef = y := fun r => by rw [Array.getD_eq_getD_getElem?, Array.getElem?_append_left (by simp)]; rfl
  have e1 : ∀ r : Array Value, (#[y] ++ #[x0, x1] ++ r).getD 1 undef = x0 := fun r => by rw [Array.getD_eq_getD_getElem?, Array.getElem?_append_left (by simp)]; rfl
  have e2 : ∀ r : Array Value, (#[y] ++ #[x0, x1] ++ r).getD 2 undef = x1 := fun r => by rw [Array.getD_eq_getD_getElem?, Array.getElem?_append_left (by simp)]; rfl
  refine ⟨hs3.hh.ka ka, ?_, by simp⟩
  have he : ERel W1 I3 G3 (aL nl (.ptr ts) (aA L)) [(0, .pv (.raw y)), (1, .box 4 0), (2, .box 3 0)] (#[y] ++ #[x0, x1] ++ Array.replicate (39 - (#[y] ++ #[x0, x1]).size) undef) :=
   ((ERel.nil _ _ _ _ _).cons (s := 2) (v := .box 3 0) (by rw [e2]; exact h2)).cons (s := 1) (v := .box 4 0) (by rw [e1]; exact h1) |>.cons (s := 0) (v := .pv (.raw y)) (by rw [e0]; exact .pv _ _ (.raw _))
  exact he
 refine calls_of_wp Tryz.func161 k4 ?_
 rw [k5]
 refine hwalk W1 I3 G3 _ _ hsW z1 ?_
 rintro x e' _ w4 I4 G4 a4 ⟨rfl, rfl⟩ hs4 hd4 z4
 exact ⟨hd4, _, results_none k7 _ _ _, ⟨_, rfl⟩, I4, G4, hs4.hh, z4⟩
theorem zqi (hk : ∀ x, 0 <= key x) (L : List Int) {w w3 w4 : World} {I I3 I4 : Nat -> Prop} {G G3 G4 : Nat -> Pl} {a3 : Act} {v12 : LV} (hs3 : SRel w3 I3 G3 [(2, .box 0 0), (5, .box 2 0), (12, v12)] (aL nl (.ptr ts) (aA L)) 22 a3) (hd30 : a3.defers = []) {rec : Loop}
 (ht3 : Tr w I (aX [] G) w3 I3 (aX (aL nl (.ptr ts) (aA L)) G3)) (hh4 : HRel w4 I4 G4 (aL nl (.ptr ts) (aA (bR key L)))) (z4 : ZR w3 I3 G3 (aL nl (.ptr ts) (aA L)) (w3.heap.size + 1) w3.heap.size rec w4 I4 G4 (aL nl (.ptr ts) (aA (bR key L)))) :
 (Code.seq (cO6 Tryz.f121) .ret).wp Tryz.prog (bodyPostM Fence.wide 0 Tryz.prog Tryz.f121 fun e w' => ∃ cv r h' I' G', e = .returned cv /\ (r = .own 0 /\ h' = [.sl (21, 1) false nl (aA (bR key L))]) /\ HRel w' I' G' h' /\ LRel w' I' G' h' r cv /\ TrH w I G [] w' I' G' h')
  { tmps := a3.tmps, defers := [{ target := .collected w3.heap.size, args := #[] }] ++ a3.defers } (w4.putObj (w3.heap.size + 1) (.loop { rec with state := .exhausted })) := by
 obtain ⟨k1, k2, k3, k4, k5, k6, k7, k8, k9, k10, k11⟩ := y9
 have hll := (tO (key := key) hk L).len
 have n4 := jQ hh4 z4.hl rfl
 have l4 := (Array.getElem?_eq_some_iff.1 z4.hl).1
 have z5 : ZR w3 I3 G3 (aL nl (.ptr ts) (aA L)) (w3.heap.size + 1) w3.heap.size { rec with state := .exhausted } (w4.putObj (w3.heap.size + 1) (.loop { rec with state := .exhausted })) I4 G4 (aL nl (.ptr ts) (aA (bR key L))) :=
  ⟨z4.t.off (by omega) _, World.putObj_heap_same l4, (World.putObj_heap_other (by omega)).trans z4.hD, z4.nl, z4.nD⟩
 have hs5 : SRel (w4.putObj (w3.heap.size + 1) (.loop { rec with state := .exhausted })) I4 G4 [(2, .box 0 0), (5, .box 2 0)] (aL nl (.ptr ts) (aA (bR key L))) 22 { tmps := a3.tmps, defers := [{ target := .collected w3.heap.size, args := #[] }] ++ a3.defers } :=
  ⟨hh4.off _ z4.nl n4, fun i v hi => ((hs3.he.mono (qF hs3.hh z4.t.t) (y7 (by simp [hll]) (tQ z4.t))).mono (Keeps.off z4.nl _) (.refl _ _)) i v ((LeE.le (e' := [(2, .box 0 0), (5, .box 2 0)]) ⟨rfl, rfl, trivial⟩) i v hi), hs3.hn⟩
 refine wp_seq (tR (E := [(4, .own 1)]) (Hh := aL nl (.ptr ts) (aA (bR key L))) (gE (Eq.mpr (eB6 _) ⟨rfl, rfl, rfl⟩)) hs5 fun w6 I6 G6 a6 hs6 hd6 ht6 => ?_)
 have z6 := z5.step hs5.hh ht6
 refine wp_ret ?_
 show LeavesInM Fence.wide 0 Tryz.prog _ a6.tmps _ a6.defers .returning w6
 rw [hd6, hd30]
 refine ⟨by simp, .inl ⟨_, _, rfl, run_takeDeferred z6.hD, ?_⟩⟩
 refine ⟨_, results_tmp k6 _ _ _, ?_⟩
 have hh7 := hs6.hh.off (.deferred none) z6.nD (jQ hs6.hh z6.hD rfl)
 have hv7 : LRel (w6.putObj w3.heap.size (.deferred none)) I6 G6 (aL nl (.ptr ts) (aA (bR key L))) (.own 1) (a6.tmps.getD 4 undef) := LRel.mono (hs6.he 4 _ rfl) (Keeps.off z6.nD (.deferred none)) (.refl _ _)
 have hs7 : SRel (w6.putObj w3.heap.size (.deferred none)) I6 G6 [(4, .own 1)] (aL nl (.ptr ts) (aA (bR key L))) 22 a6 := ⟨hh7, (ERel.nil _ _ _ _ _).cons (s := 4) (v := .own 1) hv7, hs6.hn⟩
 obtain ⟨s1, s2⟩ := hs7.sub [1] [] rfl
 have g2 := LRel.mapV (pC (os := [1])) (Keeps.refl _ _) hv7
 have ht := (ht3.trans z6.t.t).off (l := w3.heap.size) ht3.size (.deferred none)
 exact ⟨_, .own 0, _, I6, _, rfl, ⟨rfl, rfl⟩, s1.hh, g2, ⟨ht.trans (Tr.less s2), Nat.zero_le _, fun o ob ho => by simp at ho⟩⟩
theorem zqj (hk : ∀ x, 0 <= key x) (hT : ∀ r : Int, (-2147483648 <= r /\ r <= 2147483647) -> PCall Tryz.prog 80 [.ptr ts, .int .i32 r] fun v => v = .int .i64 (key r)) (hc : iS (.ptr ts) key) (L : List Int) (hr : R32 L) (hL : L.length < 1000000000000) :
 ACall Tryz.prog 121 [.pv (.ptr ts), .pv (.sl nl fl (aA L))] [] fun r h' => r = .own 0 /\ h' = [.sl (21, 1) false nl (aA (bR key L))] := by
 obtain ⟨k1, k2, k3, k4, k5, k6, k7, k8, k9, k10, k11⟩ := y9
 refine ⟨⟨_, Tryz.func121, k8, k9⟩, fun w I G cargs hh hsz hrel => ?_⟩
 simp only [List.length_map, List.length_cons, List.length_nil] at hsz
 have hn : nl = true -> L = [] := fun hn => by
  subst hn
  have h1 := hrel 1 _ rfl
  generalize cargs.getD 1 undef = c1 at h1
  cases h1 with
  | pv _ _ h1 =>
    generalize hes : aA L = es at h1
    cases h1 with
    | slnil => exact List.map_eq_nil_iff.1 hes
 refine (callsIn_wide (n := 0)).1 (callsIn_of_wp_marks Tryz.func121 k2 trivial (wpIn_wide.2 ?_))
 rw [k3]
 have hs : SRel w I G (eV [.pv (.ptr ts), .pv (.sl nl fl (aA L))] 0) [] 22 { tmps := cargs ++ Array.replicate (22 - cargs.size) undef, defers := [] } := by
  refine ⟨hh, fun i v hi => ?_, by simp; omega⟩
  obtain ⟨_, h2⟩ := pO hi
  rw [Nat.sub_zero] at h2
  have hlt : i < cargs.size := by have := (List.getElem?_eq_some_iff.1 h2).1; simp at this; omega
  have := hrel i v h2
  have e1 : (cargs ++ Array.replicate (22 - cargs.size) undef).getD i undef = cargs.getD i undef := by
   rw [Array.getD_eq_getD_getElem?, Array.getD_eq_getD_getElem?, Array.getElem?_append_left hlt]
  simp only [e1]
  exact VRel.of_plain this
 rw [k1]
 -- what begins it
 refine wp_seq (tR (E := [(1, .pv (.sl nl fl (aA L))), (2, .box 0 0), (4, .pv (.sl true true []))]) (Hh := [.box [.pv (.ptr ts)]]) (gE (Eq.mpr (eB0 _) ⟨rfl, rfl, rfl⟩)) hs fun w1 I1 G1 a1 hs1 hd1 ht1 => ?_)
 have hs1' := hs1.le (LeE.le (e' := [(1, .pv (.sl nl fl (aA L))), (2, .box 0 0)]) ⟨rfl, rfl, trivial⟩)
 refine wp_seq (tR (E := [(2, .box 0 0), (5, .box 2 0)]) (Hh := [.box [.pv (.ptr ts)], .sl (21, 1) false nl (aA L), .box [.own 1]]) (gE (Eq.mpr (eB1 _) ((y8 nl fl (aA L) (fun h => by rw [hn h]; rfl) ?_).mono fun r h' hq => ⟨(), hq, trivial, rfl, rfl, rfl⟩))) hs1' fun w2 I2 G2 a2 hs2 hd2 ht2 => ?_)
 ·exact ⟨rfl, .inl rfl, fun e he => (by cases he), fun e he => by obtain ⟨x, _, rfl⟩ := List.mem_map.1 (List.mem_of_mem_head? he); rfl, by simp; omega⟩
 refine wp_seq (wp_seq (tR (E := [(2, .box 0 0), (5, .box 2 0), (12, .fn 161 [.box 4 0, .box 3 0])]) (Hh := aL nl (.ptr ts) (aA L)) (gE (Eq.mpr (eB2 _) (zqg nl ts (aA L) ?_))) hs2 fun w3 I3 G3 a3 hs3 hd3 ht3 => ?_))
 ·exact ⟨(), ⟨rfl, rfl⟩, ⟨⟨rfl, rfl, rfl⟩, trivial⟩, rfl, rfl, rfl⟩
 -- the loop
 have hd30 : a3.defers = [] := hd3.trans (hd2.trans hd1)
 obtain ⟨q1, q2, q3, _, _, _⟩ := zgm
 refine wp_block ?_
 rw [q3]
 obtain ⟨vs, hv12, hvsz, hvs⟩ : ∃ vs : Array Value, a3.tmps.getD 12 undef = .func (.func 161) #[] vs /\ vs.size = 2 /\ ∀ (k : Nat) v, [LV.box 4 0, LV.box 3 0][k]? = some v -> LRel w3 I3 G3 (aL nl (.ptr ts) (aA L)) v (vs.getD k undef) := by
  have := hs3.he 12 _ rfl
  generalize a3.tmps.getD 12 undef = cv at this
  cases this with
  | fn f cs vs h1 h6 => exact ⟨vs, rfl, h1, h6⟩
 refine (wpIn_wide (n := 0)).1 (wpIn_rangeFunc (F := Fence.wide) fun fn _ => ?_)
 obtain ⟨rec, hrec⟩ : ∃ rec : Loop, rec = { state := .ready, pending := none, fn := fn, tmps := a3.tmps, params := #[13, 14], assign := fG (cH Tryz.f121), body := fH (cH Tryz.f121), defers := w3.heap.size } := ⟨_, rfl⟩
 refine ⟨w3.heap.size + 1, [{ target := .collected w3.heap.size, args := #[] }], (w3.alloc (.deferred (some []))).alloc (.loop rec), { target := .fn (.func 161) vs, args := #[.func (.yield (w3.heap.size + 1)) #[] #[]] }, (w3.alloc (.deferred (some []))).alloc (.loop rec), 161,
  #[.func (.yield (w3.heap.size + 1)) #[] #[]] ++ vs, (w3.alloc (.deferred (some []))).alloc (.loop rec), ?_, ?_, fun _ _ => trivial, ?_, fun x => (by cases x), ?_⟩
 ·rw [hrec]; exact run_enterLoop_outer _ _ _ _ _
 ·have he : a3.eval (.tmp 12) = .func (.func 161) #[] vs := hv12
  simp only [resolve, he]
  simp [go_sem]
 ·simp only [invoke]
  exact uQ ⟨_, Tryz.func161, k10, k11⟩
 refine (callsIn_wide).2 (Calls.mono (zqh hk hT hc L hr hL hs3 rec (by rw [hrec]) (by rw [hrec]) (by rw [hrec]) (by rw [hrec]) (by rw [hrec]) (by rw [hrec]) vs hvsz hvs) ?_)
 rintro e w4 ⟨⟨v, rfl⟩, I4, G4, hh4, z4⟩
 have hp : rec.pending = none := by rw [hrec]
 refine ⟨none, _, (run_endLoop z4.hl (by rw [hrec]; simp)).trans (congrArg (fun j => Result.ok j _) hp), ?_⟩
 exact zqi hk L hs3 hd30 ((ht1.t.trans ht2.t).trans ht3.t) hh4 z4
end
end Go.Eng



namespace Go.Eng
open Go Go.Proofs
def zgo (n f : Bool) (es : LL) (k : Int) (R : PV -> Prop) : Prop :=
 if decide ((↑es.length : Int) > k) = true then (dI es.length none (some k) none /\ aQ es 1) /\ R (PV.sl n (f && decide (k = (↑es.length : Int))) (List.drop 0 (List.take k.toNat es))) else R (PV.sl n f es)
theorem zqk (n f : Bool) (es : LL) (k : Int) {R : PV -> Prop} (h : zgo n f es k R) : PCall Tryz.prog 14 [.sl n f es, .int .i64 k] R :=
 PCall.of Tryz.func14 (by kernel_rfl) (by kernel_rfl) (zl (by kernel_rfl)) (Eq.mpr (by kernel_rfl : aS Tryz.prog (fun _ => none) Tryz.f14 [0, 1, 4, 8] (fun _ => none) (Tryz.f14.body.getD .skip) [.sl n f es, .int .i64 k] R = _) h)

def zA (n f : Bool) (es : LL) (n2 f2 : Bool) (es2 : LL) (x5 : Int) : Env × Hp := ([(0, LV.pv (PV.sl n f es)), (1, LV.pv (PV.sl n2 f2 es2)), (5, Y6 x5)], [])
def zB (n f : Bool) (es : LL) (n2 f2 : Bool) (es2 : LL) (J : Int -> Prop) (μ : Int -> Nat) (R : PV -> Prop) : Prop :=
 if ((↑es.length : Int) != (↑es2.length : Int)) = true then R (Zb false) else (aB (zA n f es n2 f2 es2 (0 : Int)) /\ J (0 : Int)) /\ ∀ (x5 : Int), J x5 -> if decide (x5 < (↑es.length : Int)) = true then aO es x5 1 /\ ∃ (n1 : Int),
 (es.getD x5.toNat []).head? = some (Z3 n1) /\ aO es2 x5 1 /\ ∃ n3, (es2.getD x5.toNat []).head? = some (Z3 n3) /\ if (n1 != n3) = true then R (Zb false) else aB (zA n f es n2 f2 es2 (i64.wrap (x5 + 1))) /\ J
 (i64.wrap (x5 + 1)) /\ μ (i64.wrap (x5 + 1)) < μ x5 else R (Zb true)
theorem zql (n f : Bool) (es : LL) (n2 f2 : Bool) (es2 : LL) (J : Int -> Prop) (μ : Int -> Nat) {R : PV -> Prop} (h : zB n f es n2 f2 es2 J μ R) : PCall Tryz.prog 26 [.sl n f es, .sl n2 f2 es2] R :=
 PCall.of Tryz.func26 (by kernel_rfl) (by kernel_rfl) (zl (by kernel_rfl)) (Eq.mpr (by kernel_rfl : aS Tryz.prog (fun _ => none) Tryz.f26 [0, 1, 4, 5, 10, 14, 25] (fun zz_ => match zz_ with | 4 => some ⟨Int × Unit, fun s => zA n f es n2 f2 es2 s.1, fun _ s => J s.1, fun s => μ s.1, fun e h => (((gI e 5), ())), [], [0, 1, 5], [], fun p => ∀ (x5 : Int), p (x5, ()), fun p h s => h s.1⟩ | _ => none) (Tryz.f26.body.getD .skip) [.sl n f es, .sl n2 f2 es2] R = _) h)

def tS (n f : Bool) (es : LL) (n2 f2 : Bool) (ss : LL) (x7 : Int) (n_0 : Bool) (s_0 : LL) (n_1 : Bool) (s_1 : LL) : Env × Hp := ([(0, LV.pv (PV.sl n f es)), (1, LV.pv (PV.sl n2 f2 ss)), (5, LV.own 0), (6, LV.own 1), (7, Y6 x7)], [.sl (21, 1) true n_0 s_0, .sl (3, 1) true n_1 s_1])
def zC (n f : Bool) (es : LL) (n2 f2 : Bool) (ss : LL) (x7 x8 x9 : Int) (n_0 : Bool) (s_0 : LL) (n_1 : Bool) (s_1 : LL) : Env × Hp := ([(0, LV.pv (PV.sl n f es)), (1, LV.pv (PV.sl n2 f2 ss)), (5, LV.own 0), (6, LV.own 1), (7, Y6 x7), (8, Y6 x8), (9, Y6 x9)], [.sl (21, 1) true n_0 s_0, .sl (3, 1) true n_1 s_1])
def zgp (n f : Bool) (es : LL) (n2 f2 : Bool) (ss : LL) (J : Int -> Bool -> LL -> Bool -> LL -> Prop) (μ : Int -> Bool -> LL -> Bool -> LL -> Nat) (J2 : Int -> Int -> Int -> Bool -> LL -> Bool -> LL -> Int -> Int -> Int -> Bool -> LL -> Bool -> LL -> Prop) (μ2 : Int -> Int -> Int -> Bool -> LL -> Bool -> LL -> Nat) (R : PV -> Prop) : Prop :=
 (aB (tS n f es n2 f2 ss (0 : Int) true [] true []) /\ J (0 : Int) true [] true []) /\ ∀ (x7 : Int) (n_0 : Bool) (s_0 : LL) (n_1 : Bool) (s_1 : LL), J x7 n_0 s_0 n_1 s_1 -> if decide (x7 < (↑ss.length : Int)) = true then aO ss x7 1 /\ ∃
 (n1 : Int), (ss.getD x7.toNat []).head? = some (Z3 n1) /\ PCall Tryz.prog 75 [PV.sl n f es, Z3 n1] fun v => ∃ n3, v = Z6 n3 /\ aO ss x7 1 /\ ∃ n4, (ss.getD x7.toNat []).head? = some (Z3 n4) /\ (aQ [[Z3 n4]] 1 /\
 (s_0.length + 1) * 4 <= 140737488355328) /\ (aQ [[Z6 n3]] 1 /\ (s_1.length + 1) * 8 <= 140737488355328) /\ (aB (zC n f es n2 f2 ss x7 n3 (↑s_0.length : Int) (n_0 && false) (s_0 ++ [[Z3 n4]]) (n_1 && false) (s_1 ++ [[Z6 n3]])) /\ J2 x7 n3
 (↑s_0.length : Int) (n_0 && false) (s_0 ++ [[Z3 n4]]) (n_1 && false) (s_1 ++ [[Z6 n3]]) x7 n3 (↑s_0.length : Int) (n_0 && false) (s_0 ++ [[Z3 n4]]) (n_1 && false) (s_1 ++ [[Z6 n3]])) /\ ∀ (x71 x8 x9 : Int) (n_01 : Bool) (s_01 : LL) (n_11 :
 Bool) (s_11 : LL), J2 x7 n3 (↑s_0.length : Int) (n_0 && false) (s_0 ++ [[Z3 n4]]) (n_1 && false) (s_1 ++ [[Z6 n3]]) x71 x8 x9 n_01 s_01 n_11 s_11 -> if (decide (x9 > 0) && x8 != 0) = true then aO s_11 (i64.wrap (x9 - 1)) 1 /\ ∃ (n5
 : Int), (List.drop 0 (s_11.getD (i64.wrap (x9 - 1)).toNat [])).head? = some (Z6 n5) /\ if decide (n5 > x8) = true then aO s_01 (i64.wrap (x9 - 1)) 1 /\ ∃ n6, (List.drop 0 (s_01.getD (i64.wrap (x9 - 1)).toNat
 [])).head? = some (Z3 n6) /\ aO s_01 x9 1 /\ (1 = 1 /\ 1 <= (s_01.getD x9.toNat []).length) /\ aO s_11 (i64.wrap (x9 - 1)) 1 /\ ∃ n7, (List.drop 0 (s_11.getD (i64.wrap (x9 - 1)).toNat [])).head? = some (Z6 n7) /\
 aO s_11 x9 1 /\ (1 = 1 /\ 1 <= (s_11.getD x9.toNat []).length) /\ aO ss x71 1 /\ ∃ n8, (ss.getD x71.toNat []).head? = some (Z3 n8) /\ aO (s_01.set x9.toNat (Z3 n6 :: zq (List.drop 1 (s_01.getD x9.toNat
 [])))) (i64.wrap (x9 - 1)) 1 /\ (1 = 1 /\ 1 <= ((s_01.set x9.toNat (Z3 n6 :: zq (List.drop 1 (s_01.getD x9.toNat [])))).getD (i64.wrap (x9 - 1)).toNat []).length) /\ aO (s_11.set x9.toNat (Z6 n7 ::
 zq (List.drop 1 (s_11.getD x9.toNat [])))) (i64.wrap (x9 - 1)) 1 /\ (1 = 1 /\ 1 <= ((s_11.set x9.toNat (Z6 n7 :: zq (List.drop 1 (s_11.getD x9.toNat [])))).getD (i64.wrap (x9
 - 1)).toNat []).length) /\ aB (zC n f es n2 f2 ss x71 x8 (i64.wrap (x9 - 1)) n_01 ((s_01.set x9.toNat (Z3 n6 :: zq (List.drop 1 (s_01.getD x9.toNat [])))).set (i64.wrap (x9 - 1)).toNat (Z3 n8
 :: zq (List.drop 1 ((s_01.set x9.toNat (Z3 n6 :: zq (List.drop 1 (s_01.getD x9.toNat [])))).getD (i64.wrap (x9 - 1)).toNat [])))) n_11 ((s_11.set x9.toNat (Z6 n7 :: List.append._f
 [] PUnit.unit (List.drop 1 (s_11.getD x9.toNat [])))).set (i64.wrap (x9 - 1)).toNat (Z6 x8 :: zq (List.drop 1 ((s_11.set x9.toNat (Z6 n7 :: zq (List.drop 1 (s_11.getD x9.toNat
 [])))).getD (i64.wrap (x9 - 1)).toNat []))))) /\ J2 x7 n3 (↑s_0.length : Int) (n_0 && false) (s_0 ++ [[Z3 n4]]) (n_1 && false) (s_1 ++ [[Z6 n3]]) x71 x8 (i64.wrap (x9 - 1)) n_01 ((s_01.set x9.toNat (Z3 n6 :: List.append._f []
 PUnit.unit (List.drop 1 (s_01.getD x9.toNat [])))).set (i64.wrap (x9 - 1)).toNat (Z3 n8 :: zq (List.drop 1 ((s_01.set x9.toNat (Z3 n6 :: zq (List.drop 1 (s_01.getD x9.toNat
 [])))).getD (i64.wrap (x9 - 1)).toNat [])))) n_11 ((s_11.set x9.toNat (Z6 n7 :: zq (List.drop 1 (s_11.getD x9.toNat [])))).set (i64.wrap (x9 - 1)).toNat (Z6 x8 :: zq
 (List.drop 1 ((s_11.set x9.toNat (Z6 n7 :: zq (List.drop 1 (s_11.getD x9.toNat [])))).getD (i64.wrap (x9 - 1)).toNat [])))) /\ μ2 x71 x8 (i64.wrap (x9 - 1)) n_01 ((s_01.set x9.toNat (Z3 n6 ::
 zq (List.drop 1 (s_01.getD x9.toNat [])))).set (i64.wrap (x9 - 1)).toNat (Z3 n8 :: zq (List.drop 1 ((s_01.set x9.toNat (Z3 n6 :: zq (List.drop 1
 (s_01.getD x9.toNat [])))).getD (i64.wrap (x9 - 1)).toNat [])))) n_11 ((s_11.set x9.toNat (Z6 n7 :: zq (List.drop 1 (s_11.getD x9.toNat [])))).set (i64.wrap (x9 - 1)).toNat (Z6 x8 :: List.append._f
 [] PUnit.unit (List.drop 1 ((s_11.set x9.toNat (Z6 n7 :: zq (List.drop 1 (s_11.getD x9.toNat [])))).getD (i64.wrap (x9 - 1)).toNat [])))) < μ2 x71 x8 x9 n_01 s_01 n_11 s_11 else aB (tS n f es n2 f2 ss
 (i64.wrap (x71 + 1)) n_01 s_01 n_11 s_11) /\ J (i64.wrap (x71 + 1)) n_01 s_01 n_11 s_11 /\ μ (i64.wrap (x71 + 1)) n_01 s_01 n_11 s_11 < μ x7 n_0 s_0 n_1 s_1 else aB (tS n f es n2 f2 ss (i64.wrap (x71 +
 1)) n_01 s_01 n_11 s_11) /\ J (i64.wrap (x71 + 1)) n_01 s_01 n_11 s_11 /\ μ (i64.wrap (x71 + 1)) n_01 s_01 n_11 s_11 < μ x7 n_0 s_0 n_1 s_1 else R (PV.sl n_0 false s_0)
theorem zqm (n f : Bool) (es : LL) (n2 f2 : Bool) (ss : LL) (J : Int -> Bool -> LL -> Bool -> LL -> Prop) (μ : Int -> Bool -> LL -> Bool -> LL -> Nat) (J2 : Int -> Int -> Int -> Bool -> LL -> Bool -> LL -> Int -> Int -> Int -> Bool -> LL -> Bool -> LL -> Prop) (μ2 : Int -> Int -> Int -> Bool -> LL -> Bool -> LL -> Nat) {R : PV -> Prop} (h : zgp n f es n2 f2 ss J μ J2 μ2 R) : PCall Tryz.prog 74 [.sl n f es, .sl n2 f2 ss] R :=
 PCall.of Tryz.func74 (by kernel_rfl) (by kernel_rfl) (zl (by kernel_rfl)) (Eq.mpr (by kernel_rfl : aS Tryz.prog (fun _ => none) Tryz.f74 [0, 1, 4, 5, 6, 7, 8, 9, 13, 49] (fun zz_ => match zz_ with | 4 => some ⟨Int × Bool × LL × Bool × LL, fun s => tS n f es n2 f2 ss s.1 s.2.1 s.2.2.1 s.2.2.2.1 s.2.2.2.2, fun _ s => J s.1 s.2.1 s.2.2.1 s.2.2.2.1 s.2.2.2.2, fun s => μ s.1 s.2.1 s.2.2.1 s.2.2.2.1 s.2.2.2.2, fun e h => (gI e 7, oN h 0, oS h 0, oN h 1, oS h 1), [(5, 21, 1), (6, 3, 1)], [0, 1, 5, 6, 7], [], fun p => ∀ (x7 : Int) (n_0 : Bool) (s_0 : LL) (n_1 : Bool) (s_1 : LL), p (x7, n_0, s_0, n_1, s_1), fun p h s => h s.1 s.2.1 s.2.2.1 s.2.2.2.1 s.2.2.2.2⟩ | 10 => some ⟨Int × Int × Int × Bool × LL × Bool × LL, fun s => zC n f es n2 f2 ss s.1 s.2.1 s.2.2.1 s.2.2.2.1 s.2.2.2.2.1 s.2.2.2.2.2.1 s.2.2.2.2.2.2, fun t s => J2 t.1 t.2.1 t.2.2.1 t.2.2.2.1 t.2.2.2.2.1 t.2.2.2.2.2.1 t.2.2.2.2.2.2 s.1 s.2.1 s.2.2.1 s.2.2.2.1 s.2.2.2.2.1 s.2.2.2.2.2.1 s.2.2.2.2.2.2, fun s => μ2 s.1 s.2.1 s.2.2.1 s.2.2.2.1 s.2.2.2.2.1 s.2.2.2.2.2.1 s.2.2.2.2.2.2, fun e h => (gI e 7, gI e 8, gI e 9, oN h 0, oS h 0, oN h 1, oS h 1), [], [0, 1, 5, 6, 7, 8, 9], [], fun p => ∀ (x7 x8 x9 : Int) (n_0 : Bool) (s_0 : LL) (n_1 : Bool) (s_1 : LL), p (x7, x8, x9, n_0, s_0, n_1, s_1), fun p h s => h s.1 s.2.1 s.2.2.1 s.2.2.2.1 s.2.2.2.2.1 s.2.2.2.2.2.1 s.2.2.2.2.2.2⟩ | _ => none) (Tryz.f74.body.getD .skip) [.sl n f es, .sl n2 f2 ss] R = _) h)

def zD (tc tg tj tf tp : PV) (M S : List (PV × PV)) (n f : Bool) (es : LL) (x12 : Int) (h0_0 : PV) (n_1 : Bool) (s_1 : LL) : Env × Hp := ([(0, LV.pv (PV.ptr [tc, tg, tj, tf, tp, PV.mp M, PV.mp S])), (5, LV.box 0 0), (10, LV.pv (PV.sl n f es)), (11, Y6 ↑es.length), (12, Y6 x12)], [.box [.pv h0_0, LV.own 1], .sl (21, 1) true n_1 s_1])
def zgq (tc tg tj tf tp : PV) (M S : List (PV × PV)) (n f : Bool) (es : LL) (J : Int -> PV -> Bool -> LL -> Prop) (μ : Int -> PV -> Bool -> LL -> Nat) (R : PV -> Prop) : Prop :=
 dY (PV.ptr [tc, tg, tj, tf, tp, PV.mp M, PV.mp S]) = true /\ (aB (zD tc tg tj tf tp M S n f es (0 : Int) (PV.ptr [tc, tg, tj, tf, tp, PV.mp M, PV.mp S]) true []) /\ J (0 : Int) (PV.ptr [tc, tg, tj, tf, tp, PV.mp M, PV.mp S]) true [])
 /\ ∀ (x12 : Int) (h0_0 : PV) (n_1 : Bool) (s_1 : LL), J x12 h0_0 n_1 s_1 -> if decide (x12 < (↑es.length : Int)) = true then aO es x12 1 /\ ∃ n1, (es.getD x12.toNat []).head? = some (Z3 n1) /\ ACall Tryz.prog 120 [LV.box 0 0, LV.pv
 (Z3 n1), Y6 8] [Ob.box [LV.pv h0_0, LV.own 1], Ob.sl (21, 1) false n_1 s_1] fun (r : LV) (h' : Hp) => ∃ (t : Bool × LL), (r = LV.tup [] /\ h' = [Ob.box [LV.pv h0_0, LV.own 1], Ob.sl (21, 1) true t.fst t.snd]) /\ (True /\ True /\ True) /\ aB
 (zD tc tg tj tf tp M S n f es (i64.wrap (x12 + 1)) h0_0 t.fst t.snd) /\ J (i64.wrap (x12 + 1)) h0_0 t.fst t.snd /\ μ (i64.wrap (x12 + 1)) h0_0 t.fst t.snd < μ x12 h0_0 n_1 s_1 else PCall Tryz.prog 121 [PV.ptr [tc,
 tg, tj, tf, tp, PV.mp M, PV.mp S], PV.sl n_1 false s_1] fun v => ∃ n1 f1 es1, v = PV.sl n1 f1 es1 /\ R (PV.sl n1 f1 es1)
theorem zqn (tc tg tj tf tp : PV) (M S : List (PV × PV)) (n f : Bool) (es : LL) (J : Int -> PV -> Bool -> LL -> Prop) (μ : Int -> PV -> Bool -> LL -> Nat) {R : PV -> Prop} (h : zgq tc tg tj tf tp M S n f es J μ R) : PCall Tryz.prog 78 [.ptr [tc, tg, tj, tf, tp, .mp M, .mp S], .sl n f es] R :=
 PCall.of Tryz.func78 (by kernel_rfl) (by kernel_rfl) (zl (by kernel_rfl)) (Eq.mpr (by kernel_rfl : aS Tryz.prog (fun zz_ => match zz_ with | 120 => some ⟨Bool × LL, fun _ hs t => (.tup [], match hs with | [.box (x :: _), .sl ty _ _ _] => [.box [x, .own 1], .sl ty true t.1 t.2] | [.box (x :: _)] => [.box [x, .own 1], .sl (21, 1) true t.1 t.2] | h => h), none⟩ | _ => none) Tryz.f78 [0, 1, 4, 5, 7, 10, 11, 12, 13] (fun zz_ => match zz_ with | 3 => some ⟨Int × PV × Bool × LL, fun s => zD tc tg tj tf tp M S n f es s.1 s.2.1 s.2.2.1 s.2.2.2, fun _ s => J s.1 s.2.1 s.2.2.1 s.2.2.2, fun s => μ s.1 s.2.1 s.2.2.1 s.2.2.2, fun e h => (gI e 12, hP h 0 0, oN h 1, oS h 1), [(1000001, 21, 1)], [0, 5, 10, 11, 12], [], fun p => ∀ (x12 : Int) (h0_0 : PV) (n_1 : Bool) (s_1 : LL), p (x12, h0_0, n_1, s_1), fun p h s => h s.1 s.2.1 s.2.2.1 s.2.2.2⟩ | _ => none) (Tryz.f78.body.getD .skip) [.ptr [tc, tg, tj, tf, tp, .mp M, .mp S], .sl n f es] R = _) h)

def tT (n f : Bool) (es : LL) (n2 f2 : Bool) (ss : LL) (x6 : Int) (n_0 : Bool) (s_0 : LL) : Env × Hp := ([(0, LV.pv (PV.sl n f es)), (1, LV.pv (PV.sl n2 f2 ss)), (5, LV.own 0), (6, Y6 x6)], [.sl (21, 1) true n_0 s_0])
def zgr (n f : Bool) (es : LL) (n2 f2 : Bool) (ss : LL) (J : Int -> Bool -> LL -> Prop) (μ : Int -> Bool -> LL -> Nat) (R : PV -> Prop) : Prop :=
 (aB (tT n f es n2 f2 ss (0 : Int) true []) /\ J (0 : Int) true []) /\ ∀ (x6 : Int) (n_0 : Bool) (s_0 : LL), J x6 n_0 s_0 -> if decide (x6 < (↑ss.length : Int)) = true then aO ss x6 1 /\ ∃ n1, (ss.getD x6.toNat []).head? = some
 (Z3 n1) /\ ACall Tryz.prog 73 [LV.pv (PV.sl n f es), LV.pv (Z3 n1), Y6 8] [] fun (r : LV) (h' : Hp) => (∃ (t : Bool × LL), (r = LV.own 0 /\ h' = [Ob.sl (21, 1) true t.fst t.snd]) /\ True /\ (aQ t.snd 1 /\ (s_0.length + t.snd.length) * 4 <=
 140737488355328) /\ aB (tT n f es n2 f2 ss (i64.wrap (x6 + 1)) (n_0 && t.snd.isEmpty) (s_0 ++ t.snd)) /\ J (i64.wrap (x6 + 1)) (n_0 && t.snd.isEmpty) (s_0 ++ t.snd) /\ μ (i64.wrap (x6 + 1)) (n_0 && t.snd.isEmpty)
 (s_0 ++ t.snd) < μ x6 n_0 s_0) ∨ ∃ (t : LL), (r = LV.pv (PV.sl false true t) /\ h' = []) /\ True /\ (aQ t 1 /\ (s_0.length + t.length) * 4 <= 140737488355328) /\ aB (tT n f es n2 f2 ss (i64.wrap (x6 + 1)) (n_0 && t.isEmpty) (s_0
 ++ t)) /\ J (i64.wrap (x6 + 1)) (n_0 && t.isEmpty) (s_0 ++ t) /\ μ (i64.wrap (x6 + 1)) (n_0 && t.isEmpty) (s_0 ++ t) < μ x6 n_0 s_0 else PCall Tryz.prog 74 [PV.sl n f es, PV.sl n_0 false s_0] fun v => ∃ n1, ∃
 (f1 : Bool), ∃ es1, v = PV.sl n1 f1 es1 /\ R (PV.sl n1 f1 es1)
theorem zqo (n f : Bool) (es : LL) (n2 f2 : Bool) (ss : LL) (J : Int -> Bool -> LL -> Prop) (μ : Int -> Bool -> LL -> Nat) {R : PV -> Prop} (h : zgr n f es n2 f2 ss J μ R) : PCall Tryz.prog 32 [.sl n f es, .sl n2 f2 ss] R :=
 PCall.of Tryz.func32 (by kernel_rfl) (by kernel_rfl) (zl (by kernel_rfl)) (Eq.mpr (by kernel_rfl : aS Tryz.prog (fun zz_ => match zz_ with | 73 => some ⟨Bool × LL, fun _ hs t => (.own hs.length, hs ++ [.sl (21, 1) true t.1 t.2]), some ⟨LL, fun _ hs t => (.pv (.sl false true t), hs)⟩⟩ | _ => none) Tryz.f32 [0, 1, 4, 5, 6, 10] (fun zz_ => match zz_ with | 3 => some ⟨Int × Bool × LL, fun s => tT n f es n2 f2 ss s.1 s.2.1 s.2.2, fun _ s => J s.1 s.2.1 s.2.2, fun s => μ s.1 s.2.1 s.2.2, fun e h => (gI e 6, oN h 0, oS h 0), [(5, 21, 1)], [0, 1, 5, 6], [], fun p => ∀ (x6 : Int) (n_0 : Bool) (s_0 : LL), p (x6, n_0, s_0), fun p h s => h s.1 s.2.1 s.2.2⟩ | _ => none) (Tryz.f32.body.getD .skip) [.sl n f es, .sl n2 f2 ss] R = _) h)

def zF (n f : Bool) (es : LL) (n2 f2 : Bool) (ss : LL) (x13 : Int) : Env × Hp := ([(0, LV.pv (PV.sl n f es)), (1, LV.pv (PV.sl n2 f2 ss)), (12, Y6 ↑es.length), (13, Y6 x13)], [])
def zG (n f : Bool) (es : LL) (n2 f2 : Bool) (ss : LL) (J : Int -> Prop) (μ : Int -> Nat) (R : PV -> Prop) : Prop :=
 if ((↑es.length : Int) != (↑ss.length : Int)) = true then R (Zb false) else (aB (zF n f es n2 f2 ss (0 : Int)) /\ J (0 : Int)) /\ ∀ (x13 : Int), J x13 -> if decide (x13 < (↑es.length : Int)) = true then aO es x13 1 /\ ∃ (n1 : Int),
 (es.getD x13.toNat []).head? = some (Z3 n1) /\ aO ss x13 1 /\ ∃ n3, (ss.getD x13.toNat []).head? = some (Z3 n3) /\ if (n1 != n3) = true then R (Zb false) else aB (zF n f es n2 f2 ss (i64.wrap (x13 + 1))) /\ J
 (i64.wrap (x13 + 1)) /\ μ (i64.wrap (x13 + 1)) < μ x13 else R (Zb true)
theorem zqp (n f : Bool) (es : LL) (n2 f2 : Bool) (ss : LL) (J : Int -> Prop) (μ : Int -> Nat) {R : PV -> Prop} (h : zG n f es n2 f2 ss J μ R) : PCall Tryz.prog 70 [.sl n f es, .sl n2 f2 ss] R :=
 PCall.of Tryz.func70 (by kernel_rfl) (by kernel_rfl) (zl (by kernel_rfl)) (Eq.mpr (by kernel_rfl : aS Tryz.prog (fun _ => none) Tryz.f70 [0, 1, 4, 5, 10, 12, 13, 14, 24] (fun zz_ => match zz_ with | 4 => some ⟨Int × Unit, fun s => zF n f es n2 f2 ss s.1, fun _ s => J s.1, fun s => μ s.1, fun e h => (((gI e 13), ())), [], [0, 1, 12, 13], [], fun p => ∀ (x13 : Int), p (x13, ()), fun p h s => h s.1⟩ | _ => none) (Tryz.f70.body.getD .skip) [.sl n f es, .sl n2 f2 ss] R = _) h)

def zgs (n f : Bool) (es : LL) (n2 f2 : Bool) (ss : LL) (n3 f3 : Bool) (s3 : LL) (R : PV -> Prop) : Prop :=
 PCall Tryz.prog 32 [PV.sl n f es, PV.sl n2 f2 ss] fun v => ∃ n1 f1 es1, v = PV.sl n1 f1 es1 /\ PCall Tryz.prog 32 [PV.sl n f es, PV.sl n3 f3 s3] fun v1 => ∃ n4 f4, ∃ (es2 : LL),
 v1 = PV.sl n4 f4 es2 /\ PCall Tryz.prog 26 [PV.sl n1 f1 es1, PV.sl n4 f4 es2] fun v2 => ∃ b, v2 = Zb b /\ R (Zb b)
theorem zqq (n f : Bool) (es : LL) (n2 f2 : Bool) (ss : LL) (n3 f3 : Bool) (s3 : LL) {R : PV -> Prop} (h : zgs n f es n2 f2 ss n3 f3 s3 R) : PCall Tryz.prog 65 [.sl n f es, .sl n2 f2 ss, .sl n3 f3 s3] R :=
 PCall.of Tryz.func65 (by kernel_rfl) (by kernel_rfl) (zl (by kernel_rfl)) (Eq.mpr (by kernel_rfl : aS Tryz.prog (fun _ => none) Tryz.f65 [0, 1, 2, 6] (fun _ => none) (Tryz.f65.body.getD .skip) [.sl n f es, .sl n2 f2 ss, .sl n3 f3 s3] R = _) h)

end Go.Eng



namespace Go.Eng.Rows
open Go Go.Eng Go.Eng.Trie
def qG (rows : List Row) : Bool -> Int -> List Int -> Int
 | m, _, [] => if m then 2 else 0
 | m, last, r :: l => if (decide (ofQ rows r = 1) || (!decide (aI rows 1 r = 0) && decide (aI rows 1 r < last))) then 1 else qG rows (m || decide (ofQ rows r = 2)) (aI rows 1 r) l
def zqr (rows : List Row) : Bool := rows.all fun x => !decide (x.kind = 2) || ((decide (1 <= x.a) && decide (x.a <= 1114111)) && (decide (0 <= x.b) && decide (x.b <= 1114111)))
theorem zqs {rows : List Row} (h : zqr rows = true) : bX rows := fun x hx hk => by
 have := List.all_eq_true.1 h x hx
 simpa [hk] using this
def zqt (rows : List Row) : Bool := rows.all fun x => !decide (x.kind = 1) || decide (0 <= x.a)
def cK (rows : List Row) : Prop := ∀ r, 0 <= aI rows 1 r
theorem zqu {rows : List Row} (h : zqt rows = true) : cK rows := fun r => by
 unfold aI
 cases hf : bW rows 1 r with
 | none => exact Int.le_refl _
 | some p =>
   obtain ⟨x, hx, hk, ha, _⟩ := nH hf
   have := List.all_eq_true.1 h x hx
   simp only [hk, decide_true, Bool.not_true, Bool.false_or, decide_eq_true_eq] at this
   simp only; omega
end Go.Eng.Rows



namespace Go.Eng
open Go Go.Proofs Go.Eng.Rows Go.Eng.Trie
theorem gM : bX tab := zqs (by kernel_rfl)
theorem iB : cK tab := zqu (by kernel_rfl)
theorem q1 : qG tab false 0 [101, 769] = 2 := by kernel_rfl
theorem q2 : qG tab false 0 [233] = 0 := by kernel_rfl
theorem q3 : qG tab false 0 [769, 807] = 1 := by kernel_rfl
theorem q4 : qG tab false 0 [8491] = 1 := by kernel_rfl
theorem q5 : yN tab 101 = true := by kernel_rfl
theorem q6 : yN tab 769 = false := by kernel_rfl
theorem q7 : yN tab 4449 = false := by kernel_rfl
end Go.Eng



namespace Go.Eng.Rows
open Go Go.Eng Go.Eng.Trie Go.Eng.Srt
def bV (rows : List Row) (l : List Int) : List Int := bR (aI rows 1) (l.flatMap (aP rows 8))
def c8 (rows : List Row) (x : Int) : Bool := !bY x && decide (aG rows x = (0, 0))
def zqv (rows : List Row) : Prop := ∀ r, ∀ x ∈ aP rows 8 r, c8 rows x = true
theorem zqw {rows : List Row} {r : Int} {p : Int × Int} (h : bW rows 2 r = some p) : ∃ x ∈ rows, x.kind = 2 /\ x.fr <= r /\ r <= x.to := by
 obtain ⟨x, h1, h2, _, _, h3, h4, _⟩ := nH h
 exact ⟨x, h1, h2, h3, h4⟩
theorem tU {rows : List Row} {x : Int} (h : c8 rows x = true) (d : Nat) : aP rows d x = [x] := by
 simp only [c8, Bool.and_eq_true, Bool.not_eq_true', decide_eq_true_eq] at h
 exact nK h.1 h.2
theorem zgt {rows : List Row} : ∀ {l : List Int}, (∀ x ∈ l, c8 rows x = true) -> l.flatMap (aP rows 8) = l
 | [], _ => rfl
 | x :: l, h => by
   rw [List.flatMap_cons, tU (h x List.mem_cons_self), zgt fun y hy => h y (List.mem_cons_of_mem _ hy)]; rfl
section
variable {rows : List Row} (hk : cK rows)
include hk
theorem zgu (l : List Int) : (bV rows l).length <= 768 * l.length := by
 unfold bV
 rw [<- (tO hk _).len]
 induction l with
 | nil => simp
 | cons x l ih =>
   have := iR rows 8 x
   rw [List.flatMap_cons, List.length_append, List.length_cons]; omega
end
end Go.Eng.Rows



namespace Go.Eng
open Go Go.Proofs Go.Eng.Rows Go.Eng.Trie
end Go.Eng



namespace Go.Eng
open Go Go.Proofs Go.Eng.Rows Go.Eng.Trie
end Go.Eng



namespace Go.Eng
open Go Go.Proofs Go.Eng.Rows Go.Eng.Trie Go.Eng.Srt
theorem PCall.ofA {P : Program} {f : Nat} {args : List PV} {Q : LV -> Hp -> Prop} {R : PV -> Prop} (hc : ACall P f (args.map .pv) [] Q) (hq : ∀ r h', Q r h' -> ∃ p, jA h' r = some p /\ R p) : PCall P f args R :=
 ⟨hc.1, fun w I G cargs h1 h2 h3 => (hc.2 w I G cargs h1 h2 h3).mono fun e w' ⟨cv, r, h', I', G', e1, e2, e3, e4, e5⟩ => by
  obtain ⟨p, hp, hR⟩ := hq r h' e2
  have ht := e5.t
  have hno : ∀ b, ¬ aX [] G b := fun b ⟨o, ob, ho, _⟩ => by simp at ho
  exact ⟨cv, .pv p, [], AllB I' h' G', G', e1, ⟨p, rfl, hR⟩, HRel.nil G' (fun b hb => hb.elim (e3.cl b) e3.blk_lt), .pv _ _ (rL e3 e4 hp),
   ⟨⟨ht.os, ht.tape, ht.output, ht.size, ht.keep, fun b hb => .inl (ht.i1 b hb), fun b hb => hb.elim (ht.i2 b) (fun ho => (ht.own2 b ho).elim (fun x => absurd x (hno b)) (fun x => .inr (.inr x))), fun b hb => absurd hb (fun ⟨o, ob, ho, _⟩ => by simp at ho), ht.frz, ht.drawn⟩, Nat.le_refl _, fun o ob ho => by simp at ho⟩⟩⟩
theorem zqx (n f : Bool) (l : List Int) (k : Nat) (hk : k < 1000) : PCall Tryz.prog 14 [.sl n f (aA l), .int .i64 k] fun v => ∃ n f, v = .sl n f (aA (l.take k)) := by
 refine zqk _ _ _ _ ?_; unfold zgo
 refine aF (fun hc => ?_) (fun hc => ?_)
 ·simp only [decide_eq_true_eq, a8] at hc
  refine ⟨⟨by unfold dI; simp; omega, cV _⟩, n, _, by rw [show ((k : Int)).toNat = k by omega]; simp only [aA, List.map_take, List.drop_zero]; rfl⟩
 ·simp only [decide_eq_true_eq, a8] at hc
  rw [List.take_of_length_le (by omega)]
  exact ⟨_, _, rfl⟩
theorem zqy (n f n2 f2 : Bool) (l m : List Int) (hl : l.length < 1000000000000) : zB n f (aA l) n2 f2 (aA m) (fun i => 0 <= i /\ i <= l.length /\ l.take i.toNat = m.take i.toNat) (fun i => l.length - i.toNat) fun v => v = .bool (decide (l = m)) := by
 unfold zB
 refine aF (fun hc => ?_) (fun hc => ?_)
 ·simp only [a8, bne_iff_ne, ne_eq] at hc
  have : l ≠ m := fun e => hc (by rw [e])
  simp [this]
 ·simp only [a8, bne_iff_ne, ne_eq, Decidable.not_not] at hc
  have hlm : l.length = m.length := by omega
  refine ⟨⟨rfl, Int.le_refl _, by omega, rfl⟩, ?_⟩
  rintro i ⟨i0, i1, he⟩
  refine aF (fun h => ?_) (fun h => ?_)
  ·simp only [decide_eq_true_eq, a8] at h
   have hi : i.toNat < l.length := by omega
   have hj : i.toNat < m.length := by omega
   obtain ⟨g1, g2⟩ := kR i0 hi
   obtain ⟨k1, k2⟩ := kR i0 hj
   have hw : i64.wrap (i + 1) = i + 1 := aD (by omega) (by omega)
   refine ⟨g1, l[i.toNat], by rw [g2]; rfl, k1, m[i.toNat], by rw [k2]; rfl, aF (fun hc2 => ?_) (fun hc2 => ?_)⟩
   ·simp only [bne_iff_ne, ne_eq] at hc2
    have : l ≠ m := fun e => hc2 (by subst e; rfl)
    simp [this]
   ·simp only [bne_iff_ne, ne_eq, Decidable.not_not] at hc2
    rw [hw]
    exact ⟨rfl, ⟨by omega, by omega, by rw [show (i + 1).toNat = i.toNat + 1 by omega, c7 hi, c7 hj, he, hc2]⟩, by dsimp only; omega⟩
  ·simp only [decide_eq_true_eq, a8] at h
   rw [List.take_of_length_le (by omega), List.take_of_length_le (by omega)] at he
   simp [he]
theorem zqz (n f n2 f2 : Bool) (l m : List Int) (hl : l.length < 1000000000000) : zG n f (aA l) n2 f2 (aA m) (fun i => 0 <= i /\ i <= l.length /\ l.take i.toNat = m.take i.toNat) (fun i => l.length - i.toNat) fun v => v = .bool (decide (l = m)) := by
 unfold zG
 refine aF (fun hc => ?_) (fun hc => ?_)
 ·simp only [a8, bne_iff_ne, ne_eq] at hc
  have : l ≠ m := fun e => hc (by rw [e])
  simp [this]
 ·simp only [a8, bne_iff_ne, ne_eq, Decidable.not_not] at hc
  have hlm : l.length = m.length := by omega
  refine ⟨⟨rfl, Int.le_refl _, by omega, rfl⟩, ?_⟩
  rintro i ⟨i0, i1, he⟩
  refine aF (fun h => ?_) (fun h => ?_)
  ·simp only [decide_eq_true_eq, a8] at h
   have hi : i.toNat < l.length := by omega
   have hj : i.toNat < m.length := by omega
   obtain ⟨g1, g2⟩ := kR i0 hi
   obtain ⟨k1, k2⟩ := kR i0 hj
   have hw : i64.wrap (i + 1) = i + 1 := aD (by omega) (by omega)
   refine ⟨g1, l[i.toNat], by rw [g2]; rfl, k1, m[i.toNat], by rw [k2]; rfl, aF (fun hc2 => ?_) (fun hc2 => ?_)⟩
   ·simp only [bne_iff_ne, ne_eq] at hc2
    have : l ≠ m := fun e => hc2 (by subst e; rfl)
    simp [this]
   ·simp only [bne_iff_ne, ne_eq, Decidable.not_not] at hc2
    rw [hw]
    exact ⟨rfl, ⟨by omega, by omega, by rw [show (i + 1).toNat = i.toNat + 1 by omega, c7 hi, c7 hj, he, hc2]⟩, by dsimp only; omega⟩
  ·simp only [decide_eq_true_eq, a8] at h
   rw [List.take_of_length_le (by omega), List.take_of_length_le (by omega)] at he
   simp [he]
theorem zgv (n f n2 f2 : Bool) (l m : List Int) (hl : l.length < 1000000000000) : PCall Tryz.prog 26 [.sl n f (aA l), .sl n2 f2 (aA m)] fun v => v = .bool (decide (l = m)) :=
 zql _ _ _ _ _ _ _ _ (zqy n f n2 f2 l m hl)
theorem zq0 (n f n2 f2 : Bool) (l m : List Int) (hl : l.length < 1000000000000) : PCall Tryz.prog 70 [.sl n f (aA l), .sl n2 f2 (aA m)] fun v => v = .bool (decide (l = m)) :=
 zqp _ _ _ _ _ _ (fun i => 0 <= i /\ i <= l.length /\ l.take i.toNat = m.take i.toNat) (fun i => l.length - i.toNat) (zqz n f n2 f2 l m hl)
section
variable {rows : List Row}
end
end Go.Eng



namespace Go.Eng
open Go Go.Proofs Go.Eng.Rows Go.Eng.Trie Go.Eng.Srt
section
variable {rows : List Row}
theorem set1 {es : List (List PV)} {k : Nat} {v x : PV} (h : es.getD k [] = [x]) : es.set k (v :: zq (List.drop 1 (es.getD k []))) = es.set k [v] := by rw [h]; rfl
theorem zH (A : List Int) (x : Int) (B : List Int) : (aA (A ++ x :: B)).getD A.length [] = [.int .i32 x] := by
 rw [zcu (by simp)]; simp
theorem zI (A : List Int) (x : Int) (B : List Int) : (aW (A ++ x :: B)).getD A.length [] = [.int .i64 x] := by
 simp [aW]
theorem zq1 (hk : cK rows) (n f n2 f2 : Bool) (L : List Int) (hrl : rows.length < 1000000) (hL : L.length < 1000000000) (hr : R32 L) :
 PCall Tryz.prog 74 [.sl n f (bD rows), .sl n2 f2 (aA L)] fun v => ∃ n f, v = .sl n f (aA (bR (aI rows 1) L)) := by
 have olen : ∀ l, (bR (aI rows 1) l).length = l.length := fun l => ((tO (key := aI rows 1) hk l).len).symm
 refine zqm _ _ _ _ _ _
  (fun i _ s0 _ s1 => 0 <= i /\ i <= L.length /\ s0 = aA (bR (aI rows 1) (L.take i.toNat)) /\ s1 = aW ((bR (aI rows 1) (L.take i.toNat)).map (aI rows 1))) (fun i _ _ _ _ => L.length - i.toNat)
  (fun i0 _ _ _ _ _ _ i c k _ s0 _ s1 => i = i0 /\ 0 <= i /\ i.toNat < L.length /\ ∃ x A B, L[i.toNat]? = some x /\ c = aI rows 1 x /\ k = (A.length : Nat) /\ bR (aI rows 1) (L.take i.toNat) = A ++ B /\ (∀ y ∈ B, dX (aI rows 1) x y = true) /\ s0 = aA (A ++ x :: B) /\ s1 = aW ((A ++ x :: B).map (aI rows 1))) (fun _ _ k _ _ _ _ => k.toNat) ?_
 unfold zgp
 refine ⟨⟨rfl, Int.le_refl _, by omega, by simp [bR, aA], by simp [bR, aW]⟩, ?_⟩
 rintro i n0 _ n1 _ ⟨i0, i1, rfl, rfl⟩
 refine aF (fun hc => ?_) (fun hc => ?_)
 ·simp only [decide_eq_true_eq, a8] at hc
  have hi : i.toNat < L.length := by omega
  obtain ⟨g1, g2⟩ := kR i0 hi
  have hx := hr _ (List.getElem_mem hi)
  have hw : i64.wrap (i + 1) = i + 1 := aD (by omega) (by omega)
  have hol := olen (L.take i.toNat)
  rw [List.length_take] at hol
  refine ⟨g1, L[i.toNat], by rw [g2]; rfl, ?_⟩
  refine (zpn n f _ hrl hx).mono ?_
  rintro _ rfl
  refine ⟨_, rfl, g1, L[i.toNat], by rw [g2]; rfl, ⟨cV [_], by rw [a8]; omega⟩, ⟨pR (enc := fun n => [PV.int .i64 n]) (fun _ => rfl) [_], by rw [iQ, List.length_map]; omega⟩, ⟨rfl, ?_⟩, ?_⟩
  ·refine ⟨rfl, i0, hi, L[i.toNat], bR (aI rows 1) (L.take i.toNat), [], List.getElem?_eq_getElem hi, rfl, by simp, by simp, fun y hy => (by cases hy), by simp [aA], by simp [aW]⟩
  ·rintro i' c k n01 _ n11 _ ⟨rfl, _, _, x, A, B, hxi, rfl, rfl, hord, hB, rfl, rfl⟩
   have hwi : i64.wrap (i' + 1) = i' + 1 := aD (by omega) (by omega)
   have hAB : A.length + B.length = min i'.toNat L.length := by rw [<- hol, hord, List.length_append]
   have hxe : L[i'.toNat] = x := (List.getElem?_eq_some_iff.1 hxi).2
   -- the end of the walk back
   have done : (A = [] ∨ ∃ A' z, A = A' ++ [z] /\ dX (aI rows 1) x z = false) -> 0 <= i' + 1 /\ i' + 1 <= L.length /\ aA (A ++ x :: B) = aA (bR (aI rows 1) (L.take (i' + 1).toNat)) /\ aW ((A ++ x :: B).map (aI rows 1)) = aW ((bR (aI rows 1) (L.take (i' + 1).toNat)).map (aI rows 1)) := fun h => by
    have : bR (aI rows 1) (L.take (i' + 1).toNat) = A ++ x :: B := by
     rw [show (i' + 1).toNat = i'.toNat + 1 by omega, c7 hi, yY, hord, hxe, mB hB h]
    rw [this]
    exact ⟨by omega, by omega, rfl, rfl⟩
   have hmu : L.length - (i' + 1).toNat < L.length - i'.toNat := by omega
   refine aF (fun h1 => ?_) (fun h1 => ?_)
   ·simp only [Bool.and_eq_true, decide_eq_true_eq, bne_iff_ne, ne_eq] at h1
    obtain ⟨A', z, rfl⟩ : ∃ A' z, A = A' ++ [z] := by
     rcases A.eq_nil_or_concat with rfl | ⟨D, z, rfl⟩
     ·simp at h1
     ·exact ⟨D, z, by simp⟩
    have lA : (A' ++ [z]).length = A'.length + 1 := by simp
    rw [lA] at hAB
    have hwk : i64.wrap ((((A' ++ [z]).length : Nat) : Int) - 1) = (A'.length : Nat) := by rw [lA, aD (by omega) (by omega)]; omega
    have e0 : (A' ++ [z]) ++ x :: B = A' ++ z :: (x :: B) := by simp
    rw [hwk, e0]
    simp only [List.map_append, List.map_cons, Int.toNat_natCast]
    rw [lA]
    generalize hk2 : aI rows 1 = key at *
    have i1 : aO (aA (A' ++ z :: x :: B)) ((A'.length : Nat) : Int) 1 := bK (enc := fun n => [PV.int .i32 n]) (fun _ => rfl) (by omega) (by simp; omega)
    have i2 : aO (aA (A' ++ z :: x :: B)) ((A'.length + 1 : Nat) : Int) 1 := bK (enc := fun n => [PV.int .i32 n]) (fun _ => rfl) (by omega) (by simp; omega)
    have j1 : aO (aW (A'.map key ++ key z :: key x :: B.map key)) ((A'.length : Nat) : Int) 1 := bK lX (by omega) (by simp; omega)
    have j2 : aO (aW (A'.map key ++ key z :: key x :: B.map key)) ((A'.length + 1 : Nat) : Int) 1 := bK lX (by omega) (by simp; omega)
    have i3 : aO (aA (A' ++ z :: z :: B)) ((A'.length : Nat) : Int) 1 := bK (enc := fun n => [PV.int .i32 n]) (fun _ => rfl) (by omega) (by simp; omega)
    have j3 : aO (aW (A'.map key ++ key z :: key z :: B.map key)) ((A'.length : Nat) : Int) 1 := bK lX (by omega) (by simp; omega)
    have gz := zH A' z (x :: B)
    have gx : (aA (A' ++ z :: x :: B)).getD (A'.length + 1) [] = [.int .i32 x] := by have := zH (A' ++ [z]) x B; simpa using this
    have hz : (aW (A'.map key ++ key z :: key x :: B.map key)).getD A'.length [] = [.int .i64 (key z)] := by have := zI (A'.map key) (key z) (key x :: B.map key); simpa using this
    have hx2 : (aW (A'.map key ++ key z :: key x :: B.map key)).getD (A'.length + 1) [] = [.int .i64 (key x)] := by have := zI (A'.map key ++ [key z]) (key x) (B.map key); simpa using this
    have gz2 := zH A' z (z :: B)
    have hz2 : (aW (A'.map key ++ key z :: key z :: B.map key)).getD A'.length [] = [.int .i64 (key z)] := by have := zI (A'.map key) (key z) (key z :: B.map key); simpa using this
    have s1 : (aA (A' ++ z :: x :: B)).set (A'.length + 1) [.int .i32 z] = aA (A' ++ z :: z :: B) := by
     have := qB (A' ++ [z]) B x z
     have e : (aA (A' ++ z :: x :: B)).set (A'.length + 1) [.int .i32 z] = aA ((A' ++ z :: x :: B).set (A'.length + 1) z) := by simp [aA, List.map_set]
     rw [e]; simp at this ⊢
    have s2 : (aA (A' ++ z :: z :: B)).set A'.length [.int .i32 x] = aA (A' ++ x :: z :: B) := by simp [aA]
    have t1 : (aW (A'.map key ++ key z :: key x :: B.map key)).set (A'.length + 1) [.int .i64 (key z)] = aW (A'.map key ++ key z :: key z :: B.map key) := by simp [aW]
    have t2 : (aW (A'.map key ++ key z :: key z :: B.map key)).set A'.length [.int .i64 (key x)] = aW (A'.map key ++ key x :: key z :: B.map key) := by simp [aW]
    refine ⟨j1, key z, by rw [hz]; rfl, aF (fun h2 => ?_) (fun h2 => ?_)⟩
    ·simp only [decide_eq_true_eq] at h2
     refine ⟨i1, z, by rw [gz]; rfl, i2, ⟨trivial, by rw [gx]; exact Nat.le_refl _⟩, j1, key z, by rw [hz]; rfl, j2, ⟨trivial, by rw [hx2]; exact Nat.le_refl _⟩, g1, x, by rw [g2, hxe]; rfl, ?_⟩
     rw [set1 gx, set1 hx2, s1, t1, set1 gz2, set1 hz2, s2, t2]
     refine ⟨i3, ⟨trivial, by rw [gz2]; exact Nat.le_refl _⟩, j3, ⟨trivial, by rw [hz2]; exact Nat.le_refl _⟩, rfl, ⟨trivial, i0, hi, x, A', z :: B, hxi, rfl, rfl, by rw [hord]; simp, fun y hy => ?_, rfl, by simp⟩, by simp⟩
     rcases List.mem_cons.1 hy with rfl | hy
     ·exact nN.2 ⟨h1.2, h2⟩
     ·exact hB y hy
    ·simp only [decide_eq_true_eq] at h2
     rw [hwi]
     obtain ⟨d1, d2, d3, d4⟩ := done (.inr ⟨A', z, rfl, tN.2 (.inr (by omega))⟩)
     refine ⟨rfl, ⟨d1, d2, ?_, ?_⟩, hmu⟩
     ·rw [<- d3, e0]
     ·rw [<- d4]; simp
   ·have hA : A = [] ∨ aI rows 1 x = 0 := by
     simp only [Bool.and_eq_true, decide_eq_true_eq, bne_iff_ne, ne_eq, not_and, Decidable.not_not] at h1
     by_cases hA : A = []
     ·exact .inl hA
     ·exact .inr (h1 (by have := List.length_pos_iff.2 hA; omega))
    rw [hwi]
    refine ⟨rfl, done ?_, hmu⟩
    rcases hA with h | h
    ·exact .inl h
    ·rcases A.eq_nil_or_concat with rfl | ⟨D, z, rfl⟩
     ·exact .inl rfl
     ·exact .inr ⟨D, z, by simp, tN.2 (.inl h)⟩
 ·simp only [decide_eq_true_eq, a8] at hc
  rw [List.take_of_length_le (by omega)]
  exact ⟨_, _, rfl⟩
end
end Go.Eng



namespace Go.Eng
open Go Go.Proofs Go.Eng.Rows Go.Eng.Trie Go.Eng.Srt
theorem kV : tab.length < 1000000 := by have := zno; omega
theorem zgw (n f : Bool) : PCall Tryz.prog 17 [.sl n f (bD tab)] (fM tab) := zph n f tab kV gM
theorem R32.take {l : List Int} (h : R32 l) (k : Nat) : R32 (l.take k) := fun x hx => h x (List.mem_of_mem_take hx)
section
variable {rows : List Row} {v : PV}
theorem zq2 {ts : List PV} {key : Int -> Int} (hT : ∀ r : Int, (-2147483648 <= r /\ r <= 2147483647) -> PCall Tryz.prog 80 [.ptr ts, .int .i32 r] fun v => v = .int .i64 (key r)) : iS (.ptr ts) key := by
 intro a b ha hb
 refine zlv _ _ _ ?_; unfold zc7
 refine .inl ⟨ts, rfl, .inl ⟨ts, rfl, ?_⟩⟩
 refine (hT a ha).mono ?_
 rintro _ rfl
 refine ⟨_, rfl, ?_⟩
 refine (hT b hb).mono ?_
 rintro _ rfl
 refine ⟨_, rfl, ?_⟩
 refine (p61 _ _).mono ?_
 rintro _ rfl
 refine ⟨_, rfl, _, rfl, ?_⟩
 unfold cmpS; split <;> (try split) <;> omega
theorem zq3 (hk : cK rows) (hv : fM rows v) (n f : Bool) (L : List Int) (hr : R32 L) (hL : L.length < 1000000000000) : PCall Tryz.prog 121 [v, .sl n f (aA L)] fun x => ∃ n f, x = .sl n f (aA (bR (aI rows 1) L)) := by
 obtain ⟨tc, tg, tj, tf, tp, made, sec, rfl, ht, hm⟩ := hv
 have hT : ∀ r : Int, (-2147483648 <= r /\ r <= 2147483647) -> PCall Tryz.prog 80 [.ptr [tc, tg, tj, tf, tp, .mp (eA made), .mp (g8 sec)], .int .i32 r] fun v => v = .int .i64 (aI rows 1 r) := fun r hr => yK _ _ ht hr
 exact PCall.ofA (args := [_, _]) (zqj hk hT (zq2 hT) L hr hL) fun r h' ⟨hr, hh⟩ => by subst hr; subst hh; exact ⟨_, rfl, _, _, rfl⟩
theorem zgx (hp : bX rows) {l : List Int} (h : R32 l) : R32 (l.flatMap (aP rows 8)) := fun x hx => by
 obtain ⟨r, hr, h2⟩ := List.mem_flatMap.1 hx
 rcases yO hp 8 r x h2 with rfl | h3
 ·exact h x hr
 ·omega
theorem tV (rows : List Row) (l : List Int) : (l.flatMap (aP rows 8)).length <= 768 * l.length := by
 induction l with
 | nil => simp
 | cons x l ih =>
   have := iR rows 8 x
   rw [List.flatMap_cons, List.length_append, List.length_cons]; omega
theorem zgy (rows : List Row) {l : List Int} {i : Nat} (hi : i < l.length) : (l.take (i + 1)).flatMap (aP rows 8) = (l.take i).flatMap (aP rows 8) ++ aP rows 8 l[i] := by
 rw [c7 hi, List.flatMap_append]; simp
theorem zgz (hp : bX rows) (hk : cK rows) (hv : fM rows v) (n f : Bool) (L : List Int) (hr : R32 L) (hL : L.length < 1000000) : PCall Tryz.prog 78 [v, .sl n f (aA L)] fun x => ∃ n f, x = .sl n f (aA (bV rows L)) := by
 have hv' := hv
 obtain ⟨tc, tg, tj, tf, tp, made, sec, rfl, ht, hm⟩ := hv
 refine zqn _ _ _ _ _ _ _ _ _ _ (fun i h0 _ s => h0 = .ptr [tc, tg, tj, tf, tp, .mp (eA made), .mp (g8 sec)] /\ 0 <= i /\ i <= L.length /\ s = aA ((L.take i.toNat).flatMap (aP rows 8))) (fun i _ _ _ => L.length - i.toNat) ?_
 unfold zgq
 refine ⟨rfl, ⟨rfl, rfl, Int.le_refl _, by omega, rfl⟩, ?_⟩
 rintro i h0 n1 _ ⟨rfl, i0, i1, rfl⟩
 refine aF (fun hc => ?_) (fun hc => ?_)
 ·simp only [decide_eq_true_eq, a8] at hc
  have hi : i.toNat < L.length := by omega
  obtain ⟨g1, g2⟩ := kR i0 hi
  have hx := hr _ (List.getElem_mem hi)
  have hw : i64.wrap (i + 1) = i + 1 := aD (by omega) (by omega)
  have hfl := tV rows (L.take i.toNat)
  rw [List.length_take] at hfl
  refine ⟨g1, L[i.toNat], by rw [g2]; rfl, ?_⟩
  refine (zga _ _ hp ht 8 _ n1 _ (by omega) hx (by omega)).mono ?_
  rintro r h' ⟨nl, rfl, rfl⟩
  rw [hw]
  exact ⟨(nl, _), ⟨rfl, rfl⟩, ⟨trivial, trivial, trivial⟩, rfl, ⟨rfl, by omega, by omega, by rw [show (i + 1).toNat = i.toNat + 1 by omega, zgy rows hi]; rfl⟩, by dsimp only; omega⟩
 ·simp only [decide_eq_true_eq, a8] at hc
  rw [List.take_of_length_le (by omega)]
  have hfl := tV rows L
  refine (zq3 hk hv' n1 false _ (zgx hp hr) (by omega)).mono ?_
  rintro _ ⟨n2, f2, rfl⟩
  exact ⟨_, _, _, rfl, _, _, rfl⟩
theorem zg0 (hp : bX rows) (hk : cK rows) (n f n2 f2 : Bool) (hrl : rows.length < 1000000) (L : List Int) (hr : R32 L) (hL : L.length < 1000000) : PCall Tryz.prog 32 [.sl n f (bD rows), .sl n2 f2 (aA L)] fun x => ∃ n f, x = .sl n f (aA (bV rows L)) := by
 refine zqo _ _ _ _ _ _ (fun i _ s => 0 <= i /\ i <= L.length /\ s = aA ((L.take i.toNat).flatMap (aP rows 8))) (fun i _ _ => L.length - i.toNat) ?_
 unfold zgr
 refine ⟨⟨rfl, Int.le_refl _, by omega, rfl⟩, ?_⟩
 rintro i n1 _ ⟨i0, i1, rfl⟩
 refine aF (fun hc => ?_) (fun hc => ?_)
 ·simp only [decide_eq_true_eq, a8] at hc
  have hi : i.toNat < L.length := by omega
  obtain ⟨g1, g2⟩ := kR i0 hi
  have hx := hr _ (List.getElem_mem hi)
  have hw : i64.wrap (i + 1) = i + 1 := aD (by omega) (by omega)
  have hfl := tV rows (L.take i.toNat)
  rw [List.length_take] at hfl
  have hf1 := iR rows 8 L[i.toNat]
  have he : aA ((L.take i.toNat).flatMap (aP rows 8)) ++ aA (aP rows 8 L[i.toNat]) = aA ((L.take (i + 1).toNat).flatMap (aP rows 8)) := by
   rw [show (i + 1).toNat = i.toNat + 1 by omega, zgy rows hi, hE]
  refine ⟨g1, L[i.toNat], by rw [g2]; rfl, ?_⟩
  rw [hw]
  refine (zpo hp n f hrl 8 _ (by omega) hx).mono ?_
  rintro r h' (⟨nl, rfl, rfl⟩ | ⟨rfl, rfl⟩)
  ·exact .inl ⟨(nl, _), ⟨rfl, rfl⟩, trivial, ⟨cV _, by simp only [a8, List.length_map]; omega⟩, rfl, ⟨by omega, by omega, he⟩, by dsimp only; omega⟩
  ·exact .inr ⟨_, ⟨rfl, rfl⟩, trivial, ⟨cV _, by rw [a8, a8]; omega⟩, rfl, ⟨by omega, by omega, he⟩, by dsimp only; omega⟩
 ·simp only [decide_eq_true_eq, a8] at hc
  rw [List.take_of_length_le (by omega)]
  have hfl := tV rows L
  refine (zq1 hk n f n1 false _ hrl (by omega) (zgx hp hr)).mono ?_
  rintro _ ⟨n2, f2, rfl⟩
  exact ⟨_, _, _, rfl, _, _, rfl⟩
theorem zq4 (hk : cK rows) {l : List Int} (h : l.length < 1000000) : (bV rows l).length < 1000000000000 := by
 have := zgu hk l; omega
theorem zq5 (hp : bX rows) (hk : cK rows) (n f n1 f1 n2 f2 : Bool) (hrl : rows.length < 1000000) (a b : List Int) (ha : R32 a) (hb : R32 b) (la : a.length < 1000000) (lb : b.length < 1000000) :
 PCall Tryz.prog 65 [.sl n f (bD rows), .sl n1 f1 (aA a), .sl n2 f2 (aA b)] fun x => x = .bool (decide (bV rows a = bV rows b)) := by
 refine zqq _ _ _ _ _ _ _ _ _ ?_; unfold zgs
 refine (zg0 hp hk n f n1 f1 hrl a ha la).mono ?_
 rintro _ ⟨n3, f3, rfl⟩
 refine ⟨_, _, _, rfl, ?_⟩
 refine (zg0 hp hk n f n2 f2 hrl b hb lb).mono ?_
 rintro _ ⟨n4, f4, rfl⟩
 refine ⟨_, _, _, rfl, ?_⟩
 refine (zgv _ _ _ _ _ _ (zq4 hk la)).mono ?_
 rintro _ rfl
 exact ⟨_, rfl, rfl⟩
end
end Go.Eng



namespace Go.Eng.Rows
open Go Go.Eng Go.Eng.Trie Go.Eng.Srt
def nO (a b : Int) : Option Int :=
 if (4352 <= a /\ a < 4371) /\ 4449 <= b /\ b < 4470 then some (44032 + ((a - 4352) * 21 + (b - 4449)) * 28)
 else if (bY a = true /\ (a - 44032) % 28 = 0) /\ 4519 < b /\ b < 4547 then some (a + (b - 4519)) else none
def jR (rows : List Row) (a b : Int) (x : Row) : Bool := decide (x.kind = 2) && (decide (x.a = a) && (decide (x.b = b) && (!decide (b = 0) && !gJ rows x.fr)))
def cmpS (rows : List Row) (a b : Int) (o : Option Int) (x : Row) : Option Int :=
 if jR rows a b x then (match o with | none => some x.fr | some r => if x.fr < r then some x.fr else some r) else o
def zJ (rows : List Row) (a b : Int) : Option Int := rows.foldl (cmpS rows a b) none
def mD (rows : List Row) (a b : Int) : Option Int := match nO a b with | some r => some r | none => zJ rows a b
theorem zq6 (rows : List Row) (a b : Int) (l : List Row) : match l.foldl (cmpS rows a b) none with
 | none => ∀ x ∈ l, jR rows a b x = false
 | some r => (∃ x ∈ l, jR rows a b x = true /\ x.fr = r) /\ ∀ x ∈ l, jR rows a b x = true -> r <= x.fr := by
 have : ∀ (m : List Row), match m.reverse.foldl (cmpS rows a b) none with
  | none => ∀ x ∈ m, jR rows a b x = false
  | some r => (∃ x ∈ m, jR rows a b x = true /\ x.fr = r) /\ ∀ x ∈ m, jR rows a b x = true -> r <= x.fr := by
  intro m
  induction m with
  | nil => intro x hx; cases hx
  | cons y m ih =>
    rw [List.reverse_cons, List.foldl_append, List.foldl_cons, List.foldl_nil]
    generalize m.reverse.foldl (cmpS rows a b) none = o at ih
    unfold cmpS
    cases hc : jR rows a b y with
    | false =>
      simp only [Bool.false_eq_true, if_false]
      cases o with
      | none => intro x hx; rcases List.mem_cons.1 hx with rfl | hx; exact hc; exact ih x hx
      | some r =>
        obtain ⟨⟨x, h1, h2⟩, h3⟩ := ih
        exact ⟨⟨x, List.mem_cons_of_mem _ h1, h2⟩, fun z hz hz2 => by rcases List.mem_cons.1 hz with rfl | hz; rw [hc] at hz2; cases hz2; exact h3 z hz hz2⟩
    | true =>
      simp only [if_true]
      cases o with
      | none =>
        refine ⟨⟨y, List.mem_cons_self, hc, rfl⟩, fun z hz hz2 => ?_⟩
        rcases List.mem_cons.1 hz with rfl | hz
        ·exact Int.le_refl _
        ·have := ih z hz; rw [this] at hz2; cases hz2
      | some r =>
        obtain ⟨⟨x, h1, h2, h4⟩, h3⟩ := ih
        by_cases hlt : y.fr < r
        ·simp only [hlt, if_true]
         refine ⟨⟨y, List.mem_cons_self, hc, rfl⟩, fun z hz hz2 => ?_⟩
         rcases List.mem_cons.1 hz with rfl | hz
         ·exact Int.le_refl _
         ·have := h3 z hz hz2; omega
        ·simp only [hlt, if_false]
         refine ⟨⟨x, List.mem_cons_of_mem _ h1, h2, h4⟩, fun z hz hz2 => ?_⟩
         rcases List.mem_cons.1 hz with rfl | hz
         ·omega
         ·exact h3 z hz hz2
 have h := this l.reverse
 rw [List.reverse_reverse] at h
 generalize l.foldl (cmpS rows a b) none = o at h ⊢
 cases o with
 | none => intro x hx; exact h x (List.mem_reverse.2 hx)
 | some r => exact ⟨by obtain ⟨⟨x, h1, h2⟩, _⟩ := h; exact ⟨x, List.mem_reverse.1 h1, h2⟩, fun x hx => h.2 x (List.mem_reverse.2 hx)⟩
theorem zg1 {rows : List Row} (h1 : tH rows) {x : Row} (hx : x ∈ rows) (hk : x.kind = 2) : aG rows x.fr = (x.a, x.b) /\ 0 <= x.fr /\ x.fr <= 1114111 := by
 obtain ⟨e1, e2, e3⟩ := h1 x hx hk
 have hf : bW rows 2 x.fr = some (x.a, x.b) := by unfold bW; rw [if_pos e2]; exact e3
 exact ⟨by unfold aG; rw [hf], e2⟩
theorem zq7 {rows : List Row} (h1 : tH rows) {r : Int} (h : aG rows r ≠ (0, 0)) : ∃ x ∈ rows, x.kind = 2 /\ x.fr = r /\ aG rows r = (x.a, x.b) := by
 cases hf : bW rows 2 r with
 | none => exact absurd (by unfold aG; rw [hf]) h
 | some p =>
   obtain ⟨y, hy, hk, f1, f2⟩ := zqw hf
   obtain ⟨e1, _⟩ := h1 y hy hk
   have hr : y.fr = r := by omega
   have := (zg1 h1 hy hk).1
   rw [hr] at this
   exact ⟨y, hy, hk, hr, this⟩
theorem zq8 {rows : List Row} (h1 : tH rows) {a b r : Int} (h : zJ rows a b = some r) : aG rows r = (a, b) /\ b ≠ 0 /\ gJ rows r = false /\ (0 <= r /\ r <= 1114111) /\ ∃ x ∈ rows, x.kind = 2 /\ x.fr = r := by
 have := zq6 rows a b rows
 unfold zJ at h
 rw [h] at this
 obtain ⟨⟨x, hx, hc, rfl⟩, _⟩ := this
 simp only [jR, Bool.and_eq_true, decide_eq_true_eq, Bool.not_eq_true', decide_eq_false_iff_not] at hc
 obtain ⟨hk, ha, hb, h0, ho⟩ := hc
 obtain ⟨hp, hr⟩ := zg1 h1 hx hk
 exact ⟨by rw [hp, ha, hb], h0, ho, hr, x, hx, hk, rfl⟩
theorem zq9 {a b r : Int} (h : nO a b = some r) : bY r = true := by
 unfold nO at h
 split at h
 ·rename_i hc; cases h; simp only [bY, Bool.and_eq_true, decide_eq_true_eq]; omega
 ·split at h
  ·rename_i hc; cases h; simp only [bY, Bool.and_eq_true, decide_eq_true_eq] at hc ⊢; omega
  ·cases h
structure CSt where
 P : List Int
 s : Option Int
 M : List Int
def eP (key : Int -> Int) (M : List Int) : Int := match M.getLast? with | some m => key m | none => 0
def CSt.out (st : CSt) : List Int := st.P ++ (st.s.toList ++ st.M)
def c9 (key : Int -> Int) (st : CSt) (r : Int) : CSt := if key r = 0 then ⟨st.out, some r, []⟩ else ⟨st.P, st.s, st.M ++ [r]⟩
def dH (rows : List Row) (st : CSt) (r : Int) : CSt := match st.s with
 | none => c9 (aI rows 1) st r
 | some a => if st.M = [] ∨ eP (aI rows 1) st.M < aI rows 1 r then (match mD rows a r with
   | some c => ⟨st.P, some c, st.M⟩
   | none => c9 (aI rows 1) st r) else c9 (aI rows 1) st r
def cC (rows : List Row) (l : List Int) : CSt := l.foldl (dH rows) ⟨[], none, []⟩
def qH (rows : List Row) (l : List Int) : List Int := (cC rows l).out
theorem jS (rows : List Row) (l : List Int) (r : Int) : cC rows (l ++ [r]) = dH rows (cC rows l) r := by simp [cC]
theorem qI (key : Int -> Int) (st : CSt) (r : Int) : (c9 key st r).out = st.out ++ [r] := by
 unfold c9; split <;> simp [CSt.out]
theorem zra (rows : List Row) (st : CSt) (r : Int) : dH rows st r = c9 (aI rows 1) st r ∨ ∃ a c, st.s = some a /\ mD rows a r = some c /\ (st.M = [] ∨ eP (aI rows 1) st.M < aI rows 1 r) /\ dH rows st r = ⟨st.P, some c, st.M⟩ := by
 unfold dH
 split
 ·exact .inl rfl
 ·rename_i a ha
  split
  ·rename_i hf
   cases hc : mD rows a r with
   | none => exact .inl rfl
   | some c => exact .inr ⟨a, c, ha, hc, hf, rfl⟩
  ·exact .inl rfl
structure TabC (rows : List Row) : Prop where
 one : tH rows
 closed : zqv rows
 cls : cK rows
 syl : ∀ x ∈ rows, x.kind = 2 -> bY x.fr = false
 deep : ∀ x ∈ rows, x.kind = 2 -> aP rows 7 x.fr = aP rows 8 x.fr
theorem TabC.full7 {rows : List Row} (h : TabC rows) (r : Int) : aP rows 7 r = aP rows 8 r := by
 by_cases hs : bY r = true
 ·rw [g9 hs, g9 hs]
 ·simp only [Bool.not_eq_true] at hs
  by_cases h0 : aG rows r = (0, 0)
  ·rw [nK hs h0, nK hs h0]
  ·obtain ⟨x, hx, hk, rfl, _⟩ := zq7 h.one h0
   exact h.deep x hx hk
theorem TabC.join {rows : List Row} (h : TabC rows) {a b c : Int} (ha : c8 rows a = true ∨ bY a = true) (hj : nO a b = some c) : aP rows 8 c = aP rows 8 a ++ [b] := by
 rw [g9 (zq9 hj)]
 unfold nO at hj
 split at hj
 ·rename_i hc
  cases hj
  have hr : c8 rows a = true := by
   rcases ha with ha | ha
   ·exact ha
   ·simp only [bY, Bool.and_eq_true, decide_eq_true_eq] at ha; omega
  rw [tU hr]
  unfold dO
  rw [if_pos (by omega)]
  simp only [List.cons_append, List.nil_append, List.cons.injEq, and_true]
  omega
 ·split at hj
  ·rename_i hc
   cases hj
   obtain ⟨⟨hs, h0⟩, h1, h2⟩ := hc
   rw [g9 hs]
   simp only [bY, Bool.and_eq_true, decide_eq_true_eq] at hs
   unfold dO
   rw [if_neg (by omega), if_pos h0]
   simp only [List.cons_append, List.nil_append, List.cons.injEq, and_true]
   omega
  ·cases hj
theorem TabC.lead {rows : List Row} (h : TabC rows) {a : Int} (ha : 4352 <= a /\ a < 4371) : c8 rows a = true := by
 have hx := h.closed (44032 + (a - 4352) * 588) a
 refine hx ?_
 have hs : bY (44032 + (a - 4352) * 588) = true := by simp only [bY, Bool.and_eq_true, decide_eq_true_eq]; omega
 rw [g9 hs]
 unfold dO
 rw [if_pos (by omega), show 4352 + (44032 + (a - 4352) * 588 - 44032) / 588 = a by omega]
 exact List.mem_cons_self
theorem TabC.pair {rows : List Row} (h : TabC rows) {a b c : Int} (hb : c8 rows b = true) (hc : mD rows a b = some c) : aP rows 8 c = aP rows 8 a ++ [b] := by
 unfold mD at hc
 split at hc
 ·rename_i s hj
  cases hc
  refine h.join ?_ hj
  unfold nO at hj
  split at hj
  ·rename_i hq; exact .inl (h.lead hq.1)
  ·split at hj
   ·rename_i hq; exact .inr hq.1.1
   ·cases hj
 ·obtain ⟨hp, h0, _, _, x, hx, hk, rfl⟩ := zq8 h.one hc
  have hs := h.syl x hx hk
  have hn : aG rows x.fr ≠ (0, 0) := by rw [hp]; intro e; cases e; exact h0 rfl
  rw [show (8 : Nat) = 7 + 1 from rfl]
  rw [aP, if_neg (by rw [hs]; simp), if_neg hn, hp]
  simp only
  rw [if_neg h0, h.full7, tU hb]
theorem zg2 (key : Int -> Int) (M : List Int) (r : Int) : eP key (M ++ [r]) = key r := by simp [eP]
structure InvC (rows : List Row) (st : CSt) (p : List Int) : Prop where
 e : Eqv (aI rows 1) (st.out.flatMap (aP rows 8)) p
 m : ∀ m ∈ st.M, aI rows 1 m ≠ 0 /\ c8 rows m = true /\ aI rows 1 m <= eP (aI rows 1) st.M
 q : st.M ≠ [] -> ∃ p' q, p = p' ++ [q] /\ eP (aI rows 1) st.M <= aI rows 1 q
theorem InvC.app {rows : List Row} {st : CSt} {p : List Int} (h : InvC rows st p) {r : Int} (hr : c8 rows r = true) (hc : cA (aI rows 1) (p ++ [r])) : InvC rows (c9 (aI rows 1) st r) (p ++ [r]) := by
 have he : Eqv (aI rows 1) ((c9 (aI rows 1) st r).out.flatMap (aP rows 8)) (p ++ [r]) := by
  rw [qI, List.flatMap_append, List.flatMap_singleton, tU hr]
  simpa using h.e.app [] [r]
 refine ⟨he, ?_, ?_⟩
 ·unfold c9
  split
  ·intro m hm; cases hm
  ·rename_i h0
   intro m hm
   simp only at hm ⊢
   rw [zg2]
   rcases List.mem_append.1 hm with hm | hm
   ·obtain ⟨k1, k2, k3⟩ := h.m m hm
    refine ⟨k1, k2, ?_⟩
    obtain ⟨p', q, rfl, hq⟩ := h.q (List.ne_nil_of_mem hm)
    have := (mC.1 hc).2.2 q r (by simp) rfl h0
    omega
   ·rw [List.mem_singleton] at hm; subst hm; exact ⟨h0, hr, Int.le_refl _⟩
 ·unfold c9
  split
  ·intro hn; exact absurd rfl hn
  ·intro _; exact ⟨p, r, rfl, by simp only; rw [zg2]; exact Int.le_refl _⟩
theorem InvC.step {rows : List Row} (ht : TabC rows) {st : CSt} {p : List Int} (h : InvC rows st p) {r : Int} (hr : c8 rows r = true) (hc : cA (aI rows 1) (p ++ [r])) : InvC rows (dH rows st r) (p ++ [r]) := by
 rcases zra rows st r with e | ⟨a, c, hs, hpc, hf, e⟩
 ·rw [e]; exact h.app hr hc
 ·rw [e]
  have hM : st.M.flatMap (aP rows 8) = st.M := zgt fun m hm => (h.m m hm).2.1
  have he := h.e
  simp only [CSt.out, hs, Option.toList, List.flatMap_append, List.flatMap_singleton, hM] at he
  have hlt : st.M ≠ [] -> eP (aI rows 1) st.M < aI rows 1 r := fun hn => hf.elim (fun e => absurd e hn) id
  refine ⟨?_, h.m, fun hn => ⟨p, r, rfl, Int.le_of_lt (hlt hn)⟩⟩
  simp only [CSt.out, Option.toList, List.flatMap_append, List.flatMap_singleton, hM, ht.pair hr hpc]
  refine Eqv.trans ?_ (by simpa using he.app [] [r])
  by_cases hn : st.M = []
  ·rw [hn]; simp; exact .refl _
  ·have h3 : eP (aI rows 1) st.M < aI rows 1 r := hlt hn
   have hr0 : aI rows 1 r ≠ 0 := by
    intro e0
    obtain ⟨m, hm⟩ := List.exists_mem_of_ne_nil _ hn
    obtain ⟨k1, _, k3⟩ := h.m m hm
    have := ht.cls m; omega
   have := (Eqv.ahead (key := aI rows 1) hr0 (B := st.M) [] fun m hm => ⟨(h.m m hm).1, by have := (h.m m hm).2.2; omega⟩).symm.app (st.P.flatMap (aP rows 8) ++ aP rows 8 a) []
   simpa using this
theorem zrb {rows : List Row} (ht : TabC rows) {l : List Int} (hr : ∀ x ∈ l, c8 rows x = true) (hc : cA (aI rows 1) l) : InvC rows (cC rows l) l := by
 revert hr hc
 induction l using kU with
 | h0 => intro _ _; exact ⟨.refl _, (fun m hm => by cases hm), fun hn => absurd rfl hn⟩
 | h1 l r ih =>
   intro hr hc
   rw [jS]
   exact (ih (fun x hx => hr x (by simp [hx])) (mC.1 hc).1).step ht (hr r (by simp)) hc
end Go.Eng.Rows



namespace Go.Eng
open Go Go.Proofs Go.Eng.Rows Go.Eng.Trie
end Go.Eng



namespace Go.Eng.Rows
open Go Go.Eng Go.Eng.Trie Go.Eng.Srt
def Comp (rows : List Row) (s : List Int) : Prop := ∃ d, (∀ x ∈ d, c8 rows x = true) /\ cA (aI rows 1) d /\ qH rows d = s
section
variable {rows : List Row}
def iV (rows : List Row) (s : Option Int) (M : List Int) (r : Int) : Option Int := match s with
 | none => none
 | some a => if M = [] ∨ eP (aI rows 1) M < aI rows 1 r then mD rows a r else none
theorem jT (st : CSt) (r : Int) : dH rows st r = match iV rows st.s st.M r with | some c => ⟨st.P, some c, st.M⟩ | none => c9 (aI rows 1) st r := by
 unfold dH iV
 cases st.s with
 | none => rfl
 | some a =>
   simp only
   split
   ·rfl
   ·rfl
theorem zK {s : Option Int} {M : List Int} {r c : Int} (h : iV rows s M r = some c) : ∃ a, s = some a /\ mD rows a r = some c /\ (M = [] ∨ eP (aI rows 1) M < aI rows 1 r) := by
 unfold iV at h
 cases s with
 | none => cases h
 | some a =>
   simp only at h
   split at h
   ·rename_i hf; exact ⟨a, rfl, h, hf⟩
   ·cases h
theorem jU {d : List Int} {x : Int} : cA (aI rows 1) (d ++ [x]) ↔ cA (aI rows 1) d /\ (∀ z, d.getLast? = some z -> aI rows 1 x ≠ 0 -> aI rows 1 z <= aI rows 1 x) := by
 rw [mC]
 constructor
 ·rintro ⟨h1, _, h3⟩; exact ⟨h1, fun z hz hx => h3 z x hz rfl hx⟩
 ·rintro ⟨h1, h3⟩; exact ⟨h1, trivial, fun z x' hz hx' h0 => by simp at hx'; subst hx'; exact h3 z hz h0⟩
theorem zL {d : List Int} {r x : Int} (h : cA (aI rows 1) (d ++ [r] ++ [x])) (hx : aI rows 1 x ≠ 0) : aI rows 1 r <= aI rows 1 x := (jU.1 h).2 r (by simp) hx
def Wit (rows : List Row) (d : List Int) (st : CSt) : Prop := ∃ e, (∀ x ∈ e, c8 rows x = true) /\ cC rows e = st /\ (st.out = [] -> e = []) /\ cA (aI rows 1) e /\ ∀ x, cA (aI rows 1) (d ++ [x]) -> cA (aI rows 1) (e ++ [x])
theorem Wit.snoc {d : List Int} {st : CSt} (h : Wit rows d st) {r : Int} (hr : c8 rows r = true) (hc : cA (aI rows 1) (d ++ [r])) (hn : (dH rows st r).out ≠ []) : Wit rows (d ++ [r]) (dH rows st r) := by
 obtain ⟨e, h1, h2, h3, h4, h5⟩ := h
 refine ⟨e ++ [r], fun x hx => ?_, by rw [jS, h2], fun hq => absurd hq hn, h5 r hc, fun x hx => ?_⟩
 ·rcases List.mem_append.1 hx with hx | hx
  ·exact h1 x hx
  ·rw [List.mem_singleton] at hx; subst hx; exact hr
 ·exact jU.2 ⟨h5 r hc, fun z hz h0 => by simp at hz; subst hz; exact zL hx h0⟩
theorem zg3 {key : Int -> Int} {M : List Int} (h : M ≠ []) : ∃ m ∈ M, eP key M = key m := by
 rcases M.eq_nil_or_concat with rfl | ⟨D, z, rfl⟩
 ·exact absurd rfl h
 ·exact ⟨z, by simp, by simp [eP]⟩
theorem zg4 {d : List Int} (h : (cC rows d).out = []) : d = [] := by
 revert h
 induction d using kU with
 | h0 => exact fun _ => rfl
 | h1 d r ih =>
   rw [jS, jT]
   intro h
   split at h
   ·simp [CSt.out] at h
   ·rw [qI] at h; simp at h
theorem zM {d : List Int} (h : (cC rows d).s = none) : (cC rows d).P = [] := by
 revert h
 induction d using kU with
 | h0 => exact fun _ => rfl
 | h1 d r ih =>
   rw [jS, jT]
   split
   ·intro h; cases h
   ·unfold c9
    split
    ·intro h; cases h
    ·exact ih
theorem zrc (ht : TabC rows) {d : List Int} (hr : ∀ x ∈ d, c8 rows x = true) (hc : cA (aI rows 1) d) (hn : (cC rows d).M ≠ []) :
 Wit rows d ⟨(cC rows d).P, (cC rows d).s, (cC rows d).M.dropLast⟩ := by
 revert hr hc hn
 induction d using kU with
 | h0 => intro _ _ hn; exact absurd rfl hn
 | h1 d r ih =>
   intro hr hc
   have hr1 : ∀ x ∈ d, c8 rows x = true := fun x hx => hr x (by simp [hx])
   have hc1 := (jU.1 hc).1
   have hinv := zrb ht hr1 hc1
   have hrr := hr r (by simp)
   rw [jS]
   have ih := ih hr1 hc1
   have hon := zg4 (rows := rows) (d := d)
   generalize hsd : cC rows d = st at *
   rw [jT]
   cases hd : iV rows st.s st.M r with
   | none =>
     simp only
     unfold c9
     split
     ·intro hn; exact absurd rfl hn
     ·rename_i h0
      intro _
      simp only [List.dropLast_concat]
      refine ⟨d, hr1, hsd, fun h => hon h, hc1, fun x hx => jU.2 ⟨hc1, fun z hz hx0 => ?_⟩⟩
      have := (jU.1 hc).2 z hz h0
      have := zL hx hx0
      omega
   | some c =>
     simp only
     intro hn
     obtain ⟨a, hs, hp, hf⟩ := zK hd
     have hlt := hf.elim (fun e => absurd e hn) id
     have hw := (ih hn).snoc hrr hc
     have he : dH rows ⟨st.P, st.s, st.M.dropLast⟩ r = ⟨st.P, some c, st.M.dropLast⟩ := by
      rw [jT]
      have : iV rows st.s st.M.dropLast r = some c := by
       unfold iV
       rw [hs]
       simp only
       rw [if_pos, hp]
       by_cases hdl : st.M.dropLast = []
       ·exact .inl hdl
       ·obtain ⟨m, hm, e⟩ := zg3 (key := aI rows 1) hdl
        have := (hinv.m m (List.dropLast_subset _ hm)).2.2
        exact .inr (by omega)
      simp only [this]
     rw [he] at hw
     exact hw (by simp [CSt.out])
def eB (st : CSt) : CSt := match st.s, st.P with
 | none, P => ⟨P, none, st.M.tail⟩
 | some _, [] => ⟨[], none, st.M⟩
 | some c, _ :: P => ⟨P, some c, st.M⟩
theorem zrd {st : CSt} (h : st.s = none -> st.P = []) : (eB st).out = st.out.tail := by
 obtain ⟨P, s, M⟩ := st
 cases s with
 | none =>
   have hp : P = [] := h rfl
   subst hp
   simp [eB, CSt.out]
 | some c => cases P <;> simp [eB, CSt.out]
theorem zre (hk : cK rows) (M : List Int) : 0 <= eP (aI rows 1) M := by
 by_cases h : M = []
 ·subst h; exact Int.le_refl _
 ·obtain ⟨m, _, e⟩ := zg3 (key := aI rows 1) h
  rw [e]; exact hk m
theorem zrf (ht : TabC rows) {d : List Int} (hr : ∀ x ∈ d, c8 rows x = true) (hc : cA (aI rows 1) d) (hn : d ≠ []) : Wit rows d (eB (cC rows d)) := by
 revert hr hc hn
 induction d using kU with
 | h0 => intro _ _ hn; exact absurd rfl hn
 | h1 d r ih =>
   intro hr hc _
   have hr1 : ∀ x ∈ d, c8 rows x = true := fun x hx => hr x (by simp [hx])
   have hc1 := (jU.1 hc).1
   have hrr := hr r (by simp)
   by_cases hd0 : d = []
   ·subst hd0
    refine ⟨[], fun x hx => (by cases hx), ?_, fun _ => rfl, trivial, fun x _ => trivial⟩
    rw [jS]
    show _ = eB (c9 (aI rows 1) ⟨[], none, []⟩ r)
    unfold c9
    split <;> rfl
   ·have ih := ih hr1 hc1 hd0
    have hP := zM (rows := rows) (d := d)
    have hon : (cC rows d).out ≠ [] := fun h => hd0 (zg4 h)
    rw [jS]
    generalize cC rows d = st at *
    have key : (eB (dH rows st r) = dH rows (eB st) r /\ (dH rows (eB st) r).out ≠ []) -> Wit rows (d ++ [r]) (eB (dH rows st r)) := fun ⟨h1, h2⟩ => by
     rw [h1]; exact ih.snoc hrr hc h2
    obtain ⟨P, s, M⟩ := st
    cases s with
    | none =>
      obtain rfl : P = [] := hP rfl
      cases M with
      | nil => exact absurd rfl hon
      | cons m M =>
        refine key ?_
        have e1 : dH rows ⟨[], none, m :: M⟩ r = c9 (aI rows 1) ⟨[], none, m :: M⟩ r := rfl
        have e2 : dH rows (eB ⟨[], none, m :: M⟩) r = c9 (aI rows 1) ⟨[], none, M⟩ r := rfl
        rw [e1, e2, qI]
        refine ⟨?_, by simp⟩
        unfold c9
        split <;> simp [eB, CSt.out]
    | some c =>
      cases P with
      | cons p P =>
        refine key ?_
        have e2 : eB ⟨p :: P, some c, M⟩ = ⟨P, some c, M⟩ := rfl
        rw [e2, jT, jT]
        simp only
        cases iV rows (some c) M r with
        | none => simp only; rw [qI]; refine ⟨?_, by simp⟩; unfold c9; split <;> simp [eB, CSt.out]
        | some c' => exact ⟨rfl, by simp [CSt.out]⟩
      | nil =>
        have e2 : eB ⟨[], some c, M⟩ = ⟨[], none, M⟩ := rfl
        have e3 : dH rows ⟨[], none, M⟩ r = c9 (aI rows 1) ⟨[], none, M⟩ r := rfl
        cases hdec : iV rows (some c) M r with
        | none =>
          refine key ?_
          rw [e2, e3, jT]
          simp only [hdec]
          rw [qI]
          refine ⟨?_, by simp⟩
          unfold c9
          split <;> simp [eB, CSt.out]
        | some c' =>
          obtain ⟨a, _, hp, hf⟩ := zK hdec
          have e4 : eB (dH rows ⟨[], some c, M⟩ r) = ⟨[], none, M⟩ := by
           rw [jT]; simp only [hdec]; rfl
          rw [e4]
          rw [e2] at ih
          obtain ⟨e, h1, h2, h3, h4, h5⟩ := ih
          refine ⟨e, h1, h2, h3, h4, fun x hx => jU.2 ⟨h4, fun z hz hx0 => ?_⟩⟩
          by_cases h0 : aI rows 1 r = 0
          ·have hl := zre ht.cls M
           have hM : M = [] := hf.elim id fun h => by omega
           subst hM
           have := h3 rfl
           subst this
           simp at hz
          ·have k1 := (jU.1 (h5 r hc)).2 z hz h0
           have k2 := zL hx hx0
           omega
theorem zrg {d : List Int} (hr : ∀ x ∈ d, c8 rows x = true) (hc : cA (aI rows 1) d) (hn : (cC rows d).s ≠ none) : ∃ e, (∀ x ∈ e, c8 rows x = true) /\ cA (aI rows 1) e /\ (cC rows e).out = (cC rows d).P := by
 revert hr hc hn
 induction d using kU with
 | h0 => intro _ _ hn; exact absurd rfl hn
 | h1 d r ih =>
   intro hr hc
   have hr1 : ∀ x ∈ d, c8 rows x = true := fun x hx => hr x (by simp [hx])
   have hc1 := (jU.1 hc).1
   have ih := ih hr1 hc1
   rw [jS, jT]
   cases hd : iV rows (cC rows d).s (cC rows d).M r with
   | none =>
     simp only
     unfold c9
     split
     ·intro _; exact ⟨d, hr1, hc1, rfl⟩
     ·exact ih
   | some c =>
     obtain ⟨a, hs, _⟩ := zK hd
     intro _
     exact ih (by rw [hs]; simp)
theorem Comp.nil : Comp rows [] := ⟨[], fun x hx => (by cases hx), trivial, rfl⟩
theorem Comp.tail (ht : TabC rows) {s : List Int} (h : Comp rows s) : Comp rows s.tail := by
 obtain ⟨d, h1, h2, rfl⟩ := h
 by_cases hd : d = []
 ·subst hd; exact .nil
 ·obtain ⟨e, k1, k2, _, k4, _⟩ := zrf ht h1 h2 hd
  exact ⟨e, k1, k4, by unfold qH; rw [k2, zrd zM]⟩
theorem Comp.dropLast (ht : TabC rows) {s : List Int} (h : Comp rows s) : Comp rows s.dropLast := by
 obtain ⟨d, h1, h2, rfl⟩ := h
 unfold qH
 by_cases hM : (cC rows d).M = []
 ·cases hs : (cC rows d).s with
  | none =>
    have : (cC rows d).out = [] := by simp [CSt.out, zM hs, hs, hM]
    rw [this]; exact .nil
  | some c =>
    obtain ⟨e, k1, k2, k3⟩ := zrg h1 h2 (by rw [hs]; simp)
    refine ⟨e, k1, k2, ?_⟩
    unfold qH
    rw [k3]
    simp [CSt.out, hs, hM]
 ·obtain ⟨e, k1, k2, _, k4, _⟩ := zrc ht h1 h2 hM
  refine ⟨e, k1, k4, ?_⟩
  unfold qH
  rw [k2]
  simp only [CSt.out]
  rw [List.dropLast_append_of_ne_nil (by simp [hM]), List.dropLast_append_of_ne_nil hM]
theorem Comp.drop (ht : TabC rows) {s : List Int} (h : Comp rows s) : ∀ k, Comp rows (s.drop k)
 | 0 => h
 | k + 1 => by
   have := (Comp.drop ht h k).tail ht
   rwa [List.tail_drop] at this
theorem Comp.take (ht : TabC rows) {s : List Int} (h : Comp rows s) (k : Nat) : Comp rows (s.take k) := by
 have : ∀ n, Comp rows (s.take (s.length - n)) := by
  intro n
  induction n with
  | zero => rw [Nat.sub_zero, List.take_length]; exact h
  | succ n ih =>
    have := ih.dropLast ht
    rw [List.dropLast_eq_take, List.take_take, List.length_take] at this
    rwa [show min (min (s.length - n) s.length - 1) (s.length - n) = s.length - (n + 1) by omega] at this
 by_cases hk : k <= s.length
 ·have := this (s.length - k)
  rwa [show s.length - (s.length - k) = k by omega] at this
 ·rw [List.take_of_length_le (by omega)]; exact h
end
end Go.Eng.Rows



namespace Go.Eng
open Go Go.Proofs
end Go.Eng



namespace Go.Eng
open Go Go.Proofs Go.Eng.Rows Go.Eng.Trie Go.Eng.Srt
section
variable {rows : List Row} {v : PV}
def zg5 (st : CSt) : Int := match st.s with | none => -1 | some _ => st.P.length
def JC (rows : List Row) (L : List Int) (x6 x7 i : Int) (s : List (List PV)) : Prop := (0 <= i /\ i <= L.length) /\ s = aA (cC rows (L.take i.toNat)).out /\ x6 = zg5 (cC rows (L.take i.toNat)) /\ x7 = eP (aI rows 1) (cC rows (L.take i.toNat)).M
theorem JC.next {L : List Int} {i : Int} (h0 : 0 <= i) (hi : i.toNat < L.length) {st : CSt} (he : dH rows (cC rows (L.take i.toNat)) L[i.toNat] = st) : JC rows L (zg5 st) (eP (aI rows 1) st.M) (i + 1) (aA st.out) := by
 have e : cC rows (L.take (i + 1).toNat) = st := by
  rw [show (i + 1).toNat = i.toNat + 1 by omega, c7 hi, jS, he]
 exact ⟨⟨by omega, by omega⟩, by rw [e], by rw [e], by rw [e]⟩
end
end Go.Eng



namespace Go.Eng
open Go Go.Proofs Go.Eng.Rows Go.Eng.Trie Go.Eng.Srt
theorem v22 : Tryz.prog.underlying 23 = some (.slice 21) := by kernel_rfl
theorem v21 : Tryz.prog.underlying 21 = some (.int .i32) := by kernel_rfl
end Go.Eng



namespace Go.Eng.Rows
open Go Go.Eng Go.Eng.Trie Go.Eng.Srt
def eQ (L : List Int) (a b : Nat) : List Int := (L.take b).drop a
def eC (rows : List Row) (L want : List Int) (a b : Nat) : Bool := decide (bV rows (eQ L a b) = want)
def jV (p : Nat -> Bool) (b : Nat) : Nat -> Option Nat
 | 0 => none
 | k + 1 => if p b then some b else jV p (b + 1) k
def fN (rows : List Row) (L want : List Int) (a : Nat) : Nat -> Option (Nat × Nat)
 | 0 => none
 | k + 1 => match jV (eC rows L want a) a (L.length + 1 - a) with
   | some b => some (a, b)
   | none => fN rows L want (a + 1) k
def findL (rows : List Row) (L want : List Int) : Option (Nat × Nat) := fN rows L want 0 (L.length + 1)
theorem zg6 {p : Nat -> Bool} : ∀ {k b : Nat}, (∀ j, j < k -> p (b + j) = false) -> jV p b k = none
 | 0, b, _ => rfl
 | k + 1, b, h => by
   rw [jV, if_neg (by have := h 0 (by omega); rw [Nat.add_zero] at this; rw [this]; simp)]
   exact zg6 fun j hj => by have := h (j + 1) (by omega); rwa [show b + (j + 1) = b + 1 + j by omega] at this
theorem zg7 {L : List Int} {i : Nat} (h : i < L.length) : L.take (i + 1) = L.take i ++ [L[i]] := by
 rw [List.take_add_one, List.getElem?_eq_getElem h]; rfl
theorem zrh {L : List Int} {a b : Nat} (h : a <= b) (hb : b < L.length) : eQ L a (b + 1) = eQ L a b ++ [L[b]] := by
 unfold eQ
 rw [zg7 hb, List.drop_append_of_le_length (by rw [List.length_take]; omega)]
theorem zN (L : List Int) (a : Nat) : eQ L a a = [] := by
 unfold eQ; exact List.drop_eq_nil_of_le (by rw [List.length_take]; omega)
def dP (rows : List Row) (L : List Int) (a b : Nat) : Nat := ((eQ L a b).flatMap (aP rows 8)).length
theorem zg8 (rows : List Row) {L : List Int} {a b : Nat} (h : a <= b) (hb : b < L.length) : dP rows L a (b + 1) = dP rows L a b + (aP rows 8 L[b]).length := by
 unfold dP; rw [zrh h hb]; simp
theorem zg9 (rows : List Row) {L : List Int} {a b : Nat} (h : a <= b) : ∀ {k : Nat}, b + k <= L.length -> dP rows L a b <= dP rows L a (b + k)
 | 0, _ => Nat.le_refl _
 | k + 1, hk => by
   have := zg9 rows (L := L) h (k := k) (by omega)
   have h2 := zg8 rows (L := L) (a := a) (b := b + k) (by omega) (by omega)
   rw [show b + (k + 1) = b + k + 1 by omega]; omega
theorem zri (rows : List Row) (L : List Int) (a b : Nat) : dP rows L a b <= 768 * (b - a) := by
 unfold dP
 have : ∀ l : List Int, (l.flatMap (aP rows 8)).length <= 768 * l.length := fun l => by
  induction l with
  | nil => simp
  | cons x l ih =>
    have := iR rows 8 x
    rw [List.flatMap_cons, List.length_append, List.length_cons]; omega
 refine Nat.le_trans (this _) ?_
 unfold eQ
 rw [List.length_drop, List.length_take]
 exact Nat.mul_le_mul_left _ (by omega)
theorem zO {rows : List Row} (hk : cK rows) (L : List Int) (a b : Nat) : (bV rows (eQ L a b)).length = dP rows L a b := by
 unfold bV dP; exact (tO hk _).len.symm
theorem zrj {rows : List Row} (hk : cK rows) {L want : List Int} {a b : Nat} (h : a <= b) (hl : want.length < dP rows L a b) : ∀ j, b + j <= L.length -> eC rows L want a (b + j) = false := fun j hj => by
 have := zg9 rows h hj
 unfold eC
 rw [decide_eq_false_iff_not]
 intro e
 have := congrArg List.length e
 rw [zO hk] at this
 omega
theorem zrk {rows : List Row} (hk : cK rows) {L want : List Int} {a b : Nat} (hl : dP rows L a b ≠ want.length) : eC rows L want a b = false := by
 unfold eC
 rw [decide_eq_false_iff_not]
 intro e
 exact hl (by rw [<- zO hk, e])
theorem zrl {rows : List Row} {L want : List Int} (hw : want ≠ []) (a : Nat) : eC rows L want a a = false := by
 unfold eC
 rw [zN, decide_eq_false_iff_not]
 intro e; exact hw (by rw [<- e]; rfl)
def fO (rows : List Row) (L want : List Int) (a b : Nat) : Option (Nat × Nat) := match jV (eC rows L want a) b (L.length + 1 - b) with
 | some c => some (a, c)
 | none => fN rows L want (a + 1) (L.length - a)
theorem zha {rows : List Row} {L want : List Int} (hw : want ≠ []) {a : Nat} (ha : a <= L.length) : fN rows L want a (L.length + 1 - a) = fO rows L want a (a + 1) := by
 rw [show L.length + 1 - a = (L.length - a) + 1 by omega, fN]
 unfold fO
 rw [show L.length + 1 - a = (L.length + 1 - (a + 1)) + 1 by omega, jV, if_neg (by rw [zrl hw]; simp)]
theorem zhb {rows : List Row} {L want : List Int} {a b : Nat} (hb : b <= L.length) (h : eC rows L want a b = false) : fO rows L want a b = fO rows L want a (b + 1) := by
 unfold fO
 rw [show L.length + 1 - b = (L.length + 1 - (b + 1)) + 1 by omega, jV, if_neg (by rw [h]; simp)]
theorem zhc {rows : List Row} {L want : List Int} {a b : Nat} (hb : b <= L.length) (h : eC rows L want a b = true) : fO rows L want a b = some (a, b) := by
 unfold fO
 rw [show L.length + 1 - b = (L.length + 1 - (b + 1)) + 1 by omega, jV, if_pos h]
theorem zP {rows : List Row} {L want : List Int} {a b : Nat} (h : ∀ j, b + j <= L.length -> eC rows L want a (b + j) = false) : fO rows L want a b = fN rows L want (a + 1) (L.length + 1 - (a + 1)) := by
 unfold fO
 rw [zg6 fun j hj => h j (by omega)]
 rw [show L.length + 1 - (a + 1) = L.length - a by omega]
theorem zrm {rows : List Row} {L want : List Int} (hw : want ≠ []) : fN rows L want L.length (L.length + 1 - L.length) = none := by
 rw [zha hw (Nat.le_refl _), zP fun j hj => by omega]
 rw [Nat.sub_self]; rfl
end Go.Eng.Rows



namespace Go.Eng
open Go Go.Proofs
end Go.Eng



namespace Go.Eng
open Go Go.Proofs Go.Eng.Rows Go.Eng.Trie Go.Eng.Srt
theorem mE (n f n2 f2 : Bool) (a b : List Int) (hl : a.length < 1000000000000) : PCall Tryz.prog 26 [.sl n f (aA a), .sl n2 f2 (aA b)] fun x => x = .bool (decide (a = b)) := zgv n f n2 f2 a b hl
theorem zrn (l : List Int) (k : Nat) : (l.take k).length <= k := by rw [List.length_take]; omega
theorem zhd {len : Nat} {i j : Int} (h0 : 0 <= i) (h1 : i <= j) (h2 : j <= len) : dI len (some i) (some j) none := ⟨h0, h1, h2, trivial⟩
theorem zhe (L : List Int) (i j : Nat) : List.drop i (List.take j (aA L)) = aA (eQ L i j) := by simp [aA, eQ]
theorem R32.sub {L : List Int} (h : R32 L) (i j : Nat) : R32 (eQ L i j) := fun x hx => h x (List.mem_of_mem_take (List.mem_of_mem_drop hx))
theorem zhf (L : List Int) (i j : Nat) : (eQ L i j).length <= L.length := by unfold eQ; rw [List.length_drop, List.length_take]; omega
theorem w3 : Tryz.prog.underlying 3 = some (.int .i64) := by kernel_rfl
theorem zhg {v : PV} (h : jK Tryz.prog 8 3 v) : ∃ n : Int, v = .int .i64 n := by
 obtain ⟨m, e, _⟩ := sH w3 (sJ (by kernel_rfl) h)
 cases e
 exact ⟨m, rfl⟩
end Go.Eng



namespace Go.Eng
open Go Go.Proofs
end Go.Eng



namespace Go.Eng
open Go Go.Proofs
end Go.Eng



namespace Go.Eng
open Go Go.Proofs Go.Eng.Rows Go.Eng.Trie
end Go.Eng



namespace Go.Eng
open Go Go.Proofs Go.Eng.Rows Go.Eng.Trie
section
variable {rows : List Row}
end
end Go.Eng



namespace Go.Eng
open Go Go.Proofs Go.Eng.Rows Go.Eng.Trie
section
variable {rows : List Row} {v : PV}
theorem zro (hp : bX rows) (hv : fM rows v) {r : Int} (hr : -2147483648 <= r /\ r <= 2147483647) : PCall Tryz.prog 158 [v, .int .i32 r] fun x => ∃ nl, x = .sl nl false (aA (aP rows 8 r)) := by
 obtain ⟨tc, tg, tj, tf, tp, made, sec, rfl, ht, hm⟩ := hv
 exact zpq _ _ hp ht hr
end
end Go.Eng



namespace Go.Eng
open Go Go.Proofs
def zQ (tc tg tj tf tp : PV) (M S : List (PV × PV)) (n f : Bool) (es : LL) (n2 f2 : Bool) (ss : LL) (n9 f9 : Bool) (s9 : LL) (x27 : Int) (n_0 : Bool) (s_0 : LL) : Env × Hp := ([(0, LV.pv (PV.ptr [tc, tg, tj, tf, tp, PV.mp M, PV.mp S])), (1, LV.pv (PV.sl n f es)), (9, .pv (.sl n9 f9 s9)), (10, LV.own 0), (25, LV.pv (PV.sl n f es)), (26, Y6 ↑es.length), (27, Y6 x27)], [.sl (3, 1) true n_0 s_0])
def tW (tc tg tj tf tp : PV) (M S : List (PV × PV)) (n f : Bool) (es : LL) (n2 f2 : Bool) (ss : LL) (n9 f9 : Bool) (s9 : LL) (x42 : Int) (n_0 : Bool) (s_0 : LL) : Env × Hp := ([(0, LV.pv (PV.ptr [tc, tg, tj, tf, tp, PV.mp M, PV.mp S])), (1, LV.pv (PV.sl n f es)), (9, .pv (.sl n9 f9 s9)), (10, LV.own 0), (41, Y6 ↑es.length), (42, Y6 x42)], [.sl (3, 1) true n_0 s_0])
def tX (tc tg tj tf tp : PV) (M S : List (PV × PV)) (n f : Bool) (es : LL) (n2 f2 : Bool) (ss : LL) (n9 f9 : Bool) (s9 : LL) (x13 x14 x15 x42 : Int) (n_0 : Bool) (s_0 : LL) : Env × Hp := ([(0, LV.pv (PV.ptr [tc, tg, tj, tf, tp, PV.mp M, PV.mp S])), (1, LV.pv (PV.sl n f es)), (9, .pv (.sl n9 f9 s9)), (10, LV.own 0), (13, Y6 x13), (14, Y6 x14), (15, Y6 x15), (41, Y6 ↑es.length), (42, Y6 x42)], [.sl (3, 1) true n_0 s_0])
def zhh (tc tg tj tf tp : PV) (M S : List (PV × PV)) (n f : Bool) (es : LL) (n2 f2 : Bool) (ss : LL) (J : Bool -> Bool -> LL -> Int -> Bool -> LL -> Prop) (μ : Bool -> Bool -> LL -> Int -> Bool -> LL -> Nat) (J2 : Bool -> Bool -> LL -> Int -> Bool -> LL -> Prop) (μ2 : Bool -> Bool -> LL -> Int -> Bool -> LL -> Nat) (J3 : Bool -> Bool -> LL -> Int -> Int -> Int -> Int -> Bool -> LL -> Bool -> Bool -> LL -> Int -> Int -> Int -> Int -> Bool -> LL -> Prop) (μ3 : Bool -> Bool -> LL -> Int -> Int -> Int -> Int -> Bool -> LL -> Nat) (R : PV -> Prop) : Prop :=
 PCall Tryz.prog 78 [PV.ptr [tc, tg, tj, tf, tp, PV.mp M, PV.mp S], PV.sl n2 f2 ss] fun v => ∃ n1 f1 es1, v = PV.sl n1 f1 es1 /\ if ((↑es1.length : Int) == 0) = true then R (PV.tup [Z6 0, Z6 0, Zb true])
 else ((0 : Int) <= (↑es.length : Int) /\ (↑es.length : Int) <= (↑es.length : Int) /\ (↑8 : Int) * (↑es.length : Int) <= 281474976710656 /\ (↑es.length : Int) <= 9223372036854775807) /\ (aB (zQ tc tg tj tf tp M S n f es n2 f2 ss n1 f1 es1 (0
 : Int) false (List.replicate (↑es.length : Int).toNat [Z6 0])) /\ J n1 f1 es1 (0 : Int) false (List.replicate (↑es.length : Int).toNat [Z6 0])) /\ ∀ (n9 f9 : Bool) (s9 : LL) (x27 : Int) (n_0 : Bool) (s_0 : LL), J n9 f9 s9 x27 n_0 s_0 -> if
 decide (x27 < (↑es.length : Int)) = true then aO es x27 1 /\ ∃ n3, (es.getD x27.toNat []).head? = some (Z3 n3) /\ PCall Tryz.prog 158 [PV.ptr [tc, tg, tj, tf, tp, PV.mp M, PV.mp S], Z3 n3] fun v1 => ∃ n4, ∃ (f3 :
 Bool), ∃ es2, v1 = PV.sl n4 f3 es2 /\ aO s_0 x27 1 /\ (1 = 1 /\ 1 <= (s_0.getD x27.toNat []).length) /\ aB (zQ tc tg tj tf tp M S n f es n2 f2 ss n9 f9 s9 (i64.wrap (x27 + 1)) n_0 (s_0.set x27.toNat (Z6 (↑es2.length :
 Int) :: zq (List.drop 1 (s_0.getD x27.toNat []))))) /\ J n9 f9 s9 (i64.wrap (x27 + 1)) n_0 (s_0.set x27.toNat (Z6 (↑es2.length : Int) :: zq (List.drop 1 (s_0.getD x27.toNat [])))) /\
 μ n9 f9 s9 (i64.wrap (x27 + 1)) n_0 (s_0.set x27.toNat (Z6 (↑es2.length : Int) :: zq (List.drop 1 (s_0.getD x27.toNat [])))) < μ n9 f9 s9 x27 n_0 s_0 else (aB (tW tc tg tj tf tp M S n f es n2 f2 ss
 n9 f9 s9 (0 : Int) n_0 s_0) /\ J2 n9 f9 s9 (0 : Int) n_0 s_0) /\ ∀ (n91 f91 : Bool) (s91 : LL) (x42 : Int) (n_01 : Bool) (s_01 : LL), J2 n91 f91 s91 x42 n_01 s_01 -> if decide (x42 < (↑es.length : Int)) = true then (aB (tX tc tg tj tf
 tp M S n f es n2 f2 ss n91 f91 s91 x42 (0 : Int) x42 x42 n_01 s_01) /\ J3 n91 f91 s91 x42 (0 : Int) x42 x42 n_01 s_01 n91 f91 s91 x42 (0 : Int) x42 x42 n_01 s_01) /\ ∀ (n92 f92 : Bool) (s92 : LL) (x13 x14 x15 x421 : Int) (n_02 : Bool) (s_02 :
 LL), J3 n91 f91 s91 x42 (0 : Int) x42 x42 n_01 s_01 n92 f92 s92 x13 x14 x15 x421 n_02 s_02 -> if decide (x15 < (↑es.length : Int)) = true then aO s_02 x15 1 /\ ∃ n3, (List.drop 0 (s_02.getD x15.toNat [])).head? = some (Z6 n3) /\ if
 decide (i64.wrap (x14 + n3) > (↑s92.length : Int)) = true then aB (tW tc tg tj tf tp M S n f es n2 f2 ss n92 f92 s92 (i64.wrap (x421 + 1)) n_02 s_02) /\ J2 n92 f92 s92 (i64.wrap (x421 + 1)) n_02 s_02 /\ μ2 n92
 f92 s92 (i64.wrap (x421 + 1)) n_02 s_02 < μ2 n91 f91 s91 x42 n_01 s_01 else if (i64.wrap (x14 + n3) == (↑s92.length : Int)) = true then (dI es.length (some x13) (some (i64.wrap (x15 + 1))) none /\ aQ es 1) /\ PCall
 Tryz.prog 78 [PV.ptr [tc, tg, tj, tf, tp, PV.mp M, PV.mp S], PV.sl n (f && decide (i64.wrap (x15 + 1) = (↑es.length : Int))) (List.drop x13.toNat (List.take (i64.wrap (x15 + 1)).toNat es))] fun v1 => ∃ n4, ∃
 (f3 : Bool), ∃ es2, v1 = PV.sl n4 f3 es2 /\ PCall Tryz.prog 70 [PV.sl n4 f3 es2, PV.sl n92 f92 s92] fun v2 => ∃ b, v2 = Zb b /\ if b = true then R (PV.tup [Z6 x13, Z6 (i64.wrap (x15 + 1)), Zb true]) else aB
 (tX tc tg tj tf tp M S n f es n2 f2 ss n92 f92 s92 x13 (i64.wrap (x14 + n3)) (i64.wrap (x15 + 1)) x421 n_02 s_02) /\ J3 n91 f91 s91 x42 (0 : Int) x42 x42 n_01 s_01 n92 f92 s92 x13 (i64.wrap (x14 + n3))
 (i64.wrap (x15 + 1)) x421 n_02 s_02 /\ μ3 n92 f92 s92 x13 (i64.wrap (x14 + n3)) (i64.wrap (x15 + 1)) x421 n_02 s_02 < μ3 n92 f92 s92 x13 x14 x15 x421 n_02 s_02 else aB (tX tc tg tj tf tp M S n f es n2 f2 ss
 n92 f92 s92 x13 (i64.wrap (x14 + n3)) (i64.wrap (x15 + 1)) x421 n_02 s_02) /\ J3 n91 f91 s91 x42 (0 : Int) x42 x42 n_01 s_01 n92 f92 s92 x13 (i64.wrap (x14 + n3)) (i64.wrap (x15 + 1)) x421 n_02 s_02 /\ μ3 n92
 f92 s92 x13 (i64.wrap (x14 + n3)) (i64.wrap (x15 + 1)) x421 n_02 s_02 < μ3 n92 f92 s92 x13 x14 x15 x421 n_02 s_02 else aB (tW tc tg tj tf tp M S n f es n2 f2 ss n92 f92 s92 (i64.wrap (x421 + 1)) n_02 s_02) /\
 J2 n92 f92 s92 (i64.wrap (x421 + 1)) n_02 s_02 /\ μ2 n92 f92 s92 (i64.wrap (x421 + 1)) n_02 s_02 < μ2 n91 f91 s91 x42 n_01 s_01 else R (PV.tup [Z6 0, Z6 0, Zb false])
theorem zrp (tc tg tj tf tp : PV) (M S : List (PV × PV)) (n f : Bool) (es : LL) (n2 f2 : Bool) (ss : LL) (J : Bool -> Bool -> LL -> Int -> Bool -> LL -> Prop) (μ : Bool -> Bool -> LL -> Int -> Bool -> LL -> Nat) (J2 : Bool -> Bool -> LL -> Int -> Bool -> LL -> Prop) (μ2 : Bool -> Bool -> LL -> Int -> Bool -> LL -> Nat) (J3 : Bool -> Bool -> LL -> Int -> Int -> Int -> Int -> Bool -> LL -> Bool -> Bool -> LL -> Int -> Int -> Int -> Int -> Bool -> LL -> Prop) (μ3 : Bool -> Bool -> LL -> Int -> Int -> Int -> Int -> Bool -> LL -> Nat) {R : PV -> Prop} (h : zhh tc tg tj tf tp M S n f es n2 f2 ss J μ J2 μ2 J3 μ3 R) : PCall Tryz.prog 136 [.ptr [tc, tg, tj, tf, tp, .mp M, .mp S], .sl n f es, .sl n2 f2 ss] R :=
 PCall.of Tryz.func136 (by kernel_rfl) (by kernel_rfl) (zl (by kernel_rfl)) (Eq.mpr (by kernel_rfl : aS Tryz.prog (fun _ => none) Tryz.f136 [0, 1, 2, 6, 7, 8, 9, 10, 11, 12, 13, 14, 15, 21, 25, 26, 27, 28, 41, 42, 43, 49, 58, 63] (fun zz_ => match zz_ with | 6 => some ⟨Bool × Bool × LL × Int × Bool × LL, fun s => zQ tc tg tj tf tp M S n f es n2 f2 ss s.1 s.2.1 s.2.2.1 s.2.2.2.1 s.2.2.2.2.1 s.2.2.2.2.2, fun _ s => J s.1 s.2.1 s.2.2.1 s.2.2.2.1 s.2.2.2.2.1 s.2.2.2.2.2, fun s => μ s.1 s.2.1 s.2.2.1 s.2.2.2.1 s.2.2.2.2.1 s.2.2.2.2.2, fun e h => (gN e 9, gF e 9, gS e 9, gI e 27, oN h 0, oS h 0), [], [0, 1, 9, 10, 25, 26, 27], [], fun p => ∀ (n9 f9 : Bool) (s9 : LL) (x27 : Int) (n_0 : Bool) (s_0 : LL), p (n9, f9, s9, x27, n_0, s_0), fun p h s => h s.1 s.2.1 s.2.2.1 s.2.2.2.1 s.2.2.2.2.1 s.2.2.2.2.2⟩ | 11 => some ⟨Bool × Bool × LL × Int × Bool × LL, fun s => tW tc tg tj tf tp M S n f es n2 f2 ss s.1 s.2.1 s.2.2.1 s.2.2.2.1 s.2.2.2.2.1 s.2.2.2.2.2, fun _ s => J2 s.1 s.2.1 s.2.2.1 s.2.2.2.1 s.2.2.2.2.1 s.2.2.2.2.2, fun s => μ2 s.1 s.2.1 s.2.2.1 s.2.2.2.1 s.2.2.2.2.1 s.2.2.2.2.2, fun e h => (gN e 9, gF e 9, gS e 9, gI e 42, oN h 0, oS h 0), [], [0, 1, 9, 10, 41, 42], [], fun p => ∀ (n9 f9 : Bool) (s9 : LL) (x42 : Int) (n_0 : Bool) (s_0 : LL), p (n9, f9, s9, x42, n_0, s_0), fun p h s => h s.1 s.2.1 s.2.2.1 s.2.2.2.1 s.2.2.2.2.1 s.2.2.2.2.2⟩ | 15 => some ⟨Bool × Bool × LL × Int × Int × Int × Int × Bool × LL, fun s => tX tc tg tj tf tp M S n f es n2 f2 ss s.1 s.2.1 s.2.2.1 s.2.2.2.1 s.2.2.2.2.1 s.2.2.2.2.2.1 s.2.2.2.2.2.2.1 s.2.2.2.2.2.2.2.1 s.2.2.2.2.2.2.2.2, fun t s => J3 t.1 t.2.1 t.2.2.1 t.2.2.2.1 t.2.2.2.2.1 t.2.2.2.2.2.1 t.2.2.2.2.2.2.1 t.2.2.2.2.2.2.2.1 t.2.2.2.2.2.2.2.2 s.1 s.2.1 s.2.2.1 s.2.2.2.1 s.2.2.2.2.1 s.2.2.2.2.2.1 s.2.2.2.2.2.2.1 s.2.2.2.2.2.2.2.1 s.2.2.2.2.2.2.2.2, fun s => μ3 s.1 s.2.1 s.2.2.1 s.2.2.2.1 s.2.2.2.2.1 s.2.2.2.2.2.1 s.2.2.2.2.2.2.1 s.2.2.2.2.2.2.2.1 s.2.2.2.2.2.2.2.2, fun e h => (gN e 9, gF e 9, gS e 9, gI e 13, gI e 14, gI e 15, gI e 42, oN h 0, oS h 0), [], [0, 1, 9, 10, 13, 14, 15, 41, 42], [], fun p => ∀ (n9 f9 : Bool) (s9 : LL) (x13 x14 x15 x42 : Int) (n_0 : Bool) (s_0 : LL), p (n9, f9, s9, x13, x14, x15, x42, n_0, s_0), fun p h s => h s.1 s.2.1 s.2.2.1 s.2.2.2.1 s.2.2.2.2.1 s.2.2.2.2.2.1 s.2.2.2.2.2.2.1 s.2.2.2.2.2.2.2.1 s.2.2.2.2.2.2.2.2⟩ | _ => none) (Tryz.f136.body.getD .skip) [.ptr [tc, tg, tj, tf, tp, .mp M, .mp S], .sl n f es, .sl n2 f2 ss] R = _) h)

def zR (n f : Bool) (es : LL) (n2 f2 : Bool) (ss : LL) (n3 f3 : Bool) (s3 : LL) (x9 : Int) : Env × Hp := ([(0, LV.pv (PV.sl n f es)), (1, LV.pv (PV.sl n2 f2 ss)), (2, LV.pv (PV.sl n3 f3 s3)), (9, Y6 x9)], [])
def zS (n f : Bool) (es : LL) (n2 f2 : Bool) (ss : LL) (n3 f3 : Bool) (s3 : LL) (x9 x10 : Int) : Env × Hp := ([(0, LV.pv (PV.sl n f es)), (1, LV.pv (PV.sl n2 f2 ss)), (2, LV.pv (PV.sl n3 f3 s3)), (9, Y6 x9), (10, Y6 x10)], [])
def zhi (n f : Bool) (es : LL) (n2 f2 : Bool) (ss : LL) (n3 f3 : Bool) (s3 : LL) (J : Int -> Prop) (μ : Int -> Nat) (J2 : Int -> Int -> Int -> Int -> Prop) (μ2 : Int -> Int -> Nat) (R : PV -> Prop) : Prop :=
 (aB (zR n f es n2 f2 ss n3 f3 s3 (0 : Int)) /\ J (0 : Int)) /\ ∀ (x9 : Int), J x9 -> if decide (x9 <= (↑ss.length : Int)) = true then (aB (zS n f es n2 f2 ss n3 f3 s3 x9 x9) /\ J2 x9 x9 x9 x9) /\ ∀ (x91 x10 : Int), J2 x9 x9 x91 x10 ->
 if decide (x10 <= (↑ss.length : Int)) = true then (dI ss.length (some x91) (some x10) none /\ aQ ss 1) /\ PCall Tryz.prog 65 [PV.sl n f es, PV.sl n2 (f2 && decide (x10 = (↑ss.length : Int))) (List.drop x91.toNat (List.take x10.toNat ss)),
 PV.sl n3 f3 s3] fun v => ∃ b, v = Zb b /\ if b = true then R (PV.tup [Z6 x91, Z6 x10, Zb true]) else aB (zS n f es n2 f2 ss n3 f3 s3 x91 (i64.wrap (x10 + 1))) /\ J2 x9 x9 x91 (i64.wrap (x10 + 1)) /\ μ2 x91
 (i64.wrap (x10 + 1)) < μ2 x91 x10 else aB (zR n f es n2 f2 ss n3 f3 s3 (i64.wrap (x91 + 1))) /\ J (i64.wrap (x91 + 1)) /\ μ (i64.wrap (x91 + 1)) < μ x9 else R (PV.tup [Z6 0, Z6 0, Zb false])
theorem zrq (n f : Bool) (es : LL) (n2 f2 : Bool) (ss : LL) (n3 f3 : Bool) (s3 : LL) (J : Int -> Prop) (μ : Int -> Nat) (J2 : Int -> Int -> Int -> Int -> Prop) (μ2 : Int -> Int -> Nat) {R : PV -> Prop} (h : zhi n f es n2 f2 ss n3 f3 s3 J μ J2 μ2 R) : PCall Tryz.prog 20 [.sl n f es, .sl n2 f2 ss, .sl n3 f3 s3] R :=
 PCall.of Tryz.func20 (by kernel_rfl) (by kernel_rfl) (zl (by kernel_rfl)) (Eq.mpr (by kernel_rfl : aS Tryz.prog (fun _ => none) Tryz.f20 [0, 1, 2, 6, 7, 8, 9, 10, 14, 21, 30] (fun zz_ => match zz_ with | 2 => some ⟨Int × Unit, fun s => zR n f es n2 f2 ss n3 f3 s3 s.1, fun _ s => J s.1, fun s => μ s.1, fun e h => (((gI e 9), ())), [], [0, 1, 2, 9], [], fun p => ∀ (x9 : Int), p (x9, ()), fun p h s => h s.1⟩ | 5 => some ⟨Int × Int, fun s => zS n f es n2 f2 ss n3 f3 s3 s.1 s.2, fun t s => J2 t.1 t.2 s.1 s.2, fun s => μ2 s.1 s.2, fun e h => (gI e 9, gI e 10), [], [0, 1, 2, 9, 10], [], fun p => ∀ (x9 x10 : Int), p (x9, x10), fun p h s => h s.1 s.2⟩ | _ => none) (Tryz.f20.body.getD .skip) [.sl n f es, .sl n2 f2 ss, .sl n3 f3 s3] R = _) h)

end Go.Eng



namespace Go.Eng
open Go Go.Proofs Go.Eng.Rows Go.Eng.Trie Go.Eng.Srt
def zhj : Option (Nat × Nat) -> PV
 | some (a, b) => .tup [.int .i64 a, .int .i64 b, .bool true]
 | none => .tup [.int .i64 0, .int .i64 0, .bool false]
def fP (rows : List Row) (L : List Int) (i : Nat) : List (List PV) := (L.take i).map (fun r => [PV.int .i64 (aP rows 8 r).length]) ++ List.replicate (L.length - i) [PV.int .i64 0]
section
variable {rows : List Row} {v : PV}
theorem zhk {L : List Int} {i : Nat} (h : i <= L.length) : (fP rows L i).length = L.length := by
 unfold fP
 rw [List.length_append, List.length_map, List.length_take, List.length_replicate]; omega
theorem zrr {L : List Int} {i : Nat} (h : i < L.length) : (fP rows L i).getD i [] = [PV.int .i64 0] := by
 unfold fP
 rw [List.getD, List.getElem?_append_right (by rw [List.length_map, List.length_take]; omega), List.length_map, List.length_take, List.getElem?_replicate, if_pos (by omega)]; rfl
theorem zrs {L : List Int} {i : Nat} (h : i < L.length) : (fP rows L i).set i [PV.int .i64 (aP rows 8 L[i]).length] = fP rows L (i + 1) := by
 unfold fP
 rw [List.set_append_right _ _ (by rw [List.length_map, List.length_take]; omega), List.length_map, List.length_take, zg7 h, List.map_append, List.append_assoc]
 congr 1
 rw [show i - min i L.length = 0 by omega, show L.length - i = (L.length - (i + 1)) + 1 by omega, List.replicate_succ, List.set_cons_zero]; rfl
theorem zrt {L : List Int} {i : Nat} (h : i < L.length) : (fP rows L L.length).getD i [] = [PV.int .i64 (aP rows 8 L[i]).length] := by
 unfold fP
 rw [Nat.sub_self, List.replicate_zero, List.append_nil, List.take_length, List.getD, List.getElem?_map, List.getElem?_eq_getElem h]; rfl
theorem zru (rows : List Row) (L : List Int) : findL rows L [] = some (0, 0) := by
 unfold Rows.findL
 rw [fN, Nat.sub_zero, jV, if_pos (by unfold eC; rw [zN]; exact decide_eq_true rfl)]
theorem zrv (es : List (List PV)) (k : Nat) (w x : PV) (h : es.getD k [] = [x]) : es.set k (w :: zq (List.drop 1 (es.getD k []))) = es.set k [w] := by rw [h]; rfl
theorem zhl {L : List Int} (h : R32 L) (i j : Nat) : R32 (eQ L i j) := fun x hx => h x (List.mem_of_mem_take (List.mem_of_mem_drop hx))
theorem zrw (hp : bX rows) (hk : cK rows) (hv : fM rows v) (n f n2 f2 : Bool) (L P : List Int) (hr : R32 L) (hL : L.length < 100000) (hr2 : R32 P) (hL2 : P.length < 1000000) :
 PCall Tryz.prog 136 [v, .sl n f (aA L), .sl n2 f2 (aA P)] fun x => x = zhj (findL rows L (bV rows P)) := by
 have hv' := hv
 obtain ⟨tc, tg, tj, tf, tp, made, sec, rfl, ht, hm⟩ := hv
 have hwl := zgu hk P
 refine zrp _ _ _ _ _ _ _ _ _ _ _ _ _
  (fun _ _ s i _ z => s = aA (bV rows P) /\ (0 <= i /\ i <= L.length) /\ z = fP rows L i.toNat) (fun _ _ _ i _ _ => L.length - i.toNat)
  (fun _ _ s i _ z => s = aA (bV rows P) /\ (0 <= i /\ i <= L.length) /\ z = fP rows L L.length /\ findL rows L (bV rows P) = fN rows L (bV rows P) i.toNat (L.length + 1 - i.toNat)) (fun _ _ _ i _ _ => L.length - i.toNat)
  (fun _ _ _ y13 _ _ _ _ _ _ _ s x13 x14 x15 x42 _ z => (y13 = x13 /\ y13 = x42) /\ s = aA (bV rows P) /\ (0 <= y13 /\ y13 < L.length /\ y13 <= x15 /\ x15 <= L.length) /\ z = fP rows L L.length /\ x14 = (dP rows L y13.toNat x15.toNat : Nat) /\ findL rows L (bV rows P) = fO rows L (bV rows P) y13.toNat (x15.toNat + 1)) (fun _ _ _ _ _ x15 _ _ _ => L.length - x15.toNat) ?_
 unfold zhh
 refine (zgz hp hk hv' n2 f2 P hr2 hL2).mono ?_
 rintro _ ⟨n1, f1, rfl⟩
 refine ⟨_, _, _, rfl, aF (fun hc => ?_) (fun hc => ?_)⟩
 ·simp only [beq_iff_eq, a8] at hc
  have : bV rows P = [] := List.eq_nil_of_length_eq_zero (by omega)
  rw [this, zru]; rfl
 simp only [beq_iff_eq, a8] at hc
 have hw0 : bV rows P ≠ [] := fun e => by rw [e] at hc; exact hc rfl
 generalize hwant : bV rows P = want at *
 have hl8 : ((aA L).length : Int) = L.length := by rw [a8]
 rw [hl8]
 refine ⟨⟨by omega, Int.le_refl _, by omega, by omega⟩, ⟨rfl, rfl, ⟨Int.le_refl _, by omega⟩, ?_⟩, ?_⟩
 ·unfold fP; simp
 rintro n9 f9 _ i n0 _ ⟨rfl, ⟨i0, i1⟩, rfl⟩
 refine aF (fun hc => ?_) (fun hc => ?_)
 ·simp only [decide_eq_true_eq] at hc
  have hi : i.toNat < L.length := by omega
  obtain ⟨g1, g2⟩ := kR i0 hi
  have hx := hr _ (List.getElem_mem hi)
  have hw : i64.wrap (i + 1) = i + 1 := aD (by omega) (by omega)
  have hzl := zhk (rows := rows) (L := L) (i := i.toNat) (by omega)
  have hzg := zrr (rows := rows) hi
  refine ⟨g1, L[i.toNat], by rw [g2]; rfl, ?_⟩
  refine (zro hp hv' hx).mono ?_
  rintro _ ⟨n3, rfl⟩
  rw [hw]
  refine ⟨_, _, _, rfl, ⟨i0, by rw [hzl]; omega, by rw [hzg]; rfl⟩, ⟨rfl, by rw [hzg]; exact Nat.le_refl _⟩, rfl, ⟨rfl, by omega, ?_⟩, by dsimp only; omega⟩
  ·rw [zrv _ _ _ _ hzg, show (i + 1).toNat = i.toNat + 1 by omega, <- zrs hi, a8]
 ·simp only [decide_eq_true_eq] at hc
  have hie : i.toNat = L.length := by omega
  rw [hie]
  refine ⟨⟨rfl, rfl, ⟨Int.le_refl _, by omega⟩, rfl, rfl⟩, ?_⟩
  clear hc hie i0 i1 i
  rintro n4 f4 _ i n5 _ ⟨rfl, ⟨i0, i1⟩, rfl, hf⟩
  refine aF (fun hc => ?_) (fun hc => ?_)
  ·simp only [decide_eq_true_eq] at hc
   have hz0 : dP rows L i.toNat i.toNat = 0 := by unfold dP; rw [zN]; rfl
   refine ⟨⟨rfl, ⟨rfl, rfl⟩, rfl, ⟨i0, hc, Int.le_refl _, i1⟩, rfl, by rw [hz0]; rfl, by rw [hf]; exact zha hw0 (by omega)⟩, ?_⟩
   rintro n6 f6 _ _ _ j _ n7 _ ⟨⟨rfl, rfl⟩, rfl, ⟨_, _, j0, j1⟩, rfl, rfl, hf2⟩
   have hw : i64.wrap (i + 1) = i + 1 := aD (by omega) (by omega)
   rw [hw]
   have nextI : (∀ k, j.toNat + 1 + k <= L.length -> eC rows L want i.toNat (j.toNat + 1 + k) = false) -> findL rows L want = fN rows L want (i + 1).toNat (L.length + 1 - (i + 1).toNat) := fun h => by
    rw [hf2, zP h, show (i + 1).toNat = i.toNat + 1 by omega]
   refine aF (fun hc2 => ?_) (fun hc2 => ?_)
   ·simp only [decide_eq_true_eq] at hc2
    have hj : j.toNat < L.length := by omega
    have hzl := zhk (rows := rows) (L := L) (i := L.length) (Nat.le_refl _)
    have hzg := zrt (rows := rows) hj
    have hsn := zg8 rows (L := L) (a := i.toNat) (b := j.toNat) (by omega) hj
    have hle := zri rows L i.toNat (j.toNat + 1)
    have hwn : i64.wrap ((dP rows L i.toNat j.toNat : Nat) + ((aP rows 8 L[j.toNat]).length : Int)) = (dP rows L i.toNat (j.toNat + 1) : Nat) := by
     rw [hsn]
     have : ((dP rows L i.toNat j.toNat : Nat) : Int) + ((aP rows 8 L[j.toNat]).length : Int) = ((dP rows L i.toNat j.toNat + (aP rows 8 L[j.toNat]).length : Nat) : Int) := by omega
     rw [this]; exact aD (by omega) (by omega)
    have hwj : i64.wrap (j + 1) = j + 1 := aD (by omega) (by omega)
    refine ⟨⟨by omega, by rw [hzl]; omega, by rw [hzg]; rfl⟩, (aP rows 8 L[j.toNat]).length, by rw [hzg]; rfl, ?_⟩
    rw [hwn, hwj, a8]
    have nextJ : eC rows L want i.toNat (j.toNat + 1) = false -> findL rows L want = fO rows L want i.toNat ((j + 1).toNat + 1) := fun h => by
     rw [hf2, zhb (by omega) h, show (j + 1).toNat = j.toNat + 1 by omega]
    have hj1 : (j + 1).toNat = j.toNat + 1 := by omega
    refine aF (fun h3 => ?_) (fun h3 => ?_)
    ·simp only [gt_iff_lt, decide_eq_true_eq] at h3
     exact ⟨rfl, ⟨rfl, ⟨by omega, by omega⟩, rfl, nextI fun k hk2 => zrj hk (by omega) (by omega) k hk2⟩, by dsimp only; omega⟩
    ·simp only [gt_iff_lt, decide_eq_true_eq] at h3
     refine aF (fun h4 => ?_) (fun h4 => ?_)
     ·simp only [beq_iff_eq] at h4
      rw [zhe, hj1]
      refine ⟨⟨zhd (by omega) (by omega) (by rw [a8]; omega), cV _⟩, ?_⟩
      have hsl := zhf L i.toNat (j.toNat + 1)
      have hnl := zO hk L i.toNat (j.toNat + 1)
      refine (zgz hp hk hv' _ _ _ (zhl hr _ _) (by omega)).mono ?_
      rintro _ ⟨n8, f8, rfl⟩
      refine ⟨_, _, _, rfl, ?_⟩
      refine (zq0 _ _ _ _ _ _ (by omega)).mono ?_
      rintro _ rfl
      refine ⟨_, rfl, aF (fun h5 => ?_) (fun h5 => ?_)⟩
      ·rw [hf2, zhc (by omega) h5]
       show _ = PV.tup [.int .i64 (i.toNat : Int), .int .i64 ((j.toNat + 1 : Nat) : Int), .bool true]
       rw [show (i.toNat : Int) = i by omega, show ((j.toNat + 1 : Nat) : Int) = j + 1 by omega]
      ·exact ⟨rfl, ⟨⟨rfl, rfl⟩, rfl, ⟨i0, hc, by omega, by omega⟩, rfl, by rw [hj1], nextJ (by simpa [eC] using h5)⟩, by dsimp only; omega⟩
     ·simp only [beq_iff_eq] at h4
      exact ⟨rfl, ⟨⟨rfl, rfl⟩, rfl, ⟨i0, hc, by omega, by omega⟩, rfl, by rw [hj1], nextJ (zrk hk (by omega))⟩, by dsimp only; omega⟩
   ·simp only [decide_eq_true_eq] at hc2
    exact ⟨rfl, ⟨rfl, ⟨by omega, by omega⟩, rfl, nextI fun k hk2 => by omega⟩, by dsimp only; omega⟩
  ·simp only [decide_eq_true_eq] at hc
   have hie : i.toNat = L.length := by omega
   rw [hf, hie, zrm hw0]; rfl
theorem zrx (hp : bX rows) (hk : cK rows) (n f n2 f2 n3 f3 : Bool) (hl : rows.length < 1000000) (L P : List Int) (hr : R32 L) (hL : L.length < 100000) (hr2 : R32 P) (hL2 : P.length < 1000000) :
 PCall Tryz.prog 20 [.sl n f (bD rows), .sl n2 f2 (aA L), .sl n3 f3 (aA P)] fun x => x = zhj (findL rows L (bV rows P)) := by
 refine zrq _ _ _ _ _ _ _ _ _
  (fun i => (0 <= i /\ i <= L.length + 1) /\ findL rows L (bV rows P) = fN rows L (bV rows P) i.toNat (L.length + 1 - i.toNat)) (fun i => L.length + 1 - i.toNat)
  (fun y _ x9 x10 => y = x9 /\ (0 <= y /\ y <= L.length /\ y <= x10 /\ x10 <= L.length + 1) /\ findL rows L (bV rows P) = fO rows L (bV rows P) y.toNat x10.toNat) (fun _ x10 => L.length + 1 - x10.toNat) ?_
 unfold zhi
 have hl8 : ((aA L).length : Int) = L.length := by rw [a8]
 rw [hl8]
 refine ⟨⟨rfl, ⟨Int.le_refl _, by omega⟩, rfl⟩, ?_⟩
 rintro i ⟨⟨i0, i1⟩, hf⟩
 refine aF (fun hc => ?_) (fun hc => ?_)
 ·simp only [decide_eq_true_eq] at hc
  have hst : fN rows L (bV rows P) i.toNat (L.length + 1 - i.toNat) = fO rows L (bV rows P) i.toNat i.toNat := by
   rw [show L.length + 1 - i.toNat = (L.length - i.toNat) + 1 by omega, fN]; rfl
  refine ⟨⟨rfl, rfl, ⟨i0, hc, Int.le_refl _, by omega⟩, by rw [hf, hst]⟩, ?_⟩
  rintro _ j ⟨rfl, ⟨_, _, j0, j1⟩, hf2⟩
  have hw : i64.wrap (i + 1) = i + 1 := aD (by omega) (by omega)
  have hwj : i64.wrap (j + 1) = j + 1 := aD (by omega) (by omega)
  rw [hw, hwj]
  refine aF (fun hc2 => ?_) (fun hc2 => ?_)
  ·simp only [decide_eq_true_eq] at hc2
   have hsl := zhf L i.toNat j.toNat
   rw [zhe]
   refine ⟨⟨zhd i0 j0 (by rw [a8]; omega), cV _⟩, ?_⟩
   refine (zq5 hp hk _ _ _ _ _ _ hl _ _ (zhl hr _ _) hr2 (by omega) hL2).mono ?_
   rintro _ rfl
   refine ⟨_, rfl, aF (fun h5 => ?_) (fun h5 => ?_)⟩
   ·rw [hf2, zhc (by omega) h5]
    show _ = PV.tup [.int .i64 (i.toNat : Int), .int .i64 (j.toNat : Int), .bool true]
    rw [show (i.toNat : Int) = i by omega, show (j.toNat : Int) = j by omega]
   ·refine ⟨rfl, ⟨rfl, ⟨i0, hc, by omega, by omega⟩, ?_⟩, by dsimp only; omega⟩
    rw [hf2, zhb (by omega) (by simpa [eC] using h5), show (j + 1).toNat = j.toNat + 1 by omega]
  ·simp only [decide_eq_true_eq] at hc2
   refine ⟨rfl, ⟨⟨by omega, by omega⟩, ?_⟩, by dsimp only; omega⟩
   rw [hf2, zP fun k hk2 => by omega, show (i + 1).toNat = i.toNat + 1 by omega]
 ·simp only [decide_eq_true_eq] at hc
  rw [hf, show L.length + 1 - i.toNat = 0 by omega]; rfl
end
theorem f3' : findL tab [233] (bV tab [101]) = none := by kernel_rfl
end Go.Eng



namespace Go.Eng.Srt
open Go Go.Eng
section
variable {key : Int -> Int} (hk : ∀ x, 0 <= key x)
include hk
end
end Go.Eng.Srt
namespace Go.Eng.Rows
open Go Go.Eng Go.Eng.Trie Go.Eng.Srt
section
variable {rows : List Row}
def CSt.pre (Q : List Int) (st : CSt) : CSt := ⟨Q ++ st.P, st.s, st.M⟩
end
end Go.Eng.Rows



namespace Go.Eng.Rows
open Go Go.Eng Go.Eng.Trie Go.Eng.Srt
theorem drop_cons {L : List Int} {b : Nat} (h : b < L.length) : L.drop b = L.getD b 0 :: L.drop (b + 1) := by
 rw [List.drop_eq_getElem_cons h]
 simp only [List.getD, List.getElem?_eq_getElem h, Option.getD_some]
section
variable {rows : List Row}
end
end Go.Eng.Rows



namespace Go.Eng.Rows
open Go Go.Eng Go.Eng.Trie Go.Eng.Srt
def eD (s : Int) : Int := if 0 < s then 1 else -1
section
variable (p : List Int -> Option (Nat × Nat)) (ls : List (List Int)) (s : Int)
def eZ : Nat -> Int -> Option (Nat × Nat)
 | 0, _ => none
 | k + 1, i => if 0 <= i /\ i < ls.length then match p (ls.getD i.toNat []) with
  | some q => some (i.toNat, q.1)
  | none => if s = 0 then none else eZ k (i + eD s)
   else none
def dK (i : Int) : Option (Nat × Nat) := eZ p ls s (ls.length + 1) i
end
def mF (n : Nat) (s i : Int) : Nat := if 0 <= i /\ i < n then (if 0 < s then (n - i).toNat else (i + 1).toNat) else 0
theorem qJ {n : Nat} {s i : Int} (h : 0 <= i /\ i < n) : mF n s (i + eD s) < mF n s i /\ mF n s i <= n := by
 unfold mF eD
 rw [if_pos h]
 by_cases h1 : 0 < s
 ·simp only [if_pos h1]
  by_cases h2 : 0 <= i + 1 /\ i + 1 < n
  ·rw [if_pos h2]; omega
  ·rw [if_neg h2]; omega
 ·simp only [if_neg h1]
  by_cases h2 : 0 <= i + -1 /\ i + -1 < n
  ·rw [if_pos h2]; omega
  ·rw [if_neg h2]; omega
section
variable {p : List Int -> Option (Nat × Nat)} {ls : List (List Int)} {s : Int}
theorem zhm : ∀ (k : Nat) (i : Int), mF ls.length s i <= k -> eZ p ls s k i = eZ p ls s (k + 1) i
 | 0, i, h => by
   rw [eZ, eZ]
   by_cases hi : 0 <= i /\ i < ls.length
   ·have := (qJ (s := s) hi).1; omega
   ·rw [if_neg hi]
 | k + 1, i, h => by
   rw [eZ, eZ]
   by_cases hi : 0 <= i /\ i < ls.length
   ·rw [if_pos hi, if_pos hi]
    cases p (ls.getD i.toNat []) with
    | some q => rfl
    | none =>
      dsimp only
      rw [zhm k _ (by have := (qJ (s := s) hi).1; omega)]
   ·rw [if_neg hi, if_neg hi]
theorem zT {i : Int} (h : ¬(0 <= i /\ i < ls.length)) : dK p ls s i = none := by unfold dK; rw [eZ, if_neg h]
theorem zhn {i : Int} (h : 0 <= i /\ i < ls.length) {q : Nat × Nat} (hq : p (ls.getD i.toNat []) = some q) : dK p ls s i = some (i.toNat, q.1) := by
 unfold dK; rw [eZ, if_pos h, hq]
theorem zho {i : Int} (h : 0 <= i /\ i < ls.length) (hq : p (ls.getD i.toNat []) = none) (hs : s = 0) : dK p ls s i = none := by
 unfold dK; rw [eZ, if_pos h, hq]; exact if_pos hs
theorem zhp {i : Int} (h : 0 <= i /\ i < ls.length) (hq : p (ls.getD i.toNat []) = none) (hs : s ≠ 0) : dK p ls s i = dK p ls s (i + eD s) := by
 unfold dK
 rw [<- zhm ls.length (i + eD s) (by have := qJ (s := s) h; omega)]
 rw [eZ, if_pos h, hq]; exact if_neg hs
theorem zhq : ∀ {k : Nat} {i : Int} {a b : Nat}, eZ p ls s k i = some (a, b) -> a < ls.length /\ ∃ c, p (ls.getD a []) = some (b, c)
 | 0, i, a, b, h => by cases h
 | k + 1, i, a, b, h => by
   rw [eZ] at h
   split at h
   ·rename_i hi
    split at h
    ·rename_i q hq
     cases h
     exact ⟨by omega, q.2, hq⟩
    ·split at h
     ·cases h
     ·exact zhq h
   ·cases h
end
section
variable (p : List Int -> Option (Nat × Nat)) (L : List Int)
end
def Inc (n : Nat) : Nat -> List (Nat × Nat) -> Prop
 | i, [] => i <= n
 | i, (a, b) :: ps => i <= a /\ a < b /\ Inc n b ps
theorem Inc.le {n : Nat} : ∀ {ps : List (Nat × Nat)} {i : Nat}, Inc n i ps -> i <= n
 | [], i, h => h
 | (a, b) :: ps, i, h => by have := h.2.2.le; have := h.1; have := h.2.1; omega
theorem Inc.len {n : Nat} : ∀ {ps : List (Nat × Nat)} {i : Nat}, Inc n i ps -> ps.length + i <= n
 | [], i, h => by have : i <= n := h; simpa using this
 | (a, b) :: ps, i, h => by have := h.2.2.len; have := h.1; have := h.2.1; rw [List.length_cons]; omega
section
variable {p : List Int -> Option (Nat × Nat)} {L : List Int}
end
end Go.Eng.Rows



namespace Go.Eng
open Go Go.Proofs
def zU (tc tg tj tf tp : PV) (M S : List (PV × PV)) (n f : Bool) (es : LL) (i j : Int) (n2 f2 : Bool) (ss : LL) (x2 : Int) : Env × Hp := ([(0, LV.pv (PV.ptr [tc, tg, tj, tf, tp, PV.mp M, PV.mp S])), (1, LV.pv (PV.sl n f es)), (2, Y6 x2), (3, LV.pv (PV.int i64 (if 1 < if j < -1 then -1 else j then 1 else if j < -1 then -1 else j))), (4, LV.pv (PV.sl n2 f2 ss))], [])
def zhr (tc tg tj tf tp : PV) (M S : List (PV × PV)) (n f : Bool) (es : LL) (i j : Int) (n2 f2 : Bool) (ss : LL) (J : Int -> Prop) (μ : Int -> Nat) (R : PV -> Prop) : Prop :=
 (aB (zU tc tg tj tf tp M S n f es i j n2 f2 ss i) /\ J i) /\ ∀ (x2 : Int), J x2 -> if (decide (x2 >= 0) && decide (x2 < (↑es.length : Int))) = true then aO es x2 1 /\ ∃ n1 f1 es1, (es.getD x2.toNat
 []).head? = some (PV.sl n1 f1 es1) /\ PCall Tryz.prog 136 [PV.ptr [tc, tg, tj, tf, tp, PV.mp M, PV.mp S], PV.sl n1 f1 es1, PV.sl n2 f2 ss] fun v => ∃ vs, v = PV.tup vs /\ vs.length = 3 /\ ∃ x, vs.head? = some x /\ ∃ (n3
 : Int), x = Z6 n3 /\ ∃ x1, vs.tail.head? = some x1 /\ ∃ n4, x1 = Z6 n4 /\ ∃ x3, vs.tail.tail.head? = some x3 /\ ∃ b, x3 = Zb b /\ if b = true then R (PV.tup [Z6 x2, Z6 n3, Zb true]) else if ((if (1 : Int) < if j <
 (-1 : Int) then (-1 : Int) else j then (1 : Int) else if j < (-1 : Int) then (-1 : Int) else j) == 0) = true then R (PV.tup [Z6 0, Z6 0, Zb false]) else aB (zU tc tg tj tf tp M S n f es i j n2 f2 ss (i64.wrap (x2 + if (1 :
 Int) < if j < (-1 : Int) then (-1 : Int) else j then (1 : Int) else if j < (-1 : Int) then (-1 : Int) else j))) /\ J (i64.wrap (x2 + if (1 : Int) < if j < (-1 : Int) then (-1 : Int) else j then (1 : Int) else if j < (-1 : Int) then
 (-1 : Int) else j)) /\ μ (i64.wrap (x2 + if (1 : Int) < if j < (-1 : Int) then (-1 : Int) else j then (1 : Int) else if j < (-1 : Int) then (-1 : Int) else j)) < μ x2 else R (PV.tup [Z6 0, Z6 0, Zb false])
theorem zry (tc tg tj tf tp : PV) (M S : List (PV × PV)) (n f : Bool) (es : LL) (i j : Int) (n2 f2 : Bool) (ss : LL) (J : Int -> Prop) (μ : Int -> Nat) {R : PV -> Prop} (h : zhr tc tg tj tf tp M S n f es i j n2 f2 ss J μ R) : PCall Tryz.prog 103 [.ptr [tc, tg, tj, tf, tp, .mp M, .mp S], .sl n f es, .int .i64 i, .int .i64 j, .sl n2 f2 ss] R :=
 PCall.of Tryz.func103 (by kernel_rfl) (by kernel_rfl) (zl (by kernel_rfl)) (Eq.mpr (by kernel_rfl : aS Tryz.prog (fun _ => none) Tryz.f103 [0, 1, 2, 3, 4, 10, 11, 12, 13, 15, 26, 38, 42] (fun zz_ => match zz_ with | 2 => some ⟨Int × Unit, fun s => zU tc tg tj tf tp M S n f es i j n2 f2 ss s.1, fun _ s => J s.1, fun s => μ s.1, fun e h => (((gI e 2), ())), [], [0, 1, 2, 3, 4], [], fun p => ∀ (x2 : Int), p (x2, ()), fun p h s => h s.1⟩ | _ => none) (Tryz.f103.body.getD .skip) [.ptr [tc, tg, tj, tf, tp, .mp M, .mp S], .sl n f es, .int .i64 i, .int .i64 j, .sl n2 f2 ss] R = _) h)

def tY (n f : Bool) (es : LL) (n2 f2 : Bool) (ss : LL) (i j : Int) (n3 f3 : Bool) (s3 : LL) (x13 : Int) : Env × Hp := ([(0, LV.pv (PV.sl n f es)), (1, LV.pv (PV.sl n2 f2 ss)), (3, Y6 j), (4, LV.pv (PV.sl n3 f3 s3)), (13, Y6 x13)], [])
def zhs (n f : Bool) (es : LL) (n2 f2 : Bool) (ss : LL) (i j : Int) (n3 f3 : Bool) (s3 : LL) (J : Int -> Prop) (μ : Int -> Nat) (R : PV -> Prop) : Prop :=
 if (decide (i < 0) || decide (i >= (↑ss.length : Int))) = true then R (PV.tup [Z6 0, Z6 0, Zb false]) else (aB (tY n f es n2 f2 ss i j n3 f3 s3 i) /\ J i) /\ ∀ (x13 : Int), J x13 -> if (decide (x13 >= 0) && decide (x13 < (↑ss.length :
 Int))) = true then aO ss x13 1 /\ ∃ n1 f1 es1, (ss.getD x13.toNat []).head? = some (PV.sl n1 f1 es1) /\ PCall Tryz.prog 20 [PV.sl n f es, PV.sl n1 f1 es1, PV.sl n3 f3 s3] fun v => ∃ vs, v =
 PV.tup vs /\ vs.length = (3 : Nat) /\ ∃ x, vs.head? = some x /\ ∃ n4, x = Z6 n4 /\ ∃ x1, vs.tail.head? = some x1 /\ ∃ n5, x1 = Z6 n5 /\ ∃ x2, vs.tail.tail.head? = some x2 /\ ∃ b, x2 = Zb b /\ if b =
 true then R (PV.tup [Z6 x13, Z6 n4, Zb true]) else if (j == 0) = true then R (PV.tup [Z6 0, Z6 0, Zb false]) else if decide (j > 0) = true then aB (tY n f es n2 f2 ss i j n3 f3 s3 (i64.wrap (x13 + 1))) /\ J (i64.wrap
 (x13 + 1)) /\ μ (i64.wrap (x13 + 1)) < μ x13 else aB (tY n f es n2 f2 ss i j n3 f3 s3 (i64.wrap (x13 - 1))) /\ J (i64.wrap (x13 - 1)) /\ μ (i64.wrap (x13 - 1)) < μ x13 else R (PV.tup [Z6 0, Z6 0, Zb
 false])
theorem zrz (n f : Bool) (es : LL) (n2 f2 : Bool) (ss : LL) (i j : Int) (n3 f3 : Bool) (s3 : LL) (J : Int -> Prop) (μ : Int -> Nat) {R : PV -> Prop} (h : zhs n f es n2 f2 ss i j n3 f3 s3 J μ R) : PCall Tryz.prog 104 [.sl n f es, .sl n2 f2 ss, .int .i64 i, .int .i64 j, .sl n3 f3 s3] R :=
 PCall.of Tryz.func104 (by kernel_rfl) (by kernel_rfl) (zl (by kernel_rfl)) (Eq.mpr (by kernel_rfl : aS Tryz.prog (fun _ => none) Tryz.f104 [0, 1, 2, 3, 4, 10, 11, 12, 13, 14, 16, 24, 33, 45, 49, 51] (fun zz_ => match zz_ with | 4 => some ⟨Int × Unit, fun s => tY n f es n2 f2 ss i j n3 f3 s3 s.1, fun _ s => J s.1, fun s => μ s.1, fun e h => (((gI e 13), ())), [], [0, 1, 3, 4, 13], [], fun p => ∀ (x13 : Int), p (x13, ()), fun p h s => h s.1⟩ | _ => none) (Tryz.f104.body.getD .skip) [.sl n f es, .sl n2 f2 ss, .int .i64 i, .int .i64 j, .sl n3 f3 s3] R = _) h)

end Go.Eng



namespace Go.Eng
open Go Go.Proofs Go.Eng.Rows Go.Eng.Trie Go.Eng.Srt
def c4 (p : Bool × Bool × List Int) : List PV := [.sl p.1 p.2.1 (aA p.2.2)]
def bS (ls : List (Bool × Bool × List Int)) : List (List Int) := ls.map fun p => p.2.2
def fQ (rows : List Row) (P l : List Int) : Option (Nat × Nat) := findL rows l (bV rows P)
def zht : Option (Nat × Nat) -> PV
 | some (a, b) => .tup [.int .i64 a, .int .i64 b, .bool true]
 | none => .tup [.int .i64 0, .int .i64 0, .bool false]
theorem nP (ls : List (Bool × Bool × List Int)) : (bS ls).length = ls.length := by simp [bS]
theorem zhu {ls : List (Bool × Bool × List Int)} {i : Nat} (h : i < ls.length) : (bS ls).getD i [] = ls[i].2.2 := by
 unfold bS
 rw [List.getD, List.getElem?_map, List.getElem?_eq_getElem h]; rfl
theorem zV {ls : List (Bool × Bool × List Int)} {i : Int} (h0 : 0 <= i) (h : i.toNat < ls.length) : aO (ls.map c4) i 1 /\ (ls.map c4).getD i.toNat [] = c4 ls[i.toNat] :=
 ⟨bK (enc := c4) (fun _ => rfl) h0 (by omega), bZ h⟩
structure e8 (ls : List (Bool × Bool × List Int)) : Prop where
 n : ls.length < 100000
 r : ∀ q ∈ ls, R32 q.2.2
 l : ∀ q ∈ ls, q.2.2.length < 100000
section
variable {rows : List Row} {v : PV}
theorem zr0 (j : Int) : (j = 0 /\ (if (1 : Int) < (if j < (-1 : Int) then (-1 : Int) else j) then (1 : Int) else if j < (-1 : Int) then (-1 : Int) else j) = 0) ∨ (j ≠ 0 /\ (if (1 : Int) < (if j < (-1 : Int) then (-1 : Int) else j) then (1 : Int) else if j < (-1 : Int) then (-1 : Int) else j) = eD j) := by
 unfold eD
 by_cases h0 : j = 0
 ·subst h0; exact .inl ⟨rfl, rfl⟩
 ·refine .inr ⟨h0, ?_⟩
  split <;> split <;> split <;> omega
theorem zr1 (hp : bX rows) (hk : cK rows) (hv : fM rows v) (n f n2 f2 : Bool) (ls : List (Bool × Bool × List Int)) (hls : e8 ls) (P : List Int) (hr2 : R32 P) (hL2 : P.length < 1000000) (i j : Int) :
 PCall Tryz.prog 103 [v, .sl n f (ls.map c4), .int .i64 i, .int .i64 j, .sl n2 f2 (aA P)] fun x => x = zht (dK (fQ rows P) (bS ls) j i) := by
 have hv' := hv
 obtain ⟨tc, tg, tj, tf, tp, made, sec, rfl, ht, hm⟩ := hv
 refine zry _ _ _ _ _ _ _ _ _ _ _ _ _ _ _ (fun x => dK (fQ rows P) (bS ls) j x = dK (fQ rows P) (bS ls) j i) (fun x => mF (bS ls).length j x) ?_
 unfold zhr
 refine ⟨⟨rfl, rfl⟩, ?_⟩
 intro x hx
 rw [<- hx]
 have hc := zr0 j
 generalize (if (1 : Int) < (if j < (-1 : Int) then (-1 : Int) else j) then (1 : Int) else if j < (-1 : Int) then (-1 : Int) else j) = c at *
 refine aF (fun h1 => ?_) (fun h1 => ?_)
 ·simp only [Bool.and_eq_true, decide_eq_true_eq, List.length_map, ge_iff_le] at h1
  have hi : x.toNat < ls.length := by omega
  have hin : 0 <= x /\ x < ((bS ls).length : Int) := by rw [nP]; omega
  have hn := hls.n
  obtain ⟨g1, g2⟩ := zV h1.1 hi
  refine ⟨g1, _, _, _, by rw [g2]; rfl, ?_⟩
  refine (zrw hp hk hv' _ _ n2 f2 ls[x.toNat].2.2 P (hls.r _ (List.getElem_mem hi)) (hls.l _ (List.getElem_mem hi)) hr2 hL2).mono ?_
  rintro _ rfl
  have hg := zhu hi
  cases hq : findL rows ls[x.toNat].2.2 (bV rows P) with
  | some q =>
    obtain ⟨a, b⟩ := q
    refine ⟨_, rfl, rfl, _, rfl, _, rfl, _, rfl, _, rfl, _, rfl, _, rfl, bA rfl ?_⟩
    rw [zhn hin (q := (a, b)) (by rw [hg]; exact hq)]
    show PV.tup _ = PV.tup [.int .i64 (x.toNat : Int), _, _]
    rw [show (x.toNat : Int) = x by omega]
  | none =>
    refine ⟨_, rfl, rfl, _, rfl, _, rfl, _, rfl, _, rfl, _, rfl, _, rfl, aN (by simp) ?_⟩
    rcases hc with ⟨h2, rfl⟩ | ⟨h2, rfl⟩
    ·refine bA rfl ?_
     rw [zho hin (by rw [hg]; exact hq) h2]; rfl
    ·have hs : eD j = 1 ∨ eD j = -1 := by unfold eD; split <;> omega
     have hw : i64.wrap (x + eD j) = x + eD j := aD (by omega) (by omega)
     rw [hw]
     refine aN (by rcases hs with e | e <;> rw [e] <;> decide) ⟨rfl, ?_, (qJ hin).1⟩
     exact (zhp hin (by rw [hg]; exact hq) h2).symm
 ·simp only [Bool.and_eq_true, decide_eq_true_eq, List.length_map, ge_iff_le] at h1
  rw [zT (by rw [nP]; omega)]; rfl
theorem zr2 (hp : bX rows) (hk : cK rows) (n f n2 f2 n3 f3 : Bool) (hl : rows.length < 1000000) (ls : List (Bool × Bool × List Int)) (hls : e8 ls) (P : List Int) (hr2 : R32 P) (hL2 : P.length < 1000000) (i j : Int) :
 PCall Tryz.prog 104 [.sl n f (bD rows), .sl n2 f2 (ls.map c4), .int .i64 i, .int .i64 j, .sl n3 f3 (aA P)] fun x => x = zht (dK (fQ rows P) (bS ls) j i) := by
 refine zrz _ _ _ _ _ _ _ _ _ _ _ (fun x => dK (fQ rows P) (bS ls) j x = dK (fQ rows P) (bS ls) j i) (fun x => mF (bS ls).length j x) ?_
 unfold zhs
 refine aF (fun h0 => ?_) (fun h0 => ⟨⟨rfl, rfl⟩, ?_⟩)
 ·simp only [Bool.or_eq_true, decide_eq_true_eq, List.length_map, ge_iff_le] at h0
  rw [zT (by rw [nP]; omega)]; rfl
 clear h0
 intro x hx
 rw [<- hx]
 refine aF (fun h1 => ?_) (fun h1 => ?_)
 ·simp only [Bool.and_eq_true, decide_eq_true_eq, List.length_map, ge_iff_le] at h1
  have hi : x.toNat < ls.length := by omega
  have hin : 0 <= x /\ x < ((bS ls).length : Int) := by rw [nP]; omega
  have hn := hls.n
  obtain ⟨g1, g2⟩ := zV h1.1 hi
  refine ⟨g1, _, _, _, by rw [g2]; rfl, ?_⟩
  refine (zrx hp hk _ _ _ _ n3 f3 hl ls[x.toNat].2.2 P (hls.r _ (List.getElem_mem hi)) (hls.l _ (List.getElem_mem hi)) hr2 hL2).mono ?_
  rintro _ rfl
  have hg := zhu hi
  cases hq : findL rows ls[x.toNat].2.2 (bV rows P) with
  | some q =>
    obtain ⟨a, b⟩ := q
    refine ⟨_, rfl, rfl, _, rfl, _, rfl, _, rfl, _, rfl, _, rfl, _, rfl, bA rfl ?_⟩
    rw [zhn hin (q := (a, b)) (by rw [hg]; exact hq)]
    show PV.tup _ = PV.tup [.int .i64 (x.toNat : Int), _, _]
    rw [show (x.toNat : Int) = x by omega]
  | none =>
    refine ⟨_, rfl, rfl, _, rfl, _, rfl, _, rfl, _, rfl, _, rfl, _, rfl, aN (by simp) (aF (fun h2 => ?_) (fun h2 => ?_))⟩
    ·simp only [beq_iff_eq] at h2
     rw [zho hin (by rw [hg]; exact hq) h2]; rfl
    ·simp only [beq_iff_eq] at h2
     have hnx := (zhp (p := fQ rows P) (s := j) hin (by rw [hg]; exact hq) h2).symm
     have hmu := (qJ (s := j) hin).1
     have hw : i64.wrap (x + 1) = x + 1 := aD (by omega) (by omega)
     have hw2 : i64.wrap (x - 1) = x + -1 := by rw [aD (by omega) (by omega)]; omega
     rw [hw, hw2]
     refine aF (fun h3 => ?_) (fun h3 => ?_)
     ·simp only [decide_eq_true_eq, gt_iff_lt] at h3
      rw [show eD j = 1 by unfold eD; rw [if_pos h3]] at hnx hmu
      exact ⟨rfl, hnx, hmu⟩
     ·simp only [decide_eq_true_eq, gt_iff_lt] at h3
      rw [show eD j = -1 by unfold eD; rw [if_neg h3]] at hnx hmu
      exact ⟨rfl, hnx, hmu⟩
 ·simp only [Bool.and_eq_true, decide_eq_true_eq, List.length_map, ge_iff_le] at h1
  rw [zT (by rw [nP]; omega)]; rfl
end
theorem w22 : Tryz.prog.underlying 22 = some (.slice 23) := by kernel_rfl
theorem zr3 {v : PV} (h : jK Tryz.prog 8 22 v) : ∃ (nl : Bool) (ls : List (Bool × Bool × List Int)), v = .sl nl false (ls.map c4) /\ ∀ q ∈ ls, R32 q.2.2 := by
 obtain ⟨nl, es, e, _, _, h3⟩ := wF w22 (sJ (by kernel_rfl) h)
 cases e
 obtain ⟨m, rfl, hm⟩ := sI (f := c4) (Q := fun q => R32 q.2.2) (l := es) fun x hx => by
  obtain ⟨nl, l, e, _, _, hr⟩ := zlp v22 v21 (h3 x hx)
  exact ⟨(nl, false, l), e, hr⟩
 exact ⟨nl, m, rfl, hm⟩
end Go.Eng


