/- Abstract states run over the code; what each function gives, printed by program and checked by the kernel; and what follows of it. -/
import Derived.Test.YtkhfdeljpgmfgaaGreatQaTb
open Go.IntKind (i64 i32)
set_option linter.unusedVariables false
set_option linter.unusedSimpArgs false
namespace Go.Eng.Srt
open Go Go.Eng
variable {key : Int → Int}
theorem Srtd.get {l : List Int} (h : Srtd key l) {i j : Nat} (hij : i ≤ j) (hj : j < l.length) : key (l.getD i 0) ≤ key (l.getD j 0) := by
 have hi : i < l.length := by omega
 simp only [List.getD, List.getElem?_eq_getElem hi, List.getElem?_eq_getElem hj, Option.getD_some]
 rcases Nat.lt_or_ge i j with h1 | h1
 ·exact (List.pairwise_iff_getElem.1 h) i j hi hj h1
 ·have : i = j := by omega
  subst this; exact Int.le_refl _
theorem kV {l : List Int} {x : Int} (h : x ∈ l) : ∃ i, i < l.length ∧ l.getD i 0 = x := by
 obtain ⟨i, hi, rfl⟩ := List.getElem_of_mem h
 exact ⟨i, hi, by simp [List.getD, hi]⟩
theorem qD {l : List Int} {i : Nat} (h : i < l.length) : l[i]? = some (l.getD i 0) := by simp [List.getD, h]
theorem Srtd.sub {l m : List Int} (h : Srtd key l) (hs : m.Sublist l) : Srtd key m := List.Pairwise.sublist hs h
theorem zgb {x : Int} {A B : List Int} (hs : Srtd key (A ++ B)) (h1 : ∀ y ∈ A, key y ≤ key x) (h2 : ∀ y ∈ B, key x ≤ key y) : Srtd key (A ++ x :: B) := by
 obtain ⟨s1, s2, s3⟩ := iC.1 hs
 refine iC.2 ⟨s1, List.pairwise_cons.2 ⟨h2, s2⟩, fun y hy z hz => ?_⟩
 rcases List.mem_cons.1 hz with rfl | hz
 ·exact h1 y hy
 ·exact s3 y hy z hz
theorem zpk {X1 X2 Y1 Y2 S1 S2 : List Int} (hX : Srtd key (X1 ++ X2)) (hY : Srtd key (Y1 ++ Y2)) (f1 : ∀ x ∈ X2, ∀ y ∈ Y1, key y < key x) (f2 : ∀ x ∈ X1, ∀ y ∈ Y2, key x ≤ key y)
 (h1 : Srtd key S1) (k1 : Stab key (X1 ++ Y1) S1) (h2 : Srtd key S2) (k2 : Stab key (X2 ++ Y2) S2) : Srtd key (S1 ++ S2) ∧ Stab key ((X1 ++ X2) ++ (Y1 ++ Y2)) (S1 ++ S2) := by
 obtain ⟨_, _, x3⟩ := iC.1 hX
 obtain ⟨_, _, y3⟩ := iC.1 hY
 refine ⟨iC.2 ⟨h1, h2, fun x hx y hy => ?_⟩, ?_⟩
 ·rcases List.mem_append.1 (k1.mem.2 hx) with hx | hx <;> rcases List.mem_append.1 (k2.mem.2 hy) with hy | hy
  ·exact x3 x hx y hy
  ·exact f2 x hx y hy
  ·exact Int.le_of_lt (f1 y hy x hx)
  ·exact y3 x hx y hy
 ·refine Stab.trans ?_ (k1.app k2)
  have := Stab.rot1 (key := key) (u := X1) (v := Y2) (a := X2) (b := Y1) (fun x hx y hy => by have := f1 x hx y hy; omega)
  simpa using this
end Go.Eng.Srt


set_option maxRecDepth 100000
set_option linter.constructorNameAsVariable false
namespace Go.Eng
open Go Go.Proofs Go.Eng.Rows Go.Eng.Srt
def iT (key : Int → Int) (nl : Bool) (T : PV) (P S R : List Int) (r : LV) (h' : Hp) : Prop := ∃ S' : List Int, r = .tup [] ∧ h' = [.sl (21, 1) false nl (aA (P ++ (S' ++ R))), .box [.pv T]] ∧ Srtd key S' ∧ Stab key S S'
section
variable {key : Int → Int} {T : PV}
theorem qE {i j : Int} (h0 : 0 ≤ i) (h1 : i ≤ j) (h2 : j ≤ 1000000000000) : i64.wrap ((IntKind.u64.wrap (i64.wrap (i + j))).fdiv (2 ^ 1)) = (i + j) / 2 := zen h0 h1 (by omega)
theorem zpl (hc : iS T key) (lo hi : Nat) (nl : Bool) (P Y R : List Int) (x : Int) (a m b : Int) (ha : 0 ≤ a) (hP : P.length = lo + a.toNat) (hm : m = a + 1) (hb : b = m + Y.length) (hhi : (lo : Int) + b ≤ hi) (hr : R32 (P ++ ([x] ++ (Y ++ R)))) (hlen : hi < 1000000000000) (hY : Srtd key Y) :
 ACall Tryz.prog 132 [.sub 0 lo hi, .pv (.int .i64 a), .pv (.int .i64 m), .pv (.int .i64 b), .fn 100 [.box 1 0]] [.sl (21, 1) false nl (aA (P ++ ([x] ++ (Y ++ R)))), .box [.pv T]] (iT key nl T P ([x] ++ Y) R) := by
 have hat : ∀ h : Int, m ≤ h → h < b → (P ++ ([x] ++ (Y ++ R)))[lo + h.toNat]? = some (Y.getD (h - m).toNat 0) := fun h h1 h2 => by
  have e : P ++ ([x] ++ (Y ++ R)) = (P ++ [x]) ++ (Y ++ R) := by simp
  rw [e, List.getElem?_append_right (by simp; omega), show lo + h.toNat - (P ++ [x]).length = (h - m).toNat by simp; omega, List.getElem?_append_left (by omega)]
  exact qD (by omega)
 have hax : (P ++ ([x] ++ (Y ++ R)))[lo + a.toNat]? = some x := by rw [← hP]; exact nM P (Y ++ R) x
 refine xB _ _ _ _ _ _ _ _
  (fun i j s => s = aA (P ++ ([x] ++ (Y ++ R))) ∧ m ≤ i ∧ i ≤ j ∧ j ≤ b ∧ (∀ h, m ≤ h → h < i → key (Y.getD (h - m).toNat 0) < key x) ∧ (∀ h, j ≤ h → h < b → ¬ key (Y.getD (h - m).toNat 0) < key x)) (fun i j _ => (j - i).toNat)
  (fun i k s => m ≤ i ∧ i ≤ b ∧ (∀ h, m ≤ h → h < i → key (Y.getD (h - m).toNat 0) < key x) ∧ (∀ h, i ≤ h → h < b → ¬ key (Y.getD (h - m).toNat 0) < key x) ∧ a ≤ k ∧ k ≤ i - 1 ∧ s = aA (P ++ (Y.take (k - a).toNat ++ (x :: (Y.drop (k - a).toNat ++ R))))) (fun i k _ => (i - 1 - k).toNat)
  (fun _ _ _ => True) (fun _ _ _ => 0) (fun _ _ _ => True) (fun _ _ _ => 0) (fun _ _ _ => True) (fun _ _ _ => 0) ?_
 unfold s7
 have w1 : i64.wrap (m - a) = 1 := by rw [aF (by omega) (by omega)]; omega
 refine bE (by rw [w1]; rfl) ⟨⟨rfl, rfl, Int.le_refl _, by omega, Int.le_refl _, fun h h1 h2 => by omega, fun h h1 h2 => by omega⟩, ?_⟩
 rintro i j _ ⟨rfl, i0, hij, hjb, hlt, hge⟩
 refine aH (fun hc1 => ?_) (fun hc1 => ?_)
 ·simp only [decide_eq_true_eq] at hc1
  rw [qE (by omega) (by omega) (by omega)]
  obtain ⟨h, hh⟩ : ∃ h, h = (i + j) / 2 := ⟨_, rfl⟩
  rw [← hh]
  have b1 : i ≤ h ∧ h < j := by omega
  have gy := hat h (by omega) (by omega)
  have wh : i64.wrap (h + 1) = h + 1 := aF (by omega) (by omega)
  rw [wh]
  refine ⟨⟨by omega, by omega, by rw [c8 gy]; rfl⟩, _, by rw [c8 gy]; rfl, ⟨by omega, by omega, by rw [c8 hax]; rfl⟩, x, by rw [c8 hax]; rfl, ?_⟩
  refine (hc _ x (kU hr gy) (kU hr hax)).mono ?_
  rintro _ ⟨n2, rfl, hn2⟩
  refine ⟨n2, rfl, rfl, aH (fun hl => ?_) (fun hl => ?_)⟩
  ·simp only [decide_eq_true_eq] at hl
   have hk := hn2.1 hl
   refine ⟨rfl, ⟨rfl, by omega, by omega, by omega, fun q q1 q2 => ?_, hge⟩, by dsimp only; omega⟩
   have := hY.get (i := (q - m).toNat) (j := (h - m).toNat) (by omega) (by omega)
   omega
  ·simp only [decide_eq_true_eq] at hl
   have hk : ¬ key (Y.getD (h - m).toNat 0) < key x := fun h => hl (hn2.2 h)
   refine ⟨rfl, ⟨rfl, by omega, by omega, by omega, hlt, fun q q1 q2 => ?_⟩, by dsimp only; omega⟩
   have := hY.get (i := (h - m).toNat) (j := (q - m).toNat) (by omega) (by omega)
   omega
 ·simp only [decide_eq_true_eq] at hc1
  have : i = j := by omega
  subst this
  refine ⟨⟨rfl, i0, hjb, hlt, hge, Int.le_refl _, by omega, by simp⟩, ?_⟩
  clear hc1 hij hjb hlt hge i0
  rintro i k _ ⟨i0, ib, hlt, hge, k0, k1, rfl⟩
  have wi : i64.wrap (i - 1) = i - 1 := aF (by omega) (by omega)
  rw [wi]
  refine aH (fun hc2 => ?_) (fun hc2 => ?_)
  ·simp only [decide_eq_true_eq] at hc2
   have wk : i64.wrap (k + 1) = k + 1 := aF (by omega) (by omega)
   rw [wk]
   have hlk : (k - a).toNat < Y.length := by omega
   have hn : (k + 1 - a).toNat = (k - a).toNat + 1 := by omega
   have dy : Y.drop (k - a).toNat = Y[(k - a).toNat] :: Y.drop ((k - a).toNat + 1) := List.drop_eq_getElem_cons hlk
   have ty : Y.take ((k - a).toNat + 1) = Y.take (k - a).toNat ++ [Y[(k - a).toNat]] := dB hlk
   have lt : (Y.take (k - a).toNat).length = (k - a).toNat := by rw [List.length_take]; omega
   obtain ⟨D, hDe⟩ : ∃ D, D = P ++ (Y.take (k - a).toNat ++ (x :: (Y.drop (k - a).toNat ++ R))) := ⟨_, rfl⟩
   have hRD : R32 D := fun y hy => hr y (by
    rw [hDe] at hy
    simp only [List.mem_append, List.mem_cons] at hy ⊢
    rcases hy with hy | hy | hy | hy | hy
    ·exact .inl hy
    ·exact .inr (.inr (.inl (List.mem_of_mem_take hy)))
    ·exact .inr (.inl (by simp [hy]))
    ·exact .inr (.inr (.inl (List.mem_of_mem_drop hy)))
    ·exact .inr (.inr (.inr hy)))
   rw [← hDe]
   have hD : D = (P ++ Y.take (k - a).toNat) ++ x :: Y[(k - a).toNat] :: (Y.drop ((k - a).toNat + 1) ++ R) := by rw [hDe, dy]; simp only [List.append_assoc, List.cons_append, List.nil_append]
   have hk0 : lo + k.toNat = (P ++ Y.take (k - a).toNat).length := by rw [List.length_append, lt]; omega
   have hk1 : lo + (k + 1).toNat = (P ++ Y.take (k - a).toNat).length + 1 := by rw [List.length_append, lt]; omega
   have gx : D[lo + k.toNat]? = some x := by rw [hD, hk0, nM]
   have gy : D[lo + (k + 1).toNat]? = some Y[(k - a).toNat] := by rw [hD, hk1, List.getElem?_append_right (by omega)]; simp
   have hsw : (D.set (lo + k.toNat) Y[(k - a).toNat]).set (lo + (k + 1).toNat) x = P ++ (Y.take (k + 1 - a).toNat ++ (x :: (Y.drop (k + 1 - a).toNat ++ R))) := by
    rw [hD, hk0, hk1, zph, hn, ty]; simp only [List.append_assoc, List.cons_append, List.nil_append]
   obtain ⟨t1, t2, t3, t4⟩ := tW D gx gy (by omega) Y[(k - a).toNat] x
   rw [hsw] at t1
   have hla : 1 ≤ ((aA D).getD (lo + k.toNat) []).length := by rw [t2]; exact Nat.le_refl _
   refine ⟨⟨by omega, by omega, t3⟩, Y[(k - a).toNat], by rw [c8 gy]; rfl, ⟨by omega, by omega, t2⟩, x, by rw [c8 gx]; rfl, ⟨by omega, by omega, t2⟩, ?_⟩
   refine ⟨?_, ?_⟩
   all_goals exact ⟨⟨rfl, hla⟩, ⟨by omega, by omega, t4⟩, ⟨rfl, by rw [t4]; exact Nat.le_refl _⟩, rfl, ⟨i0, ib, hlt, hge, by omega, by omega, t1⟩, by dsimp only; omega⟩
  ·simp only [decide_eq_true_eq] at hc2
   have hk : (k - a).toNat = (i - m).toNat := by omega
   rw [hk]
   have h1 : ∀ y ∈ Y.take (i - m).toNat, key y < key x := fun y hy => by
    obtain ⟨q, hq, rfl⟩ := kV hy
    rw [List.length_take] at hq
    have e : (Y.take (i - m).toNat).getD q 0 = Y.getD q 0 := by simp only [List.getD]; rw [List.getElem?_take_of_lt (by omega)]
    rw [e]
    have := hlt (m + q) (by omega) (by omega)
    rwa [show (m + (q : Int) - m).toNat = q by omega] at this
   have h2 : ∀ y ∈ Y.drop (i - m).toNat, key x ≤ key y := fun y hy => by
    obtain ⟨q, hq, rfl⟩ := kV hy
    rw [List.length_drop] at hq
    have e : (Y.drop (i - m).toNat).getD q 0 = Y.getD ((i - m).toNat + q) 0 := by simp only [List.getD, List.getElem?_drop]
    rw [e]
    have := hge (i + q) (by omega) (by omega)
    rw [show (i + (q : Int) - m).toNat = (i - m).toNat + q by omega] at this
    omega
   have hYs : Srtd key (Y.take (i - m).toNat ++ Y.drop (i - m).toNat) := by rw [List.take_append_drop]; exact hY
   refine ⟨Y.take (i - m).toNat ++ x :: Y.drop (i - m).toNat, rfl, by simp, zgb hYs (fun y hy => Int.le_of_lt (h1 y hy)) h2, ?_⟩
   have := Stab.rot1 (key := key) (u := []) (v := Y.drop (i - m).toNat) (a := [x]) (b := Y.take (i - m).toNat) (fun p hp q hq => by simp at hp; subst hp; have := h1 q hq; omega)
   simpa using this
end
end Go.Eng



namespace Go.Eng
open Go Go.Proofs Go.Eng.Rows Go.Eng.Srt
section
variable {key : Int → Int} {T : PV}
theorem zpm (hc : iS T key) (lo hi : Nat) (nl : Bool) (P X R : List Int) (y : Int) (a m b : Int) (ha : 0 ≤ a) (hP : P.length = lo + a.toNat) (hm : m = a + X.length) (hX1 : X.length ≠ 1) (hb : b = m + 1) (hhi : (lo : Int) + b ≤ hi) (hr : R32 (P ++ (X ++ ([y] ++ R)))) (hlen : hi < 1000000000000) (hX : Srtd key X) :
 ACall Tryz.prog 132 [.sub 0 lo hi, .pv (.int .i64 a), .pv (.int .i64 m), .pv (.int .i64 b), .fn 100 [.box 1 0]] [.sl (21, 1) false nl (aA (P ++ (X ++ ([y] ++ R)))), .box [.pv T]] (iT key nl T P (X ++ [y]) R) := by
 have hat : ∀ h : Int, a ≤ h → h < m → (P ++ (X ++ ([y] ++ R)))[lo + h.toNat]? = some (X.getD (h - a).toNat 0) := fun h h1 h2 => by
  rw [List.getElem?_append_right (by omega), show lo + h.toNat - P.length = (h - a).toNat by omega, List.getElem?_append_left (by omega)]
  exact qD (by omega)
 have hay : (P ++ (X ++ ([y] ++ R)))[lo + m.toNat]? = some y := by
  have e : P ++ (X ++ ([y] ++ R)) = (P ++ X) ++ y :: R := by simp
  rw [e, show lo + m.toNat = (P ++ X).length by simp; omega, nM]
 refine xB _ _ _ _ _ _ _ _
  (fun _ _ _ => True) (fun _ _ _ => 0) (fun _ _ _ => True) (fun _ _ _ => 0)
  (fun i j s => s = aA (P ++ (X ++ ([y] ++ R))) ∧ a ≤ i ∧ i ≤ j ∧ j ≤ m ∧ (∀ h, a ≤ h → h < i → ¬ key y < key (X.getD (h - a).toNat 0)) ∧ (∀ h, j ≤ h → h < m → key y < key (X.getD (h - a).toNat 0))) (fun i j _ => (j - i).toNat)
  (fun i k s => a ≤ i ∧ i ≤ m ∧ (∀ h, a ≤ h → h < i → ¬ key y < key (X.getD (h - a).toNat 0)) ∧ (∀ h, i ≤ h → h < m → key y < key (X.getD (h - a).toNat 0)) ∧ i ≤ k ∧ k ≤ m ∧ s = aA (P ++ (X.take (k - a).toNat ++ (y :: (X.drop (k - a).toNat ++ R))))) (fun i k _ => (k - i).toNat)
  (fun _ _ _ => True) (fun _ _ _ => 0) ?_
 unfold s7
 have w1 : i64.wrap (m - a) = X.length := by rw [aF (by omega) (by omega)]; omega
 have w2 : i64.wrap (b - m) = 1 := by rw [aF (by omega) (by omega)]; omega
 refine bN (by rw [w1]; simp; omega) (bE (by rw [w2]; rfl) ⟨⟨rfl, rfl, Int.le_refl _, by omega, Int.le_refl _, fun h h1 h2 => by omega, fun h h1 h2 => by omega⟩, ?_⟩)
 rintro i j _ ⟨rfl, i0, hij, hjb, hlt, hge⟩
 refine aH (fun hc1 => ?_) (fun hc1 => ?_)
 ·simp only [decide_eq_true_eq] at hc1
  rw [qE (by omega) (by omega) (by omega)]
  obtain ⟨h, hh⟩ : ∃ h, h = (i + j) / 2 := ⟨_, rfl⟩
  rw [← hh]
  have b1 : i ≤ h ∧ h < j := by omega
  have gx := hat h (by omega) (by omega)
  have wh : i64.wrap (h + 1) = h + 1 := aF (by omega) (by omega)
  rw [wh]
  refine ⟨⟨by omega, by omega, by rw [c8 hay]; rfl⟩, y, by rw [c8 hay]; rfl, ⟨by omega, by omega, by rw [c8 gx]; rfl⟩, _, by rw [c8 gx]; rfl, ?_⟩
  refine (hc y _ (kU hr hay) (kU hr gx)).mono ?_
  rintro _ ⟨n2, rfl, hn2⟩
  refine ⟨n2, rfl, rfl, aH (fun hl => ?_) (fun hl => ?_)⟩
  ·simp only [Bool.not_eq_true', decide_eq_false_iff_not] at hl
   have hk : ¬ key y < key (X.getD (h - a).toNat 0) := fun h => hl (hn2.2 h)
   refine ⟨rfl, ⟨rfl, by omega, by omega, by omega, fun q q1 q2 => ?_, hge⟩, by dsimp only; omega⟩
   have := hX.get (i := (q - a).toNat) (j := (h - a).toNat) (by omega) (by omega)
   omega
  ·simp only [Bool.not_eq_true', decide_eq_false_iff_not, Decidable.not_not] at hl
   have hk := hn2.1 hl
   refine ⟨rfl, ⟨rfl, by omega, by omega, by omega, hlt, fun q q1 q2 => ?_⟩, by dsimp only; omega⟩
   have := hX.get (i := (h - a).toNat) (j := (q - a).toNat) (by omega) (by omega)
   omega
 ·simp only [decide_eq_true_eq] at hc1
  have : i = j := by omega
  subst this
  have hml : (m - a).toNat = X.length := by omega
  refine ⟨⟨rfl, i0, hjb, hlt, hge, by omega, Int.le_refl _, by rw [hml]; simp⟩, ?_⟩
  clear hc1 hij hjb hlt hge i0
  rintro i k _ ⟨i0, ib, hlt, hge, k0, k1, rfl⟩
  refine aH (fun hc2 => ?_) (fun hc2 => ?_)
  ·simp only [decide_eq_true_eq, gt_iff_lt] at hc2
   have wk : i64.wrap (k - 1) = k - 1 := aF (by omega) (by omega)
   rw [wk]
   have hlk : (k - 1 - a).toNat < X.length := by omega
   have hn : (k - a).toNat = (k - 1 - a).toNat + 1 := by omega
   have dx : X.drop (k - 1 - a).toNat = X[(k - 1 - a).toNat] :: X.drop ((k - 1 - a).toNat + 1) := List.drop_eq_getElem_cons hlk
   have tx : X.take ((k - 1 - a).toNat + 1) = X.take (k - 1 - a).toNat ++ [X[(k - 1 - a).toNat]] := dB hlk
   have lt : (X.take (k - 1 - a).toNat).length = (k - 1 - a).toNat := by rw [List.length_take]; omega
   obtain ⟨D, hDe⟩ : ∃ D, D = P ++ (X.take (k - a).toNat ++ (y :: (X.drop (k - a).toNat ++ R))) := ⟨_, rfl⟩
   have hRD : R32 D := fun z hz => hr z (by
    rw [hDe] at hz
    simp only [List.mem_append, List.mem_cons] at hz ⊢
    rcases hz with hz | hz | hz | hz | hz
    ·exact .inl hz
    ·exact .inr (.inl (List.mem_of_mem_take hz))
    ·exact .inr (.inr (.inl (by simp [hz])))
    ·exact .inr (.inl (List.mem_of_mem_drop hz))
    ·exact .inr (.inr (.inr hz)))
   rw [← hDe]
   have hD : D = (P ++ X.take (k - 1 - a).toNat) ++ X[(k - 1 - a).toNat] :: y :: (X.drop ((k - 1 - a).toNat + 1) ++ R) := by rw [hDe, hn, tx]; simp only [List.append_assoc, List.cons_append, List.nil_append]
   have hk0 : lo + (k - 1).toNat = (P ++ X.take (k - 1 - a).toNat).length := by rw [List.length_append, lt]; omega
   have hk1 : lo + k.toNat = (P ++ X.take (k - 1 - a).toNat).length + 1 := by rw [List.length_append, lt]; omega
   have gx : D[lo + (k - 1).toNat]? = some X[(k - 1 - a).toNat] := by rw [hD, hk0, nM]
   have gy : D[lo + k.toNat]? = some y := by rw [hD, hk1, List.getElem?_append_right (by omega)]; simp
   have hsw : (D.set (lo + k.toNat) X[(k - 1 - a).toNat]).set (lo + (k - 1).toNat) y = P ++ (X.take (k - 1 - a).toNat ++ (y :: (X.drop (k - 1 - a).toNat ++ R))) := by
    rw [hD, hk0, hk1, zf8, dx]; simp only [List.append_assoc, List.cons_append, List.nil_append]
   obtain ⟨t1, t2, t3, t4⟩ := tW D gy gx (by omega) X[(k - 1 - a).toNat] y
   rw [hsw] at t1
   have hla : 1 ≤ ((aA D).getD (lo + k.toNat) []).length := by rw [t2]; exact Nat.le_refl _
   refine ⟨⟨by omega, by omega, t3⟩, X[(k - 1 - a).toNat], by rw [c8 gx]; rfl, ⟨by omega, by omega, t2⟩, y, by rw [c8 gy]; rfl, ⟨by omega, by omega, t2⟩, ?_⟩
   refine ⟨?_, ?_⟩
   all_goals exact ⟨⟨rfl, hla⟩, ⟨by omega, by omega, t4⟩, ⟨rfl, by rw [t4]; exact Nat.le_refl _⟩, rfl, ⟨i0, ib, hlt, hge, by omega, by omega, t1⟩, by dsimp only; omega⟩
  ·simp only [decide_eq_true_eq, gt_iff_lt] at hc2
   have hk : k = i := by omega
   subst hk
   have h1 : ∀ z ∈ X.take (k - a).toNat, key z ≤ key y := fun z hz => by
    obtain ⟨q, hq, rfl⟩ := kV hz
    rw [List.length_take] at hq
    have e : (X.take (k - a).toNat).getD q 0 = X.getD q 0 := by simp only [List.getD]; rw [List.getElem?_take_of_lt (by omega)]
    rw [e]
    have := hlt (a + q) (by omega) (by omega)
    rw [show (a + (q : Int) - a).toNat = q by omega] at this
    omega
   have h2 : ∀ z ∈ X.drop (k - a).toNat, key y < key z := fun z hz => by
    obtain ⟨q, hq, rfl⟩ := kV hz
    rw [List.length_drop] at hq
    have e : (X.drop (k - a).toNat).getD q 0 = X.getD ((k - a).toNat + q) 0 := by simp only [List.getD, List.getElem?_drop]
    rw [e]
    have := hge (k + q) (by omega) (by omega)
    rwa [show (k + (q : Int) - a).toNat = (k - a).toNat + q by omega] at this
   have hXs : Srtd key (X.take (k - a).toNat ++ X.drop (k - a).toNat) := by rw [List.take_append_drop]; exact hX
   refine ⟨X.take (k - a).toNat ++ y :: X.drop (k - a).toNat, rfl, by simp, zgb hXs h1 (fun z hz => Int.le_of_lt (h2 z hz)), ?_⟩
   have := Stab.rot1 (key := key) (u := X.take (k - a).toNat) (v := []) (a := X.drop (k - a).toNat) (b := [y]) (fun p hp q hq => by simp at hq; subst hq; have := h2 p hp; omega)
   rw [← List.append_assoc, List.take_append_drop] at this
   simpa using this
end
end Go.Eng



namespace Go.Eng
open Go Go.Proofs Go.Eng.Rows Go.Eng.Srt
section
variable {key : Int → Int} {T : PV} (lo hi : Nat) (nl : Bool)
abbrev iU (nl : Bool) (T : PV) (t : List (List PV)) : Hp := [.sl (21, 1) false nl t, .box [.pv T]]
abbrev zC (nl : Bool) (T : PV) (t : List (List PV)) (K : List (List PV) → Prop) : LV → Hp → Prop := fun r h' => ∃ t1, (r = .tup [] ∧ h' = iU nl T t1) ∧ (True ∧ ((21, 1) = (21, 1) ∧ nl = nl ∧ t.length = t1.length) ∧ True) ∧ K t1
def tX (T : PV) (mid e b : Int) (Q : LV → Hp → Prop) (t : List (List PV)) : Prop :=
 if (decide (mid < e) && decide (e < b)) = true then ACall Tryz.prog 132 [.sub 0 lo hi, .pv (.int .i64 mid), .pv (.int .i64 e), .pv (.int .i64 b), .fn 100 [.box 1 0]] (iU nl T t) (zC nl T t fun t1 => Q (.tup []) (iU nl T t1)) else Q (.tup []) (iU nl T t)
def tY (T : PV) (a s mid e b : Int) (Q : LV → Hp → Prop) (t : List (List PV)) : Prop :=
 if (decide (a < s) && decide (s < mid)) = true then ACall Tryz.prog 132 [.sub 0 lo hi, .pv (.int .i64 a), .pv (.int .i64 s), .pv (.int .i64 mid), .fn 100 [.box 1 0]] (iU nl T t) (zC nl T t (tX lo hi nl T mid e b Q)) else tX lo hi nl T mid e b Q t
def zD (T : PV) (a s m mid e b : Int) (Q : LV → Hp → Prop) (t : List (List PV)) : Prop :=
 if (decide (s < m) && decide (m < e)) = true then ACall Tryz.prog 134 [.sub 0 lo hi, .pv (.int .i64 s), .pv (.int .i64 m), .pv (.int .i64 e), .fn 100 [.box 1 0]] (iU nl T t) (zC nl T t (tY lo hi nl T a s mid e b Q)) else tY lo hi nl T a s mid e b Q t
theorem R32.of {l m : List Int} (h : R32 l) (hm : ∀ x ∈ m, x ∈ l) : R32 m := fun x hx => h x (hm x hx)
def zgc (T : PV) (key : Int → Int) (N : Int) : Prop := ∀ (P X Y R : List Int) (a m b : Int), 0 ≤ a → P.length = lo + a.toNat → m = a + X.length → b = m + Y.length → X ≠ [] → Y ≠ [] → (lo : Int) + b ≤ hi → R32 (P ++ (X ++ (Y ++ R))) → Srtd key X → Srtd key Y → b - a < N →
 ACall Tryz.prog 132 [.sub 0 lo hi, .pv (.int .i64 a), .pv (.int .i64 m), .pv (.int .i64 b), .fn 100 [.box 1 0]] (iU nl T (aA (P ++ (X ++ (Y ++ R))))) (iT key nl T P (X ++ Y) R)
theorem zpn {N : Int} (ih : zgc lo hi nl T key N) (hlen : hi < 1000000000000) (P X1 X2 Y1 Y2 R : List Int) (a s m mid e b : Int) (ha : 0 ≤ a) (hP : P.length = lo + a.toNat) (h1 : s = a + X1.length) (h2 : m = s + X2.length) (h3 : e = m + Y1.length) (h4 : b = e + Y2.length) (h5 : mid = s + Y1.length)
 (hhi : (lo : Int) + b ≤ hi) (hr : R32 (P ++ (X1 ++ (X2 ++ (Y1 ++ (Y2 ++ R)))))) (hX : Srtd key (X1 ++ X2)) (hY : Srtd key (Y1 ++ Y2)) (f1 : ∀ x ∈ X2, ∀ y ∈ Y1, key y < key x) (f2 : ∀ x ∈ X1, ∀ y ∈ Y2, key x ≤ key y) (n1 : mid - a < N) (n2 : b - mid < N) :
 zD lo hi nl T a s m mid e b (iT key nl T P ((X1 ++ X2) ++ (Y1 ++ Y2)) R) (aA (P ++ (X1 ++ (X2 ++ (Y1 ++ (Y2 ++ R)))))) := by
 have hl1 : ∀ {u v : List Int}, u.length = v.length → (aA u).length = (aA v).length := fun h => by simp [h]
 obtain ⟨x1, x2, x3⟩ := iC.1 hX
 obtain ⟨y1, y2, y3⟩ := iC.1 hY
 have t3 : ∀ S1 : List Int, Srtd key S1 → Stab key (X1 ++ Y1) S1 → tX lo hi nl T mid e b (iT key nl T P ((X1 ++ X2) ++ (Y1 ++ Y2)) R) (aA (P ++ (S1 ++ (X2 ++ (Y2 ++ R))))) := fun S1 s1 k1 => by
  have kl := k1.len
  rw [List.length_append] at kl
  have fin : ∀ S2 : List Int, Srtd key S2 → Stab key (X2 ++ Y2) S2 → iT key nl T P ((X1 ++ X2) ++ (Y1 ++ Y2)) R (.tup []) (iU nl T (aA (P ++ (S1 ++ (S2 ++ R))))) := fun S2 s2 k2 => by
   obtain ⟨c1, c2⟩ := zpk hX hY f1 f2 s1 k1 s2 k2
   exact ⟨S1 ++ S2, rfl, by simp, c1, c2⟩
  unfold tX
  refine aH (fun hc => ?_) (fun hc => ?_)
  ·simp only [Bool.and_eq_true, decide_eq_true_eq] at hc
   have nx : X2 ≠ [] := fun h => by subst h; simp at h2; omega
   have ny : Y2 ≠ [] := fun h => by subst h; simp at h4; omega
   have := ih (P ++ S1) X2 Y2 R mid e b (by omega) (by rw [List.length_append]; omega) (by omega) h4 nx ny hhi (hr.of fun x hx => by
    simp only [List.mem_append] at hx ⊢
    rcases hx with (hx | hx) | hx | hx | hx
    ·exact .inl hx
    ·rcases List.mem_append.1 (k1.mem.2 hx) with hx | hx
     ·exact .inr (.inl hx)
     ·exact .inr (.inr (.inr (.inl hx)))
    ·exact .inr (.inr (.inl hx))
    ·exact .inr (.inr (.inr (.inr (.inl hx))))
    ·exact .inr (.inr (.inr (.inr (.inr hx))))) x2 y2 n2
   rw [show P ++ (S1 ++ (X2 ++ (Y2 ++ R))) = (P ++ S1) ++ (X2 ++ (Y2 ++ R)) by simp]
   refine this.mono ?_
   rintro r h' ⟨S2, rfl, rfl, s2, k2⟩
   refine ⟨_, ⟨rfl, rfl⟩, ⟨trivial, ⟨rfl, rfl, hl1 ?_⟩, trivial⟩, ?_⟩
   ·have := k2.len
    simp only [List.length_append] at this ⊢; omega
   ·have := fin S2 s2 k2
    rw [← List.append_assoc P] at this
    exact this
  ·simp only [Bool.and_eq_true, decide_eq_true_eq] at hc
   have hz : X2 = [] ∨ Y2 = [] := by
    rcases Nat.eq_zero_or_pos X2.length with h | h
    ·exact .inl (List.length_eq_zero_iff.1 h)
    ·exact .inr (List.length_eq_zero_iff.1 (by omega))
   have s2 : Srtd key (X2 ++ Y2) := by
    rcases hz with h | h
    ·subst h; exact y2
    ·subst h; simpa using x2
   have := fin (X2 ++ Y2) s2 (.refl _)
   rw [List.append_assoc X2 Y2] at this
   exact this
 have t2 : tY lo hi nl T a s mid e b (iT key nl T P ((X1 ++ X2) ++ (Y1 ++ Y2)) R) (aA (P ++ (X1 ++ (Y1 ++ (X2 ++ (Y2 ++ R)))))) := by
  unfold tY
  refine aH (fun hc => ?_) (fun hc => ?_)
  ·simp only [Bool.and_eq_true, decide_eq_true_eq] at hc
   have nx : X1 ≠ [] := fun h => by subst h; simp at h1; omega
   have ny : Y1 ≠ [] := fun h => by subst h; simp at h5; omega
   refine (ih P X1 Y1 (X2 ++ (Y2 ++ R)) a s mid ha hP h1 h5 nx ny (by omega) (hr.of fun x hx => by
    simp only [List.mem_append] at hx ⊢
    rcases hx with hx | hx | hx | hx | hx | hx
    ·exact .inl hx
    ·exact .inr (.inl hx)
    ·exact .inr (.inr (.inr (.inl hx)))
    ·exact .inr (.inr (.inl hx))
    ·exact .inr (.inr (.inr (.inr (.inl hx))))
    ·exact .inr (.inr (.inr (.inr (.inr hx))))) x1 y1 n1).mono ?_
   rintro r h' ⟨S1, rfl, rfl, s1, k1⟩
   refine ⟨_, ⟨rfl, rfl⟩, ⟨trivial, ⟨rfl, rfl, hl1 ?_⟩, trivial⟩, t3 S1 s1 k1⟩
   have := k1.len
   simp only [List.length_append] at this ⊢; omega
  ·simp only [Bool.and_eq_true, decide_eq_true_eq] at hc
   have hz : X1 = [] ∨ Y1 = [] := by
    rcases Nat.eq_zero_or_pos X1.length with h | h
    ·exact .inl (List.length_eq_zero_iff.1 h)
    ·exact .inr (List.length_eq_zero_iff.1 (by omega))
   have s2 : Srtd key (X1 ++ Y1) := by
    rcases hz with h | h
    ·subst h; exact y1
    ·subst h; simpa using x1
   have := t3 (X1 ++ Y1) s2 (.refl _)
   rw [List.append_assoc X1 Y1] at this
   exact this
 unfold zD
 refine aH (fun hc => ?_) (fun hc => ?_)
 ·simp only [Bool.and_eq_true, decide_eq_true_eq] at hc
  have nx : X2 ≠ [] := fun h => by subst h; simp at h2; omega
  have ny : Y1 ≠ [] := fun h => by subst h; simp at h3; omega
  have := zpj (T := T) lo hi nl (P ++ X1) X2 Y1 (Y2 ++ R) s m e (by omega) (by rw [List.length_append]; omega) h2 h3 nx ny (by omega) hlen
  rw [show P ++ (X1 ++ (X2 ++ (Y1 ++ (Y2 ++ R)))) = (P ++ X1) ++ (X2 ++ (Y1 ++ (Y2 ++ R))) by simp]
  refine this.mono ?_
  rintro r h' ⟨rfl, rfl⟩
  refine ⟨_, ⟨rfl, rfl⟩, ⟨trivial, ⟨rfl, rfl, hl1 ?_⟩, trivial⟩, ?_⟩
  ·simp only [List.length_append]; omega
  ·rw [List.append_assoc P]; exact t2
 ·simp only [Bool.and_eq_true, decide_eq_true_eq] at hc
  have hz : X2 = [] ∨ Y1 = [] := by
   rcases Nat.eq_zero_or_pos X2.length with h | h
   ·exact .inl (List.length_eq_zero_iff.1 h)
   ·exact .inr (List.length_eq_zero_iff.1 (by omega))
  have e : P ++ (X1 ++ (X2 ++ (Y1 ++ (Y2 ++ R)))) = P ++ (X1 ++ (Y1 ++ (X2 ++ (Y2 ++ R)))) := by
   rcases hz with h | h <;> subst h <;> simp
  rw [e]; exact t2
end
end Go.Eng



namespace Go.Eng
open Go Go.Proofs Go.Eng.Rows Go.Eng.Srt
section
variable {key : Int → Int} {T : PV}
theorem zgd (hc : iS T key) (lo hi : Nat) (nl : Bool) (hlen : hi < 1000000000000) : ∀ N : Nat, zgc lo hi nl T key N := by
 intro N
 induction N with
 | zero =>
   intro P X Y R a m b ha hP hm hb hx hy hhi hr hX hY hN
   omega
 | succ N ih =>
   intro P X Y R a m b ha hP hm hb hx hy hhi hr hX hY hN
   have hxl := List.length_pos_iff.2 hx
   have hyl := List.length_pos_iff.2 hy
   by_cases hx1 : X.length = 1
   ·obtain ⟨x, rfl⟩ := List.length_eq_one_iff.1 hx1
    exact zpl hc lo hi nl P Y R x a m b ha hP (by simpa using hm) hb hhi hr hlen hY
   by_cases hy1 : Y.length = 1
   ·obtain ⟨y, rfl⟩ := List.length_eq_one_iff.1 hy1
    exact zpm hc lo hi nl P X R y a m b ha hP hm hx1 (by simpa using hb) hhi hr hlen hX
   obtain ⟨mid, hmid⟩ : ∃ mid, mid = (a + b) / 2 := ⟨_, rfl⟩
   have hat : ∀ h : Int, a ≤ h → h < m → (P ++ (X ++ (Y ++ R)))[lo + h.toNat]? = some (X.getD (h - a).toNat 0) := fun h h1 h2 => by
    rw [List.getElem?_append_right (by omega), show lo + h.toNat - P.length = (h - a).toNat by omega, List.getElem?_append_left (by omega)]
    exact qD (by omega)
   have hbt : ∀ h : Int, m ≤ h → h < b → (P ++ (X ++ (Y ++ R)))[lo + h.toNat]? = some (Y.getD (h - m).toNat 0) := fun h h1 h2 => by
    rw [← List.append_assoc, List.getElem?_append_right (by rw [List.length_append]; omega), show lo + h.toNat - (P ++ X).length = (h - m).toNat by rw [List.length_append]; omega, List.getElem?_append_left (by omega)]
    exact qD (by omega)
   obtain ⟨s0, hs0⟩ : ∃ s0, s0 = if m > mid then mid + m - b else a := ⟨_, rfl⟩
   obtain ⟨r0, hr0⟩ : ∃ r0, r0 = if m > mid then mid else m := ⟨_, rfl⟩
   have rng : a ≤ s0 ∧ s0 ≤ r0 ∧ r0 ≤ m ∧ mid + m - s0 ≤ b ∧ m ≤ mid + m - r0 := by
    rw [hs0, hr0]; split <;> omega
   refine xB _ _ _ _ _ _ _ _
    (fun _ _ _ => True) (fun _ _ _ => 0) (fun _ _ _ => True) (fun _ _ _ => 0) (fun _ _ _ => True) (fun _ _ _ => 0) (fun _ _ _ => True) (fun _ _ _ => 0)
    (fun i j s => s = aA (P ++ (X ++ (Y ++ R))) ∧ s0 ≤ i ∧ i ≤ j ∧ j ≤ r0 ∧ (∀ c, s0 ≤ c → c < i → ¬ key (Y.getD (mid - 1 - c).toNat 0) < key (X.getD (c - a).toNat 0)) ∧ (∀ c, j ≤ c → c < r0 → key (Y.getD (mid - 1 - c).toNat 0) < key (X.getD (c - a).toNat 0))) (fun i j _ => (j - i).toNat) ?_
   unfold s7
   have w1 : i64.wrap (m - a) = X.length := by rw [aF (by omega) (by omega)]; omega
   have w2 : i64.wrap (b - m) = Y.length := by rw [aF (by omega) (by omega)]; omega
   have w3 : i64.wrap (mid + m) = mid + m := aF (by omega) (by omega)
   have w4 : i64.wrap (mid + m - b) = mid + m - b := aF (by omega) (by omega)
   have w5 : i64.wrap (mid + m - 1) = mid + m - 1 := aF (by omega) (by omega)
   rw [w1, w2, qE ha (by omega) (by omega), ← hmid, w3, w4, w5]
   -- what the loop is, and what follows it
   have body : ∀ (x20 x21 : Int) (s : List (List PV)), (s = aA (P ++ (X ++ (Y ++ R))) ∧ s0 ≤ x20 ∧ x20 ≤ x21 ∧ x21 ≤ r0 ∧ (∀ c, s0 ≤ c → c < x20 → ¬ key (Y.getD (mid - 1 - c).toNat 0) < key (X.getD (c - a).toNat 0)) ∧ (∀ c, x21 ≤ c → c < r0 → key (Y.getD (mid - 1 - c).toNat 0) < key (X.getD (c - a).toNat 0))) →
    (x20 < x21 → ∃ h, h = (x20 + x21) / 2 ∧ i64.wrap (mid + m - 1 - h) = mid + m - 1 - h ∧ i64.wrap (h + 1) = h + 1 ∧ (0 ≤ mid + m - 1 - h ∧ mid + m - 1 - h < (hi : Int) - lo ∧ (s.getD (lo + (mid + m - 1 - h).toNat) []).length = 1) ∧ (0 ≤ h ∧ h < (hi : Int) - lo ∧ (s.getD (lo + h.toNat) []).length = 1) ∧
     ∃ n n1, (List.drop 0 (s.getD (lo + (mid + m - 1 - h).toNat) [])).head? = some (PV.int .i32 n) ∧ (List.drop 0 (s.getD (lo + h.toNat) [])).head? = some (PV.int .i32 n1) ∧ (-2147483648 ≤ n ∧ n ≤ 2147483647) ∧ (-2147483648 ≤ n1 ∧ n1 ≤ 2147483647) ∧
     (¬ key n < key n1 → (s = aA (P ++ (X ++ (Y ++ R))) ∧ s0 ≤ h + 1 ∧ h + 1 ≤ x21 ∧ x21 ≤ r0 ∧ (∀ c, s0 ≤ c → c < h + 1 → ¬ key (Y.getD (mid - 1 - c).toNat 0) < key (X.getD (c - a).toNat 0)) ∧ (∀ c, x21 ≤ c → c < r0 → key (Y.getD (mid - 1 - c).toNat 0) < key (X.getD (c - a).toNat 0))) ∧ (x21 - (h + 1)).toNat < (x21 - x20).toNat) ∧
     (key n < key n1 → (s = aA (P ++ (X ++ (Y ++ R))) ∧ s0 ≤ x20 ∧ x20 ≤ h ∧ h ≤ r0 ∧ (∀ c, s0 ≤ c → c < x20 → ¬ key (Y.getD (mid - 1 - c).toNat 0) < key (X.getD (c - a).toNat 0)) ∧ (∀ c, h ≤ c → c < r0 → key (Y.getD (mid - 1 - c).toNat 0) < key (X.getD (c - a).toNat 0))) ∧ (h - x20).toNat < (x21 - x20).toNat)) ∧
    (¬ x20 < x21 → i64.wrap (mid + m - x20) = mid + m - x20 ∧ zD lo hi nl T a x20 m mid (mid + m - x20) b (iT key nl T P (X ++ Y) R) s) := by
    rintro i j _ ⟨rfl, i0, hij, hjr, hge, hlt⟩
    refine ⟨fun hc1 => ?_, fun hc1 => ?_⟩
    ·obtain ⟨h, hh⟩ : ∃ h, h = (i + j) / 2 := ⟨_, rfl⟩
     have b1 : i ≤ h ∧ h < j := by omega
     have gx := hat h (by omega) (by omega)
     have gy := hbt (mid + m - 1 - h) (by omega) (by omega)
     rw [show (mid + m - 1 - h - m).toNat = (mid - 1 - h).toNat by omega] at gy
     refine ⟨h, hh, aF (by omega) (by omega), aF (by omega) (by omega), ⟨by omega, by omega, by rw [c8 gy]; rfl⟩, ⟨by omega, by omega, by rw [c8 gx]; rfl⟩, _, _, by rw [c8 gy]; rfl, by rw [c8 gx]; rfl, kU hr gy, kU hr gx, fun hk => ?_, fun hk => ?_⟩
     ·refine ⟨⟨rfl, by omega, by omega, hjr, fun c c1 c2 => ?_, hlt⟩, by omega⟩
      have u := hX.get (i := (c - a).toNat) (j := (h - a).toNat) (by omega) (by omega)
      have v := hY.get (i := (mid - 1 - h).toNat) (j := (mid - 1 - c).toNat) (by omega) (by omega)
      omega
     ·refine ⟨⟨rfl, i0, by omega, by omega, hge, fun c c1 c2 => ?_⟩, by omega⟩
      have u := hX.get (i := (h - a).toNat) (j := (c - a).toNat) (by omega) (by omega)
      have v := hY.get (i := (mid - 1 - c).toNat) (j := (mid - 1 - h).toNat) (by omega) (by omega)
      omega
    ·have hij2 : i = j := by omega
     subst hij2
     refine ⟨aF (by omega) (by omega), ?_⟩
     have l1 : (X.take (i - a).toNat).length = (i - a).toNat := by rw [List.length_take]; omega
     have l2 : (X.drop (i - a).toNat).length = X.length - (i - a).toNat := List.length_drop
     have l3 : (Y.take (mid - i).toNat).length = (mid - i).toNat := by rw [List.length_take]; omega
     have l4 : (Y.drop (mid - i).toNat).length = Y.length - (mid - i).toNat := List.length_drop
     have eX : X.take (i - a).toNat ++ X.drop (i - a).toNat = X := List.take_append_drop _ _
     have eY : Y.take (mid - i).toNat ++ Y.drop (mid - i).toNat = Y := List.take_append_drop _ _
     have tk : ∀ (L : List Int) (k q : Nat), q < k → (L.take k).getD q 0 = L.getD q 0 := fun L k q h => by simp only [List.getD]; rw [List.getElem?_take_of_lt h]
     have dk : ∀ (L : List Int) (k q : Nat), (L.drop k).getD q 0 = L.getD (k + q) 0 := fun L k q => by simp only [List.getD, List.getElem?_drop]
     have f1 : ∀ x ∈ X.drop (i - a).toNat, ∀ y ∈ Y.take (mid - i).toNat, key y < key x := fun x hx y hy => by
      obtain ⟨q, hq, rfl⟩ := kV hx
      obtain ⟨p, hp, rfl⟩ := kV hy
      rw [l2] at hq
      rw [l3] at hp
      rw [tk _ _ _ hp, dk]
      have hir : i < r0 := by rw [hr0]; split <;> omega
      have k0 := hlt i (Int.le_refl _) hir
      have u := hX.get (i := (i - a).toNat) (j := (i - a).toNat + q) (by omega) (by omega)
      have v := hY.get (i := p) (j := (mid - 1 - i).toNat) (by omega) (by omega)
      omega
     have f2 : ∀ x ∈ X.take (i - a).toNat, ∀ y ∈ Y.drop (mid - i).toNat, key x ≤ key y := fun x hx y hy => by
      obtain ⟨q, hq, rfl⟩ := kV hx
      obtain ⟨p, hp, rfl⟩ := kV hy
      rw [l1] at hq
      rw [l4] at hp
      rw [tk _ _ _ hq, dk]
      have his : s0 ≤ i - 1 := by rw [hs0]; split <;> omega
      have k0 := hge (i - 1) his (by omega)
      rw [show (mid - 1 - (i - 1)).toNat = (mid - i).toNat by omega] at k0
      have u := hX.get (i := q) (j := (i - 1 - a).toNat) (by omega) (by omega)
      have v := hY.get (i := (mid - i).toNat) (j := (mid - i).toNat + p) (by omega) (by omega)
      omega
     have := zpn lo hi nl (N := N) ih hlen P (X.take (i - a).toNat) (X.drop (i - a).toNat) (Y.take (mid - i).toNat) (Y.drop (mid - i).toNat) R a i m mid (mid + m - i) b ha hP (by omega) (by omega) (by omega) (by omega) (by omega) hhi
      (by rw [← List.append_assoc (Y.take _), eY, ← List.append_assoc (X.take _), eX]; exact hr) (by rw [eX]; exact hX) (by rw [eY]; exact hY) f1 f2 (by omega) (by omega)
     rw [← List.append_assoc (Y.take _) _ R, eY, ← List.append_assoc (X.take _) _ (Y ++ R), eX] at this
     exact this
   refine bN (by simp; omega) (bN (by simp; omega) ?_)
   refine aH (fun hm2 => ?_) (fun hm2 => ?_)
   ·simp only [decide_eq_true_eq] at hm2
    rw [if_pos hm2] at hs0 hr0
    refine ⟨⟨rfl, rfl, by omega, by omega, by omega, fun c c1 c2 => by omega, fun c c1 c2 => by omega⟩, ?_⟩
    rintro i j s hJ
    obtain ⟨b1, b2⟩ := body i j s hJ
    refine aH (fun hc1 => ?_) (fun hc1 => ?_)
    ·simp only [decide_eq_true_eq] at hc1
     obtain ⟨h, hh, e1, e2, e3, e4, n, n1, g1, g2, r1, r2, k1, k2⟩ := b1 hc1
     rw [qE (by omega) (by omega) (by omega), ← hh, e1, e2]
     refine ⟨e3, n, g1, e4, n1, g2, ?_⟩
     refine (hc n n1 r1 r2).mono ?_
     rintro _ ⟨n2, rfl, hn2⟩
     refine ⟨n2, rfl, rfl, aH (fun hl => ?_) (fun hl => ?_)⟩
     ·simp only [Bool.not_eq_true', decide_eq_false_iff_not] at hl
      obtain ⟨q1, q2⟩ := k1 fun h => hl (hn2.2 h)
      exact ⟨rfl, q1, q2⟩
     ·simp only [Bool.not_eq_true', decide_eq_false_iff_not, Decidable.not_not] at hl
      obtain ⟨q1, q2⟩ := k2 (hn2.1 hl)
      exact ⟨rfl, q1, q2⟩
    ·simp only [decide_eq_true_eq] at hc1
     obtain ⟨e1, e2⟩ := b2 hc1
     rw [e1]
     exact e2
   ·simp only [decide_eq_true_eq] at hm2
    rw [if_neg hm2] at hs0 hr0
    refine ⟨⟨rfl, rfl, by omega, by omega, by omega, fun c c1 c2 => by omega, fun c c1 c2 => by omega⟩, ?_⟩
    rintro i j s hJ
    obtain ⟨b1, b2⟩ := body i j s hJ
    refine aH (fun hc1 => ?_) (fun hc1 => ?_)
    ·simp only [decide_eq_true_eq] at hc1
     obtain ⟨h, hh, e1, e2, e3, e4, n, n1, g1, g2, r1, r2, k1, k2⟩ := b1 hc1
     rw [qE (by omega) (by omega) (by omega), ← hh, e1, e2]
     refine ⟨e3, n, g1, e4, n1, g2, ?_⟩
     refine (hc n n1 r1 r2).mono ?_
     rintro _ ⟨n2, rfl, hn2⟩
     refine ⟨n2, rfl, rfl, aH (fun hl => ?_) (fun hl => ?_)⟩
     ·simp only [Bool.not_eq_true', decide_eq_false_iff_not] at hl
      obtain ⟨q1, q2⟩ := k1 fun h => hl (hn2.2 h)
      exact ⟨rfl, q1, q2⟩
     ·simp only [Bool.not_eq_true', decide_eq_false_iff_not, Decidable.not_not] at hl
      obtain ⟨q1, q2⟩ := k2 (hn2.1 hl)
      exact ⟨rfl, q1, q2⟩
    ·simp only [decide_eq_true_eq] at hc1
     obtain ⟨e1, e2⟩ := b2 hc1
     rw [e1]
     exact e2
end
end Go.Eng



namespace Go.Eng
open Go Go.Proofs Go.Eng.Rows Go.Eng.Srt
section
variable {key : Int → Int} {T : PV}
def mD (key : Int → Int) (k : Nat) (Bs : List (List Int)) : Prop := ∀ B ∈ Bs, B.length = k ∧ Srtd key B
theorem zF {k : Nat} : ∀ {Bs : List (List Int)}, mD key k Bs → Bs.flatten.length = k * Bs.length
 | [], _ => by simp
 | B :: Bs, h => by
   rw [List.flatten_cons, List.length_append, (h B List.mem_cons_self).1, zF (Bs := Bs) fun C hC => h C (List.mem_cons_of_mem _ hC), List.length_cons, Nat.mul_add]; omega
theorem tZ (Bs : List (List Int)) : Bs = [] ∨ (∃ X, Bs = [X]) ∨ ∃ X Y Bs', Bs = X :: Y :: Bs' := by
 match Bs with
 | [] => exact .inl rfl
 | [X] => exact .inr (.inl ⟨X, rfl⟩)
 | X :: Y :: Bs' => exact .inr (.inr ⟨X, Y, Bs', rfl⟩)
theorem zge {k : Nat} {Bs : List (List Int)} {B : List Int} (h : mD key k Bs) (hl : B.length = k) (hs : Srtd key B) : mD key k (Bs ++ [B]) := fun C hC => by
 rcases List.mem_append.1 hC with hC | hC
 ·exact h C hC
 ·simp only [List.mem_singleton] at hC; subst hC; exact ⟨hl, hs⟩
theorem zG {P S R S' : List Int} (h : R32 (P ++ (S ++ R))) (k : Stab key S S') : R32 (P ++ (S' ++ R)) := h.of fun x hx => by
 simp only [List.mem_append] at hx ⊢
 rcases hx with hx | hx | hx
 ·exact .inl hx
 ·exact .inr (.inl (k.mem.2 hx))
 ·exact .inr (.inr hx)
theorem zpo (hc : iS T key) (lo hi : Nat) (nl : Bool) (P S R : List Int) (hP : P.length = lo) (hS : hi = lo + S.length) (hr : R32 (P ++ (S ++ R))) (hlen : hi < 1000000000000) :
 ACall Tryz.prog 119 [.sub 0 lo hi, .pv (.int .i64 ((hi - lo : Nat) : Int)), .fn 100 [.box 1 0]] (iU nl T (aA (P ++ (S ++ R)))) (iT key nl T P S R) := by
 have hl1 : ∀ {u v : List Int}, u.length = v.length → (aA u).length = (aA v).length := fun h => by simp [h]
 obtain ⟨n, hn⟩ : ∃ n : Int, n = ((hi - lo : Nat) : Int) := ⟨_, rfl⟩
 rw [← hn]
 have hnS : n = S.length := by omega
 refine zls _ _ _ _ _ _
  (fun a b s => b = a + 20 ∧ 0 ≤ a ∧ ∃ Bs C, s = aA (P ++ (Bs.flatten ++ C ++ R)) ∧ mD key 20 Bs ∧ (Bs.flatten.length : Int) = a ∧ Stab key S (Bs.flatten ++ C)) (fun a _ _ => (n + 1 - a).toNat)
  (fun k s => 0 < k ∧ ∃ Bs C, s = aA (P ++ (Bs.flatten ++ C ++ R)) ∧ mD key k.toNat Bs ∧ Srtd key C ∧ (C.length : Int) < k ∧ Stab key S (Bs.flatten ++ C)) (fun k _ => (n - k).toNat)
  (fun k _ _ _ k' a b s => k = k' ∧ b = a + 2 * k ∧ 0 ≤ a ∧ ∃ B2 Bs C, s = aA (P ++ (B2.flatten ++ (Bs.flatten ++ C) ++ R)) ∧ mD key (2 * k).toNat B2 ∧ mD key k.toNat Bs ∧ Srtd key C ∧ (C.length : Int) < k ∧ (B2.flatten.length : Int) = a ∧ Stab key S (B2.flatten ++ (Bs.flatten ++ C))) (fun k a _ _ => (n + 1 - a).toNat) ?_
 unfold zdh
 refine ⟨⟨rfl, rfl, Int.le_refl _, [], S, by simp, fun B hB => (by cases hB), rfl, by simpa using Stab.refl S⟩, ?_⟩
 rintro a b _ ⟨rfl, a0, Bs, C, rfl, hBs, hBl, hst⟩
 have hsl := hst.len
 rw [List.length_append] at hsl
 refine aH (fun hc1 => ?_) (fun hc1 => ?_)
 ·simp only [decide_eq_true_eq] at hc1
  have wa : i64.wrap (a + 20 + 20) = a + 20 + 20 := aF (by omega) (by omega)
  rw [wa]
  have hC : C.take 20 ++ C.drop 20 = C := List.take_append_drop _ _
  have hCl : (C.take 20).length = 20 := by rw [List.length_take]; omega
  have e1 : P ++ (Bs.flatten ++ C ++ R) = (P ++ Bs.flatten) ++ C.take 20 ++ (C.drop 20 ++ R) := by
   rw [show Bs.flatten ++ C ++ R = Bs.flatten ++ ((C.take 20 ++ C.drop 20) ++ R) by rw [hC]; simp]
   simp only [List.append_assoc]
  have := zga hc lo hi nl (P ++ Bs.flatten) (C.take 20) (C.drop 20 ++ R) a (a + 20) a0 (by rw [List.length_append]; omega) (by omega) (by omega) (by rw [← e1]; exact zG hr hst) hlen
  rw [e1]
  refine this.mono ?_
  rintro r h' ⟨S1, rfl, rfl, s1, k1⟩
  have k1l := k1.len
  refine ⟨_, ⟨rfl, rfl⟩, ⟨trivial, ⟨rfl, rfl, hl1 (by simp only [List.length_append]; omega)⟩, trivial⟩, rfl, ⟨rfl, by omega, Bs ++ [S1], C.drop 20, by simp, zge hBs (by omega) s1, by simp only [List.flatten_append, List.flatten_cons, List.flatten_nil, List.append_nil, List.length_append]; omega, ?_⟩, by dsimp only; omega⟩
  refine hst.trans ?_
  have := (Stab.refl (key := key) Bs.flatten).app (k1.app (Stab.refl (C.drop 20)))
  rw [hC] at this
  simpa using this
 ·simp only [decide_eq_true_eq] at hc1
  have e1 : P ++ (Bs.flatten ++ C ++ R) = (P ++ Bs.flatten) ++ C ++ R := by simp
  have := zga hc lo hi nl (P ++ Bs.flatten) C R a n a0 (by rw [List.length_append]; omega) (by omega) (by omega) (by rw [← e1]; exact zG hr hst) hlen
  rw [e1]
  refine this.mono ?_
  rintro r h' ⟨C1, rfl, rfl, s1, k1⟩
  have k1l := k1.len
  refine ⟨_, ⟨rfl, rfl⟩, ⟨trivial, ⟨rfl, rfl, hl1 (by simp only [List.length_append]; omega)⟩, trivial⟩, ⟨rfl, by omega, Bs, C1, by simp, hBs, s1, by omega, hst.trans ((Stab.refl _).app k1)⟩, ?_⟩
  clear hBs hBl hst hsl hc1 e1 this s1 k1 k1l
  rintro k _ ⟨k0, Bs, C, rfl, hBs, hCs, hCk, hst⟩
  have hsl := hst.len
  rw [List.length_append] at hsl
  have hbl := zF hBs
  refine aH (fun hc2 => ?_) (fun hc2 => ?_)
  ·simp only [decide_eq_true_eq] at hc2
   have w2 : i64.wrap (2 * k) = 2 * k := aF (by omega) (by omega)
   have w3 : i64.wrap (k * 2) = 2 * k := by rw [aF (by omega) (by omega)]; omega
   rw [w2]
   refine ⟨⟨rfl, rfl, by omega, Int.le_refl _, [], Bs, C, by simp, fun B hB => (by cases hB), hBs, hCs, hCk, rfl, by simpa using hst⟩, ?_⟩
   clear hBs hCs hCk hst hsl hbl
   rintro _ a b _ ⟨rfl, rfl, a0, B2, Bs, C, rfl, hB2, hBs, hCs, hCk, hBl, hst⟩
   have hsl := hst.len
   rw [List.length_append, List.length_append] at hsl
   have hbl := zF hBs
   have hRs : R32 (P ++ (B2.flatten ++ (Bs.flatten ++ C) ++ R)) := zG hr hst
   rw [w2, w3]
   have hkn : (k.toNat : Int) = k := by omega
   refine aH (fun hc3 => ?_) (fun hc3 => ?_)
   ·simp only [decide_eq_true_eq] at hc3
    have w4 : i64.wrap (a + k) = a + k := aF (by omega) (by omega)
    have w5 : i64.wrap (a + 2 * k + 2 * k) = a + 2 * k + 2 * k := aF (by omega) (by omega)
    rw [w4, w5]
    obtain ⟨X, Y, Bs', rfl⟩ : ∃ X Y Bs', Bs = X :: Y :: Bs' := by
     rcases tZ Bs with rfl | ⟨X, rfl⟩ | h
     ·simp only [List.flatten_nil, List.length_nil] at hsl; omega
     ·have h1 := (hBs X (by simp)).1
      simp only [List.flatten_cons, List.flatten_nil, List.append_nil] at hsl; omega
     ·exact h
    obtain ⟨hXl, hXs⟩ := hBs X (by simp)
    obtain ⟨hYl, hYs⟩ := hBs Y (by simp)
    have nx : X ≠ [] := fun h => by subst h; simp at hXl; omega
    have ny : Y ≠ [] := fun h => by subst h; simp at hYl; omega
    have e1 : P ++ (B2.flatten ++ ((X :: Y :: Bs').flatten ++ C) ++ R) = (P ++ B2.flatten) ++ (X ++ (Y ++ (Bs'.flatten ++ C ++ R))) := by simp
    have := zgd hc lo hi nl hlen (2 * k + 1).toNat (P ++ B2.flatten) X Y (Bs'.flatten ++ C ++ R) a (a + k) (a + 2 * k) a0 (by rw [List.length_append]; omega) (by omega) (by omega) nx ny (by omega) (by rw [← e1]; exact hRs) hXs hYs (by omega)
    rw [e1]
    refine this.mono ?_
    rintro r h' ⟨S1, rfl, rfl, s1, k1⟩
    have k1l := k1.len
    rw [List.length_append] at k1l
    refine ⟨_, ⟨rfl, rfl⟩, ⟨trivial, ⟨rfl, rfl, hl1 (by simp only [List.length_append]; omega)⟩, trivial⟩, rfl, ⟨rfl, rfl, by omega, B2 ++ [S1], Bs', C, by simp, zge hB2 (by omega) s1, fun B hB => hBs B (by simp [hB]), hCs, hCk, by simp only [List.flatten_append, List.flatten_cons, List.flatten_nil, List.append_nil, List.length_append]; omega, ?_⟩, by dsimp only; omega⟩
    refine hst.trans ?_
    have := (Stab.refl (key := key) B2.flatten).app (k1.app (Stab.refl (Bs'.flatten ++ C)))
    simpa using this
   ·simp only [decide_eq_true_eq] at hc3
    have w4 : i64.wrap (a + k) = a + k := aF (by omega) (by omega)
    rw [w4]
    refine aH (fun hc4 => ?_) (fun hc4 => ?_)
    ·simp only [decide_eq_true_eq] at hc4
     obtain ⟨X, rfl⟩ : ∃ X, Bs = [X] := by
      rcases tZ Bs with rfl | h | ⟨X, Y, Bs', rfl⟩
      ·simp only [List.flatten_nil, List.length_nil] at hsl; omega
      ·exact h
      ·have h1 := (hBs X (by simp)).1
       have h2 := (hBs Y (by simp)).1
       simp only [List.flatten_cons, List.length_append] at hsl
       omega
     obtain ⟨hXl, hXs⟩ := hBs X (by simp)
     have nx : X ≠ [] := fun h => by subst h; simp at hXl; omega
     simp only [List.flatten_cons, List.flatten_nil, List.append_nil] at hsl hst
     have ny : C ≠ [] := fun h => by subst h; simp only [List.length_nil] at hsl; omega
     have e1 : P ++ (B2.flatten ++ ([X].flatten ++ C) ++ R) = (P ++ B2.flatten) ++ (X ++ (C ++ R)) := by simp
     have := zgd hc lo hi nl hlen (2 * k + 1).toNat (P ++ B2.flatten) X C R a (a + k) n a0 (by rw [List.length_append]; omega) (by omega) (by omega) nx ny (by omega) (by rw [← e1]; exact hRs) hXs hCs (by omega)
     rw [e1]
     refine this.mono ?_
     rintro r h' ⟨S1, rfl, rfl, s1, k1⟩
     have k1l := k1.len
     rw [List.length_append] at k1l
     exact ⟨_, ⟨rfl, rfl⟩, ⟨trivial, ⟨rfl, rfl, hl1 (by simp only [List.length_append]; omega)⟩, trivial⟩, rfl, ⟨by omega, B2, S1, by simp, hB2, s1, by omega, hst.trans ((Stab.refl _).app k1)⟩, by dsimp only; omega⟩
    ·simp only [decide_eq_true_eq] at hc4
     have hCs2 : Srtd key (Bs.flatten ++ C) ∧ ((Bs.flatten ++ C).length : Int) < 2 * k := by
      rcases tZ Bs with rfl | ⟨X, rfl⟩ | ⟨X, Y, Bs', rfl⟩
      ·exact ⟨by simpa using hCs, by simp; omega⟩
      ·have h1 := hBs X (by simp)
       simp only [List.flatten_cons, List.flatten_nil, List.append_nil] at hsl ⊢
       have hC0 : C = [] := List.length_eq_zero_iff.1 (by omega)
       subst hC0
       exact ⟨by simpa using h1.2, by simp; omega⟩
      ·exfalso
       have h1 := (hBs X (by simp)).1
       have h2 := (hBs Y (by simp)).1
       simp only [List.flatten_cons, List.length_append] at hsl
       omega
     exact ⟨rfl, ⟨by omega, B2, Bs.flatten ++ C, by simp, hB2, hCs2.1, hCs2.2, hst⟩, by dsimp only; omega⟩
  ·simp only [decide_eq_true_eq] at hc2
   have hz : Srtd key (Bs.flatten ++ C) := by
    rcases tZ Bs with rfl | ⟨X, rfl⟩ | ⟨X, Y, Bs', rfl⟩
    ·simpa using hCs
    ·have h1 := hBs X (by simp)
     simp only [List.flatten_cons, List.flatten_nil, List.append_nil] at hsl ⊢
     have hC0 : C = [] := List.length_eq_zero_iff.1 (by omega)
     subst hC0
     simpa using h1.2
    ·exfalso
     have h1 := (hBs X (by simp)).1
     have h2 := (hBs Y (by simp)).1
     simp only [List.flatten_cons, List.length_append] at hsl
     omega
   exact ⟨Bs.flatten ++ C, rfl, rfl, hz, hst⟩
theorem zpp (hc : iS T key) (lo hi : Nat) (nl : Bool) (P S R : List Int) (hP : P.length = lo) (hS : hi = lo + S.length) (hr : R32 (P ++ (S ++ R))) (hlen : hi < 1000000000000) :
 ACall Tryz.prog 99 [.sub 0 lo hi, .fn 100 [.box 1 0]] (iU nl T (aA (P ++ (S ++ R)))) (iT key nl T P S R) := by
 refine zlt _ _ _ _ _ ?_
 unfold zdi
 refine (zpo hc lo hi nl P S R hP hS hr hlen).mono ?_
 rintro r h' ⟨S1, rfl, rfl, s1, k1⟩
 exact ⟨_, ⟨rfl, rfl⟩, ⟨trivial, ⟨rfl, rfl, by have := k1.len; simp; omega⟩, trivial⟩, S1, rfl, rfl, s1, k1⟩
end
end Go.Eng



namespace Go.Eng
open Go Go.Proofs Go.Eng.Rows Go.Eng.Srt
section
variable {Z : World → (Nat → Prop) → (Nat → Pl) → Hp → Prop} {key : Int → Int} {nl : Bool} {T : PV} {l : Nat}
def YQ (key : Int → Int) (L : List Int) (f i : Nat) (L' : List Int) : Prop := ∃ S', L' = L.take f ++ (S' ++ L.drop i) ∧ Srtd key S' ∧ Stab key ((L.take i).drop f) S'
def zH (Z : World → (Nat → Prop) → (Nat → Pl) → Hp → Prop) (key : Int → Int) (nl : Bool) (T : PV) (l N0 : Nat) : Prop :=
 ∀ (w : World) (I : Nat → Prop) (G : Nat → Pl) (L : List Int) (f i : Nat), HRel w I G (aL nl T (aA L)) → Z w I G (aL nl T (aA L)) → f + 1 < i → i ≤ L.length → R32 L → L.length < 1000000000000 → L.length = N0 →
  ∃ fn tmps assign body, (Instr.yield l #[.int .i64 f, .int .i64 i]).run Tryz.prog w = .ok (.round l fn tmps assign body) w ∧ RoundIn Fence.wide 0 Tryz.prog l fn tmps assign body w fun e w' =>
   e = .returned (.bool true) ∧ ∃ L' I' G', YQ key L f i L' ∧ HRel w' I' G' (aL nl T (aA L')) ∧ Keeps w I w' I' ∧ Like G G' (aL nl T (aA L)) (aL nl T (aA L')) ∧ Z w' I' G' (aL nl T (aA L'))
def o8 (ops : Array Oper) : Oper := ops.toList.getD 8 default
theorem e6a (y : Value) (es : List (List PV)) (i f : Int) (K : Env → Hp → Prop) : bZ Tryz.prog (fun _ => none) 39 (cE (dK Tryz.f118)).toList ((cE (dK Tryz.f118)).toList.take 8) (eM y i f) (aL nl T es) K =
 K ((35, LV.spec 32 true (.pv (.int .i64 i))) :: (34, LV.spec 32 true (.pv (.int .i64 f))) :: (33, LV.spec 32 true (.pv (.raw y))) :: (32, .pv (.bool (decide (i64.wrap (i - f) > (1 : Int))))) :: (31, .pv (.bool (decide (i64.wrap (i - f) > (1 : Int))))) ::
  (30, .pv (.int .i64 (i64.wrap (i - f)))) :: (29, .pv (.int .i64 f)) :: (28, .pv (.int .i64 i)) :: eM y i f) (aL nl T es) := by kernel_rfl
theorem e6b (y : Value) (es : List (List PV)) (i f : Int) (K : Env → Hp → Prop) : bZ Tryz.prog (fun _ => none) 39 (cE (dK Tryz.f118)).toList ((cE (dK Tryz.f118)).toList.drop 9) ((36, .pv (.bool true)) :: (32, .pv (.bool true)) :: eM y i f) (aL nl T es) K =
 K ((38, .pv (.bool false)) :: (37, .spec 32 true (.pv (.bool false))) :: (36, .pv (.bool true)) :: (32, .pv (.bool true)) :: eM y i f) (aL nl T es) := by kernel_rfl
theorem e6c (y : Value) (es : List (List PV)) (i f : Int) (K : Env → Hp → Prop) : bZ Tryz.prog (fun _ => none) 39 (cE (dK Tryz.f118)).toList ((cE (dK Tryz.f118)).toList.drop 9) ((32, .pv (.bool false)) :: eM y i f) (aL nl T es) K =
 K ((38, .pv (.bool false)) :: (37, .pv .unit) :: (32, .pv (.bool false)) :: (32, .pv (.bool false)) :: eM y i f) (aL nl T es) := by kernel_rfl
theorem zpq : dK Tryz.f118 = .region 6 (cE (dK Tryz.f118)) false := by kernel_rfl
theorem zpr : (cE (dK Tryz.f118)).size = 11 ∧ iO (cE (dK Tryz.f118)).toList = true ∧ (cE (dK Tryz.f118)).toList.length = 11 ∧ (cE (dK Tryz.f118))[8]? = some (o8 (cE (dK Tryz.f118))) ∧
 (o8 (cE (dK Tryz.f118))).dst = some 36 ∧ (o8 (cE (dK Tryz.f118))).guard = some (4, true) ∧ (o8 (cE (dK Tryz.f118))).op = .call { callee := .value (.tmp 33), args := #[.tmp 34, .tmp 35], argTypes := #[3, 3] } ∧
 ((cE (dK Tryz.f118))[4]?).bind (·.dst) = some 32 :=
 ⟨by kernel_rfl, by kernel_rfl, by kernel_rfl, by kernel_rfl, by kernel_rfl, by kernel_rfl, by kernel_rfl, by kernel_rfl⟩
theorem zps {F : Fence} {n : Nat} {P : Program} {ops : Array Oper} {Q : Exit → Act → World → Prop} {i : Nat} {rest : List Nat} {a : Act} {w : World} {o : Oper} (ho : ops[i]? = some o)
 (h : if Region.wanted o (yielded ops a.tmps) then o.wpIn F n P a w (wpOpsIn F n P ops Q rest) Q else (∀ f, o.about P w a.eval = some f → F.fn f) ∧ wpOpsIn F n P ops Q rest (a.put o.dst undef) w) : wpOpsIn F n P ops Q (i :: rest) a w := by
 simp only [wpOpsIn, ho]; exact h
theorem zpt {w : World} {I : Nat → Prop} {G : Nat → Pl} {h : Hp} {tm : Array Value} {s : Nat} {b : Bool} (hr : LRel w I G h (.pv (.bool b)) (tm.getD s undef)) : tm[s]? = some (.bool b) := by
 have := hr.bool_eq
 rw [Array.getD_eq_getD_getElem?] at this
 cases hx : tm[s]? with
 | none => rw [hx] at this; simp [undef] at this
 | some v => rw [hx] at this; simpa using this
theorem LRel.raw_eq {w : World} {I : Nat → Prop} {G : Nat → Pl} {h : Hp} {v cv : Value} (hr : LRel w I G h (.pv (.raw v)) cv) : cv = v := by cases hr with | pv _ _ h1 => cases h1; rfl
theorem zpu {N0 : Nat} (hY : zH Z key nl T l N0) (hZ : ∀ w I G h w' I' G' h', Z w I G h → HRel w I G h → HRel w' I' G' h' → TrN 5 w I G h w' I' G' h' → Z w' I' G' h') (L : List Int) (f i : Nat) (hf : f ≤ i) (hi : i ≤ L.length) (hr : R32 L) (hL : L.length < 1000000000000) (hN : L.length = N0) :
 CodeZ Z Tryz.prog 39 (dK Tryz.f118) (eM (.func (.yield l) #[] #[]) i f) (aL nl T (aA L)) fun x e h => ∃ L', x = .normal ∧ (if f + 1 < i then YQ key L f i L' else L' = L) ∧ e = (38, .pv (.bool false)) :: eM (.func (.yield l) #[] #[]) i f ∧ h = aL nl T (aA L') := by
 intro w I G a Qx hs hz hq
 obtain ⟨q1, q2, q3, q4, q5, q6, q7, q8⟩ := zpr
 rw [zpq]
 have ea := e6a (nl := nl) (T := T) (.func (.yield l) #[] #[]) (aA L) i f
 have eb := fun es => e6b (nl := nl) (T := T) (.func (.yield l) #[] #[]) es i f
 have ec := e6c (nl := nl) (T := T) (.func (.yield l) #[] #[]) (aA L) i f
 generalize cE (dK Tryz.f118) = O at *
 generalize o8 O = o at *
 have ww : i64.wrap ((i : Int) - f) = (i : Int) - f := aF (by omega) (by omega)
 rw [ww] at ea
 refine wp_mono (Q := fun x a' w' => x = .normal ∧ ∃ L' I' G', (if f + 1 < i then YQ key L f i L' else L' = L) ∧ SRel w' I' G' ((38, .pv (.bool false)) :: eM (.func (.yield l) #[] #[]) i f) (aL nl T (aA L')) 39 a' ∧ a'.defers = a.defers ∧ Z w' I' G' (aL nl T (aA L'))) ((wpIn_wide (n := 0)).1 (wpIn_region (F := wd none) ?_)) ?_
 rotate_left
 ·rintro x a' w' ⟨rfl, L', I', G', h1, h2, h3, h4⟩
  exact hq .normal _ _ w' I' G' a' ⟨L', rfl, h1, rfl, rfl⟩ h2 h3 h4
 rw [q1, show List.range 11 = List.range' 0 8 ++ (8 :: List.range' 9 2) from rfl]
 refine sS ?_
 rw [show (8 : Nat) = (O.toList.take 8).length by simp [q3]]
 have hsuf : ∀ j, j < (O.toList.drop 9).length → (O.toList.drop 9)[j]? = O[9 + j]? := fun j _ => by rw [List.getElem?_drop]; simp
 have hl2 : (O.toList.drop 9).length = 2 := by simp [q3]
 refine xA (ro := none) q2 (fun j hj => ?_) (by rw [ea]; exact ⟨rfl, rfl⟩ : bZ Tryz.prog (fun _ => none) 39 O.toList (O.toList.take 8) _ _ (fun e' h' => e' = _ ∧ h' = aL nl T (aA L))) hs (fun a w h => nomatch h.1) ?_
 ·rw [List.getElem?_take, if_pos (by simp only [List.length_take] at hj; omega)]; simp
 rintro _ _ w1 I1 G1 a1 ⟨rfl, rfl⟩ hs1 hd1 ht1
 rw [show (O.toList.take 8).length = 8 by simp [q3]]
 have hz1 := hZ _ _ _ _ _ _ _ _ hz hs.hh hs1.hh ht1.toN
 have h32 := zpt (hs1.he 32 _ rfl)
 have hyl : yielded O a1.tmps 4 = some (decide ((i : Int) - f > 1)) := by
  unfold yielded
  rw [q8]; simp [h32]
 have hwd : Region.wanted o (yielded O a1.tmps) = decide ((i : Int) - f > 1) := by unfold Region.wanted; rw [q6]; simp [hyl]
 show wpOpsIn (wd none) 0 Tryz.prog O _ (8 :: List.range' 9 2) a1 w1
 refine zps q4 ?_
 rw [hwd]
 have hdst : gZ 39 o = true := by unfold gZ; rw [q5]; rfl
 by_cases hc : f + 1 < i
 ·have hd' : decide ((i : Int) - f > 1) = true := by simp; omega
  rw [hd'] at hs1 h32 ⊢
  rw [if_pos rfl]
  refine ⟨fun _ _ => trivial, ?_⟩
  have h32' : a1.tmps.getD 32 undef = .bool true := (hs1.he 32 _ rfl).bool_eq
  have v33 := ((hs1.he 33 _ rfl).1 h32').raw_eq
  have v34 := ((hs1.he 34 _ rfl).1 h32').int_eq
  have v35 := ((hs1.he 35 _ rfl).1 h32').int_eq
  obtain ⟨fn, tmps, assign, body, hy, hR⟩ := hY w1 I1 G1 L f i hs1.hh hz1 hc hi hr hL hN
  have hrun : (o.semAt none a1.eval).run Tryz.prog w1 = .ok (.round l fn tmps assign body) w1 := by
   rw [Oper.semAt_none]
   unfold execOp
   rw [q7]
   have e33 : a1.eval (.tmp 33) = .func (.yield l) #[] #[] := v33
   have e34 : a1.eval (.tmp 34) = .int .i64 f := v34
   have e35 : a1.eval (.tmp 35) = .int .i64 i := v35
   have hres : resolve a1.eval { callee := .value (.tmp 33), args := #[.tmp 34, .tmp 35], argTypes := #[3, 3] } o.type = pure { target := .fn (.yield l) #[], args := #[.int .i64 f, .int .i64 i] } := by
    simp [resolve, e33, e34, e35, Deferred.ofValue]
   simp only [hres, pure_bind]
   exact hy
  rw [hrun]
  refine ⟨(fun x => by cases x), hR.mono ?_⟩
  rintro e w2 ⟨rfl, L', I2, G2, y1, y2, y3, y4, y5⟩
  have hs2 : SRel w2 I2 G2 ((36, .pv (.bool true)) :: (32, .pv (.bool true)) :: eM (.func (.yield l) #[] #[]) i f) (aL nl T (aA L')) 39 (a1.put o.dst (.bool true)) := by
   have s1 : SRel w1 I1 G1 ((32, .pv (.bool true)) :: eM (.func (.yield l) #[] #[]) i f) (aL nl T (aA L)) 39 a1 := hs1.le (LeE.le ⟨rfl, rfl, rfl, rfl, rfl, rfl, trivial⟩)
   obtain ⟨p1, p2⟩ := kA (v := .pv (.bool true)) hdst s1.hn y2 (s1.he.mono y3 y4) (.pv _ _ (.bool true))
   have : put o (.pv (.bool true)) ((32, .pv (.bool true)) :: eM (.func (.yield l) #[] #[]) i f) = (36, .pv (.bool true)) :: (32, .pv (.bool true)) :: eM (.func (.yield l) #[] #[]) i f := by unfold put; rw [q5]; rfl
   rwa [this] at p1
  have := xA (ro := none) (n := 0) (k := 9) q2 hsuf (by rw [eb]; exact ⟨rfl, rfl⟩ : bZ Tryz.prog (fun _ => none) 39 O.toList (O.toList.drop 9) _ _ (fun e' h' => e' = _ ∧ h' = aL nl T (aA L'))) hs2 (Q := fun x a' w' => x = .normal ∧ ∃ L' I' G', (if f + 1 < i then YQ key L f i L' else L' = L) ∧ SRel w' I' G' ((38, .pv (.bool false)) :: eM (.func (.yield l) #[] #[]) i f) (aL nl T (aA L')) 39 a' ∧ a'.defers = a.defers ∧ Z w' I' G' (aL nl T (aA L'))) (fun a w h => nomatch h.1) (by
   rintro _ _ w3 I3 G3 a3 ⟨rfl, rfl⟩ hs3 hd3 ht3
   refine ⟨rfl, L', I3, G3, by rw [if_pos hc]; exact y1, hs3.le (LeE.le ⟨rfl, rfl, rfl, rfl, rfl, rfl, trivial⟩), hd3.trans ((by unfold Act.put; cases o.dst <;> rfl : (a1.put o.dst (.bool true)).defers = a1.defers).trans hd1), hZ _ _ _ _ _ _ _ _ y5 hs2.hh hs3.hh ht3.toN⟩)
  rw [hl2] at this
  exact this
 ·have hd' : decide ((i : Int) - f > 1) = false := by simp; omega
  rw [hd'] at hs1 h32 ⊢
  rw [if_neg (by simp)]
  refine ⟨fun _ _ => trivial, ?_⟩
  have hlt : 36 < a1.tmps.size := by rw [hs1.hn]; omega
  have hs2 : SRel w1 I1 G1 ((32, .pv (.bool false)) :: eM (.func (.yield l) #[] #[]) i f) (aL nl T (aA L)) 39 (a1.put o.dst undef) := by
   have s1 : SRel w1 I1 G1 ((32, .pv (.bool false)) :: eM (.func (.yield l) #[] #[]) i f) (aL nl T (aA L)) 39 a1 := hs1.le (LeE.le ⟨rfl, rfl, rfl, rfl, rfl, rfl, trivial⟩)
   obtain ⟨p1, p2⟩ := kA (v := .bot) (cv := undef) hdst s1.hn s1.hh s1.he (.bot _)
   have : put o .bot ((32, .pv (.bool false)) :: eM (.func (.yield l) #[] #[]) i f) = (36, .bot) :: (32, .pv (.bool false)) :: eM (.func (.yield l) #[] #[]) i f := by unfold put; rw [q5]; rfl
   rw [this] at p1
   exact p1.le (LeE.le ⟨rfl, rfl, rfl, rfl, rfl, rfl, trivial⟩)
  have := xA (ro := none) (n := 0) (k := 9) q2 hsuf (by rw [ec]; exact ⟨rfl, rfl⟩ : bZ Tryz.prog (fun _ => none) 39 O.toList (O.toList.drop 9) _ _ (fun e' h' => e' = _ ∧ h' = aL nl T (aA L))) hs2 (Q := fun x a' w' => x = .normal ∧ ∃ L' I' G', (if f + 1 < i then YQ key L f i L' else L' = L) ∧ SRel w' I' G' ((38, .pv (.bool false)) :: eM (.func (.yield l) #[] #[]) i f) (aL nl T (aA L')) 39 a' ∧ a'.defers = a.defers ∧ Z w' I' G' (aL nl T (aA L'))) (fun a w h => nomatch h.1) (by
   rintro _ _ w3 I3 G3 a3 ⟨rfl, rfl⟩ hs3 hd3 ht3
   exact ⟨rfl, L, I3, G3, by rw [if_neg hc], hs3.le (LeE.le ⟨rfl, rfl, rfl, rfl, rfl, rfl, trivial⟩), hd3.trans ((by unfold Act.put; cases o.dst <;> rfl : (a1.put o.dst undef).defers = a1.defers).trans hd1), hZ _ _ _ _ _ _ _ _ hz1 hs2.hh hs3.hh ht3.toN⟩)
  rw [hl2] at this
  exact this
end
end Go.Eng



namespace Go.Eng.Srt
open Go Go.Eng
section
variable (key : Int → Int)
def dW (x y : Int) : Bool := decide (key x ≠ 0) && decide (key x < key y)
def nN (x : Int) : List Int → List Int
 | [] => [x]
 | y :: r => if dW key x y = true then y :: nN x r else x :: y :: r
def ins (l : List Int) (x : Int) : List Int := (nN key x l.reverse).reverse
def bS (l : List Int) : List Int := l.foldl (ins key) []
inductive Eqv : List Int → List Int → Prop
 | refl (a : List Int) : Eqv a a
 | swap (u v w : List Int) (x y : Int) (hx : key x ≠ 0) (hy : key y ≠ 0) (hxy : key x ≠ key y) (h : Eqv (u ++ y :: x :: v) w) : Eqv (u ++ x :: y :: v) w
def bG : List Int → Prop
 | x :: y :: r => (key y ≠ 0 → key x ≤ key y) ∧ bG (y :: r)
 | _ => True
end
variable {key : Int → Int}
theorem kW {x y : Int} : dW key x y = true ↔ key x ≠ 0 ∧ key x < key y := by simp [dW]
theorem qF {x y : Int} : dW key x y = false ↔ key x = 0 ∨ key y ≤ key x := by
 simp only [dW, Bool.and_eq_false_imp, decide_eq_true_eq, decide_eq_false_iff_not]
 constructor
 ·intro h; by_cases h0 : key x = 0
  ·exact .inl h0
  ·exact .inr (by have := h h0; omega)
 ·rintro (h | h) h0
  ·exact absurd h h0
  ·omega
theorem zgf {x : Int} : ∀ {B A : List Int}, (∀ y ∈ B, dW key x y = true) → (A = [] ∨ ∃ z A', A = z :: A' ∧ dW key x z = false) → nN key x (B ++ A) = B ++ x :: A
 | [], A, _, h => by
   rcases h with rfl | ⟨z, A', rfl, h⟩
   ·rfl
   ·simp [nN, h]
 | y :: B, A, hB, h => by
   rw [List.cons_append, nN, if_pos (hB y List.mem_cons_self), zgf (fun z hz => hB z (List.mem_cons_of_mem _ hz)) h]; rfl
theorem kX {x : Int} {A B : List Int} (h1 : ∀ y ∈ B, dW key x y = true) (h2 : A = [] ∨ ∃ A' z, A = A' ++ [z] ∧ dW key x z = false) : ins key (A ++ B) x = A ++ x :: B := by
 unfold ins
 rw [List.reverse_append, zgf (fun y hy => h1 y (List.mem_reverse.1 hy)) (h2.elim (fun e => .inl (by rw [e]; rfl)) fun ⟨A', z, e, h⟩ => .inr ⟨z, A'.reverse, by rw [e]; simp, h⟩)]
 simp
theorem t6 (l : List Int) (x : Int) : ∃ A B, l = A ++ B ∧ (∀ y ∈ B, dW key x y = true) ∧ (A = [] ∨ ∃ A' z, A = A' ++ [z] ∧ dW key x z = false) := by
 have : ∀ r : List Int, ∃ B A, r = B ++ A ∧ (∀ y ∈ B, dW key x y = true) ∧ (A = [] ∨ ∃ z A', A = z :: A' ∧ dW key x z = false) := by
  intro r
  induction r with
  | nil => exact ⟨[], [], rfl, (fun y hy => by cases hy), .inl rfl⟩
  | cons y r ih =>
    cases hp : dW key x y with
    | true =>
      obtain ⟨B, A, e, h1, h2⟩ := ih
      exact ⟨y :: B, A, by rw [e]; rfl, fun z hz => by rcases List.mem_cons.1 hz with rfl | hz; exact hp; exact h1 z hz, h2⟩
    | false => exact ⟨[], y :: r, rfl, (fun y hy => by cases hy), .inr ⟨y, r, rfl, hp⟩⟩
 obtain ⟨B, A, e, h1, h2⟩ := this l.reverse
 refine ⟨A.reverse, B.reverse, by rw [← List.reverse_append, ← e]; simp, fun y hy => h1 y (List.mem_reverse.1 hy), h2.elim (fun e => .inl (by rw [e]; rfl)) fun ⟨z, A', e, h⟩ => .inr ⟨A'.reverse, z, by rw [e]; simp, h⟩⟩
theorem zgg {l : List Int} {x y : Int} (hx : key x ≠ 0) (hxy : key x < key y) : ins key (ins key l y) x = ins key (ins key l x) y := by
 obtain ⟨B1, B2, rfl, b1, b2⟩ := t6 (key := key) l y
 obtain ⟨C1, C2, rfl, c1, c2⟩ := t6 (key := key) B1 x
 have px : ∀ z ∈ B2, dW key x z = true := fun z hz => kW.2 ⟨hx, by have := (kW.1 (b1 z hz)).2; omega⟩
 rw [kX b1 b2]
 have e1 : C1 ++ C2 ++ y :: B2 = C1 ++ (C2 ++ y :: B2) := by simp
 have e2 : C1 ++ C2 ++ B2 = C1 ++ (C2 ++ B2) := by simp
 rw [e1, kX (B := C2 ++ y :: B2) (fun z hz => ?_) c2, e2, kX (B := C2 ++ B2) (fun z hz => ?_) c2]
 ·have e3 : C1 ++ x :: (C2 ++ B2) = (C1 ++ x :: C2) ++ B2 := by simp
  rw [e3, kX b1 (.inr ?_)]
  ·simp
  ·rcases C2.eq_nil_or_concat with rfl | ⟨D, z, rfl⟩
   ·exact ⟨C1, x, rfl, qF.2 (.inr (by omega))⟩
   ·refine ⟨C1 ++ x :: D, z, by simp, ?_⟩
    rcases b2 with e | ⟨A', z', e, h⟩
    ·simp at e
    ·have : z = z' := by
      have := congrArg List.getLast? e
      simp at this; exact this
     rw [this]; exact h
 ·rcases List.mem_append.1 hz with hz | hz
  ·exact c1 z hz
  ·exact px z hz
 ·rcases List.mem_append.1 hz with hz | hz
  ·exact c1 z hz
  ·rcases List.mem_cons.1 hz with rfl | hz
   ·exact kW.2 ⟨hx, hxy⟩
   ·exact px z hz
theorem zpv {l : List Int} {x y : Int} (hx : key x ≠ 0) (hy : key y ≠ 0) (hxy : key x ≠ key y) : ins key (ins key l x) y = ins key (ins key l y) x := by
 rcases Int.lt_or_gt_of_ne hxy with h | h
 ·exact (zgg hx h).symm
 ·exact zgg hy h
theorem t7 (l : List Int) (x : Int) : bS key (l ++ [x]) = ins key (bS key l) x := by simp [bS]
theorem Eqv.trans {a b c : List Int} (h : Eqv key a b) (k : Eqv key b c) : Eqv key a c := by
 induction h with
 | refl a => exact k
 | swap u v w x y hx hy hxy h ih => exact .swap u v c x y hx hy hxy (ih k)
theorem Eqv.app {a b : List Int} (h : Eqv key a b) (p q : List Int) : Eqv key (p ++ (a ++ q)) (p ++ (b ++ q)) := by
 induction h with
 | refl a => exact .refl _
 | swap u v w x y hx hy hxy h ih =>
   have := Eqv.swap (p ++ u) (v ++ q) _ x y hx hy hxy (by simpa using ih)
   simpa using this
theorem Eqv.symm {a b : List Int} (h : Eqv key a b) : Eqv key b a := by
 induction h with
 | refl a => exact .refl _
 | swap u v w x y hx hy hxy h ih => exact ih.trans (.swap u v _ y x hy hx (Ne.symm hxy) (.refl _))
theorem zgh {a b : List Int} (h : Eqv key a b) : bS key a = bS key b := by
 induction h with
 | refl a => rfl
 | swap u v w x y hx hy hxy h ih =>
   rw [← ih]
   simp only [bS, List.foldl_append, List.foldl_cons]
   rw [zpv hx hy hxy]
theorem Eqv.len {a b : List Int} (h : Eqv key a b) : a.length = b.length := by
 induction h with
 | refl a => rfl
 | swap u v w x y hx hy hxy h ih => rw [← ih]; simp
theorem Eqv.mem {a b : List Int} (h : Eqv key a b) {z : Int} : z ∈ a ↔ z ∈ b := by
 induction h with
 | refl a => exact Iff.rfl
 | swap u v w x y hx hy hxy h ih => rw [← ih]; simp only [List.mem_append, List.mem_cons]; exact or_congr_right ⟨fun h => h.elim (fun e => .inr (.inl e)) (fun h => h.elim .inl fun h => .inr (.inr h)), fun h => h.elim (fun e => .inr (.inl e)) (fun h => h.elim .inl fun h => .inr (.inr h))⟩
theorem Eqv.ahead {x : Int} (hx : key x ≠ 0) : ∀ {B : List Int} (q : List Int), (∀ y ∈ B, key y ≠ 0 ∧ key y ≠ key x) → Eqv key (B ++ x :: q) (x :: (B ++ q))
 | [], q, _ => .refl _
 | y :: B, q, h => by
   have h1 := Eqv.ahead hx (B := B) q fun z hz => h z (List.mem_cons_of_mem _ hz)
   have h2 := h1.app [y] []
   simp only [List.append_nil, List.cons_append, List.nil_append] at h2
   obtain ⟨hy, hyx⟩ := h y List.mem_cons_self
   exact h2.trans (.swap [] (B ++ q) _ y x hy hx hyx (.refl _))
theorem zgi (hk : ∀ x, 0 ≤ key x) (l : List Int) (x : Int) : Eqv key (l ++ [x]) (ins key l x) := by
 obtain ⟨A, B, rfl, h1, h2⟩ := t6 (key := key) l x
 rw [kX h1 h2]
 by_cases hB : B = []
 ·subst hB; simp; exact .refl _
 ·obtain ⟨y, hy⟩ := List.exists_mem_of_ne_nil B hB
  have hx := (kW.1 (h1 y hy)).1
  have := (Eqv.ahead hx (B := B) [] fun z hz => by have := (kW.1 (h1 z hz)).2; have := hk x; omega).app A []
  simpa using this
theorem d9 {p : List Int → Prop} (h0 : p []) (h1 : ∀ l x, p l → p (l ++ [x])) (l : List Int) : p l := by
 have : ∀ r : List Int, p r.reverse := by
  intro r
  induction r with
  | nil => exact h0
  | cons x r ih => rw [List.reverse_cons]; exact h1 _ _ ih
 have := this l.reverse
 rwa [List.reverse_reverse] at this
theorem t8 (hk : ∀ x, 0 ≤ key x) (l : List Int) : Eqv key l (bS key l) := by
 induction l using d9 with
 | h0 => exact .refl _
 | h1 l x ih =>
   rw [t7]
   have := ih.app [] [x]
   exact Eqv.trans (by simpa using this) (zgi hk _ x)
theorem gQ : ∀ {A B : List Int}, bG key (A ++ B) ↔ bG key A ∧ bG key B ∧ (∀ z x, A.getLast? = some z → B.head? = some x → key x ≠ 0 → key z ≤ key x)
 | [], B => by simp [bG]
 | [a], [] => by simp [bG]
 | [a], b :: B => by simp [bG, and_comm]
 | a :: c :: A, B => by
   have := gQ (A := c :: A) (B := B)
   simp only [List.cons_append, bG] at this ⊢
   rw [this, List.getLast?_cons_cons, and_assoc]
theorem zgj {l : List Int} {x : Int} (h : bG key l) : bG key (ins key l x) := by
 obtain ⟨A, B, rfl, h1, h2⟩ := t6 (key := key) l x
 rw [kX h1 h2]
 obtain ⟨q1, q2, q3⟩ := gQ.1 h
 refine gQ.2 ⟨q1, ?_, fun z x' hz hx' hx0 => ?_⟩
 ·cases B with
  | nil => trivial
  | cons y B => exact ⟨fun _ => Int.le_of_lt (kW.1 (h1 y List.mem_cons_self)).2, q2⟩
 ·simp only [List.head?_cons, Option.some.injEq] at hx'
  subst hx'
  rcases h2 with rfl | ⟨A', z', rfl, hp⟩
  ·cases hz
  ·simp at hz; subst hz
   rcases qF.1 hp with h | h
   ·exact absurd h hx0
   ·exact h
theorem zpw (l : List Int) : bG key (bS key l) := by
 induction l using d9 with
 | h0 => trivial
 | h1 l x ih => rw [t7]; exact zgj ih
theorem zgk {l : List Int} (h : bG key l) : bS key l = l := by
 revert h
 induction l using d9 with
 | h0 => exact fun _ => rfl
 | h1 l x ih =>
   intro h
   obtain ⟨q1, q2, q3⟩ := gQ.1 h
   rw [t7, ih q1]
   have := kX (key := key) (x := x) (A := l) (B := []) (fun y hy => by cases hy) (by
    rcases l.eq_nil_or_concat with rfl | ⟨D, z, rfl⟩
    ·exact .inl rfl
    ·refine .inr ⟨D, z, by simp, qF.2 ?_⟩
     by_cases hx : key x = 0
     ·exact .inl hx
     ·exact .inr (q3 z x (by simp) rfl hx))
   simpa using this
theorem zgl : ∀ {S' S : List Int}, Stab key S S' → (∀ x ∈ S, key x ≠ 0) → Eqv key S S'
 | [], S, h, _ => by have := h.len; cases S with | nil => exact .refl _ | cons => simp at this
 | y :: r, S, h, h0 => by
   have hf := h.2 (key y)
   rw [List.filter_cons, if_pos (by simp)] at hf
   obtain ⟨A, B, rfl, hA, hB⟩ := List.filter_eq_cons_iff.1 hf
   have hy : key y ≠ 0 := h0 y (by simp)
   have hA' : ∀ z ∈ A, key z ≠ key y := fun z hz => by have := hA z hz; simpa using this
   have e1 := Eqv.ahead hy (B := A) B fun z hz => ⟨h0 z (by simp [hz]), hA' z hz⟩
   have hs : Stab key (A ++ B) r := by
    refine ⟨(List.perm_cons y).1 ((List.perm_middle.symm).trans h.1), fun c => ?_⟩
    have := h.2 c
    rw [List.filter_append, List.filter_cons, List.filter_cons] at this
    rw [List.filter_append]
    by_cases hc : key y = c
    ·have hn : A.filter (fun x => decide (key x = c)) = [] := List.filter_eq_nil_iff.2 fun z hz => by simp only [decide_eq_true_eq]; intro e; exact hA' z hz (e.trans hc.symm)
     rw [hn] at this ⊢
     simp only [hc, decide_true, if_true, List.nil_append, List.cons.injEq, true_and] at this
     exact this
    ·simp only [hc, decide_false, Bool.false_eq_true, if_false] at this
     exact this
   have e2 := (zgl hs fun z hz => h0 z (by rcases List.mem_append.1 hz with hz | hz <;> simp [hz])).app [y] []
   simp only [List.append_nil, List.cons_append, List.nil_append] at e2
   exact e1.trans e2
theorem zgm : ∀ {S : List Int}, Srtd key S → bG key S
 | [], _ => trivial
 | [a], _ => trivial
 | a :: b :: S, h => ⟨fun _ => (List.pairwise_cons.1 h).1 b List.mem_cons_self, zgm (List.pairwise_cons.1 h).2⟩
theorem uA (L : List Int) {i j : Nat} (hij : i ≤ j) (hj : j ≤ L.length) : L = L.take i ++ ((L.take j).drop i ++ L.drop j) ∧ (L.take i).length = i ∧ ((L.take j).drop i).length = j - i := by
 refine ⟨?_, by rw [List.length_take]; omega, by rw [List.length_drop, List.length_take]; omega⟩
 have h1 : L = L.take j ++ L.drop j := (List.take_append_drop j L).symm
 have h2 : L.take j = (L.take j).take i ++ (L.take j).drop i := (List.take_append_drop i _).symm
 rw [List.take_take, Nat.min_eq_left hij] at h2
 rw [← List.append_assoc, ← h2]; exact h1
theorem zpx (hk : ∀ x, 0 ≤ key x) {L : List Int} {i j : Nat} (hij : i ≤ j) (hj : j ≤ L.length) (hb : i = 0 ∨ key (L.getD (i - 1) 0) = 0) (hnz : ∀ k, i ≤ k → k < j → key (L.getD k 0) ≠ 0) (hend : j = L.length ∨ key (L.getD j 0) = 0)
 (hc : bG key (L.take i)) {S' : List Int} (hs : Srtd key S') (hst : Stab key ((L.take j).drop i) S') :
 Eqv key L (L.take i ++ (S' ++ L.drop j)) ∧ bG key ((L.take i ++ (S' ++ L.drop j)).take (j + 1)) ∧ (j < L.length → key ((L.take i ++ (S' ++ L.drop j)).getD j 0) = 0) := by
 obtain ⟨c1, c2, c3⟩ := uA L hij hj
 have hl : S'.length = j - i := by rw [← hst.len]; exact c3
 refine ⟨?_, ?_, fun hlt => ?_⟩
 ·have hm : ∀ x ∈ (L.take j).drop i, key x ≠ 0 := fun x hx => by
   obtain ⟨k, hk1, hk2⟩ := List.getElem_of_mem hx
   have := hnz (i + k) (by omega) (by omega)
   rw [List.getElem_drop, List.getElem_take] at hk2
   have hl2 : i + k < L.length := by omega
   simp only [List.getD, List.getElem?_eq_getElem hl2, Option.getD_some, hk2] at this
   exact this
  have := (zgl hst hm).app (L.take i) (L.drop j)
  rwa [← c1] at this
 ·rw [List.take_append, c2, List.take_of_length_le (by omega), List.take_append, hl, List.take_of_length_le (by omega : S'.length ≤ j + 1 - i), show j + 1 - i - (j - i) = 1 by omega]
  have hR : ∀ x, ((L.drop j).take 1).head? = some x → key x = 0 := fun x hx => by
   rcases hend with e | e
   ·rw [List.drop_eq_nil_of_le (by omega)] at hx; cases hx
   ·rcases Nat.lt_or_ge j L.length with h' | h'
    ·rw [List.drop_eq_getElem_cons h'] at hx
     simp only [List.take_succ_cons, List.head?_cons, Option.some.injEq] at hx
     rw [← hx]
     simpa [List.getD, List.getElem?_eq_getElem h'] using e
    ·rw [List.drop_eq_nil_of_le h'] at hx; cases hx
  refine gQ.2 ⟨hc, gQ.2 ⟨zgm hs, ?_, fun z x _ hx h0 => absurd (hR x hx) h0⟩, fun z x hz hx h0 => ?_⟩
  ·cases L.drop j with
   | nil => trivial
   | cons a r => trivial
  ·have : key z = 0 := by
    rcases hb with rfl | hb
    ·simp at hz
    ·rw [List.getLast?_eq_getElem?, c2] at hz
     by_cases h0 : i = 0
     ·subst h0; simp at hz
     ·rw [List.getElem?_take, if_pos (by omega)] at hz
      simpa [List.getD, hz] using hb
   rw [this]; exact hk x
 ·rcases hend with e | e
  ·omega
  ·rw [← List.append_assoc]
   simp only [List.getD] at e ⊢
   rw [List.getElem?_append_right (by simp only [List.length_append]; omega), List.length_append, c2, hl, List.getElem?_drop, show j + (j - (i + (j - i))) = j by omega]
   exact e
theorem zpy {S : List Int} (h : S.length ≤ 1) : Srtd key S := by
 match S, h with
 | [], _ => exact List.Pairwise.nil
 | [a], _ => exact List.pairwise_singleton _ _
end Go.Eng.Srt



namespace Go.Eng
open Go Go.Proofs Go.Eng.Rows Go.Eng.Srt
section
variable {Z : World → (Nat → Prop) → (Nat → Pl) → Hp → Prop} {key : Int → Int} {nl : Bool} {T : PV} {l : Nat} {y : Value} {es : List (List PV)}
theorem eI0 (Q : Qt) : dJ Tryz.prog (fun _ => none) 5 39 lM (fun _ => none) (dL (cM Tryz.f118)) (fC [.pv (.raw y), .box 4 0, .box 3 0] 0) (aL nl T es) Q = Q .normal (eN y 0) (aL nl T es) := by kernel_rfl
theorem eI1 (i : Int) (Q : Qt) : dJ Tryz.prog (fun _ => none) 5 39 lM (fun _ => none) (dL (cL Tryz.f118)) (eN y i) (aL nl T es) Q =
 if decide (i < (es.length : Int)) = true then Q .normal [(0, .pv (.raw y)), (1, .box 4 0), (2, .box 3 0), (4, .pv (.int .i64 i)), (9, .pv (.bool (decide (i < (es.length : Int)))))] (aL nl T es)
 else Q (.exit 0) [(0, .pv (.raw y)), (1, .box 4 0), (2, .box 3 0), (4, .pv (.int .i64 i)), (9, .pv (.bool (decide (i < (es.length : Int)))))] (aL nl T es) := by kernel_rfl
theorem eI3 (i : Int) (Q : Qt) : dJ Tryz.prog (fun _ => none) 5 39 lM (fun _ => none) (dL (cB Tryz.f118)) (eN y i) (aL nl T es) Q = Q .normal (eM y i i) (aL nl T es) := by kernel_rfl
theorem eI2 (i : Int) (Q : Qt) : dJ Tryz.prog (fun _ => none) 5 39 lM (fun _ => none) (cQ (cQ (cL Tryz.f118))) (eN y i) (aL nl T es) Q = Q .normal (eN y (i64.wrap (i + 1))) (aL nl T es) := by kernel_rfl
def zI (y : Value) (i f : Int) (b : Bool) : Env := [(0, .pv (.raw y)), (1, .box 4 0), (2, .box 3 0), (4, .pv (.int .i64 i)), (5, .pv (.int .i64 f)), (25, .pv (.bool b))]
theorem eI4 (i f : Int) (J : Int → Prop) (μ : Int → Nat) (Q : Qt) : dJ Tryz.prog (fun _ => none) 5 39 lM (fun zz_ => match zz_ with | 4 => some ⟨Int × Unit, fun s => (eM y s.1 f, aL nl T es), fun _ s => J s.1, fun s => μ s.1, fun e h => (gI e 4, ()), [], [0, 1, 2, 4, 5], [], fun p => ∀ (x4 : Int), p (x4, ()), fun p h s => h s.1⟩ | _ => none) (dL (cQ (cB Tryz.f118))) (eM y i f) (aL nl T es) Q =
 ((SameSt (eM y i f, aL nl T es) (eM y i f, aL nl T es) ∧ J i) ∧ ∀ (x4 : Int), J x4 → if decide (x4 < (es.length : Int)) = true then aM es x4 1 ∧ ∃ (n : Int), (List.drop 0 (es.getD x4.toNat [])).head? = some (.int .i32 n) ∧ PCall Tryz.prog 46 [T, .int .i32 n] fun (v : PV) => ∃ (n1 : Int), v = .int .i64 n1 ∧
  if (n1 != (0 : Int)) = true then SameSt (eM y (i64.wrap (x4 + 1)) f, aL nl T es) (eM y (i64.wrap (x4 + 1)) f, aL nl T es) ∧ J (i64.wrap (x4 + 1)) ∧ μ (i64.wrap (x4 + 1)) < μ x4
  else Q .normal (zI y x4 f (n1 != (0 : Int))) (aL nl T es)
   else Q .normal (zI y x4 f false) (aL nl T es)) := by kernel_rfl
theorem zJ : cM Tryz.f118 = .seq (dL (cM Tryz.f118)) (.block 0 (.loop (cL Tryz.f118))) ∧
 cL Tryz.f118 = .seq (dL (cL Tryz.f118)) (.seq (.block 1 (cB Tryz.f118)) (cQ (cQ (cL Tryz.f118)))) ∧
 cB Tryz.f118 = .seq (dL (cB Tryz.f118)) (.seq (dL (cQ (cB Tryz.f118))) (.seq (dK Tryz.f118) (.cond (.tmp 38) .ret .skip))) := ⟨by kernel_rfl, by kernel_rfl, by kernel_rfl⟩
theorem CodeZ.le {P : Program} {N : Nat} {c : Code} {e e' : Env} {h : Hp} {Q : Qt} (hl : LeE e' e) (hK : CodeZ Z P N c e' h Q) : CodeZ Z P N c e h Q :=
 fun w I G a Qx hs hz hq => hK w I G a Qx (hs.le hl.le) hz hq
theorem zpz (hk : ∀ x, 0 ≤ key x) (hT : ∀ r : Int, (-2147483648 ≤ r ∧ r ≤ 2147483647) → PCall Tryz.prog 46 [T, .int .i32 r] fun v => v = .int .i64 (key r)) 
 (hZ : ∀ w I G h w' I' G' h', Z w I G h → HRel w I G h → HRel w' I' G' h' → TrN 5 w I G h w' I' G' h' → Z w' I' G' h') (L0 : List Int) (hY : zH Z key nl T l L0.length) (hr : R32 L0) (hL : L0.length < 1000000000000) :
 CodeZ Z Tryz.prog 39 (cM Tryz.f118) (fC [.pv (.raw (.func (.yield l) #[] #[])), .box 4 0, .box 3 0] 0) (aL nl T (aA L0)) fun x e h => x = .normal ∧ h = aL nl T (aA (bS key L0)) := by
 obtain ⟨y, hy⟩ : ∃ y : Value, y = .func (.yield l) #[] #[] := ⟨_, rfl⟩
 rw [zJ.1, ← hy]
 refine CodeZ.seq (CodeZ.of (n0 := 5) hZ (gG (Eq.mpr (eI0 _) ?_)))
 show CodeZ Z Tryz.prog 39 (.block 0 (.loop (cL Tryz.f118))) (eN y 0) (aL nl T (aA L0)) _
 refine CodeZ.block (CodeZ.loop (σ := Nat × List Int) (fun s => (eN y s.1, aL nl T (aA s.2))) (fun s => s.1 ≤ L0.length + 1 ∧ Eqv key L0 s.2 ∧ bG key (s.2.take s.1) ∧ (s.1 = 0 ∨ L0.length < s.1 ∨ key (s.2.getD (s.1 - 1) 0) = 0)) (fun s => L0.length + 1 - s.1) (0, L0) (LeE.le ⟨rfl, rfl, rfl, rfl, trivial⟩) rfl ⟨by omega, .refl _, by simp [bG], .inl rfl⟩ ?_)
 rintro ⟨i, L⟩ ⟨hi, hq, hc, hb⟩
 have hlen := hq.len
 have hr' : R32 L := fun x hx => hr x (hq.mem.2 hx)
 dsimp only at hi hq hc hb hlen ⊢
 rw [zJ.2.1]
 refine CodeZ.seq (CodeZ.of (n0 := 5) hZ (gG (Eq.mpr (eI1 _ _) ?_)))
 by_cases hlt : i < L.length
 ·rw [if_pos (by simpa using hlt)]
  show CodeZ Z Tryz.prog 39 (.seq (.block 1 (cB Tryz.f118)) (cQ (cQ (cL Tryz.f118)))) _ _ _
  refine CodeZ.le (e' := eN y i) ⟨rfl, rfl, rfl, rfl, trivial⟩ (CodeZ.seq (CodeZ.block ?_))
  rw [zJ.2.2]
  refine CodeZ.seq (CodeZ.of (n0 := 5) hZ (gG (Eq.mpr (eI3 _ _) ?_)))
  show CodeZ Z Tryz.prog 39 (.seq (dL (cQ (cB Tryz.f118))) (.seq (dK Tryz.f118) (.cond (.tmp 38) .ret .skip))) (eM y i i) _ _
  refine CodeZ.seq (CodeZ.of (n0 := 5) hZ (gG (Eq.mpr (eI4 _ _ (fun x => ∃ j : Nat, x = j ∧ i ≤ j ∧ j ≤ L.length ∧ ∀ k, i ≤ k → k < j → key (L.getD k 0) ≠ 0) (fun x => ((L.length : Int) - x).toNat) _) ?_)))
  refine ⟨⟨rfl, i, rfl, Nat.le_refl _, by omega, fun k h1 h2 => by omega⟩, ?_⟩
  rintro _ ⟨j, rfl, hij, hj, hnz⟩
  -- what follows the row of marks
  have rest : ∀ b, (j = L.length ∨ key (L.getD j 0) = 0) → CodeZ Z Tryz.prog 39 (.seq (dK Tryz.f118) (.cond (.tmp 38) .ret .skip)) (zI y j i b) (aL nl T (aA L)) fun x e h => match x with
   | .normal => CodeZ Z Tryz.prog 39 (cQ (cQ (cL Tryz.f118))) e h fun x e h => match x with
     | .normal => ∃ s' : Nat × List Int, (∀ i v, get (eN y s'.1) i = some v → get e i = some v) ∧ h = aL nl T (aA s'.2) ∧ (s'.1 ≤ L0.length + 1 ∧ Eqv key L0 s'.2 ∧ bG key (s'.2.take s'.1) ∧ (s'.1 = 0 ∨ L0.length < s'.1 ∨ key (s'.2.getD (s'.1 - 1) 0) = 0)) ∧ L0.length + 1 - s'.1 < L0.length + 1 - i
     | _ => False
   | _ => False := fun b hend => by
   refine CodeZ.le (e' := eM y j i) ⟨rfl, rfl, rfl, rfl, rfl, trivial⟩ (CodeZ.seq ?_)
   rw [hy]
   refine (zpu hY hZ L i j hij hj hr' (by omega) hlen.symm).mono ?_
   rintro _ _ _ ⟨L', rfl, hL', rfl, rfl⟩
   refine CodeZ.cond (t := false) rfl ?_
   simp only [Bool.false_eq_true, if_false]
   refine CodeZ.skip ?_
   rw [← hy]
   refine CodeZ.le (e' := eN y j) ⟨rfl, rfl, rfl, rfl, trivial⟩ (CodeZ.of (n0 := 5) hZ (gG (Eq.mpr (eI2 _ _) ?_)))
   have wj : i64.wrap ((j : Int) + 1) = ((j + 1 : Nat) : Int) := by rw [aF (by omega) (by omega)]; omega
   rw [wj]
   have hb' : i = 0 ∨ key (L.getD (i - 1) 0) = 0 := by
    rcases hb with h | h | h
    ·exact .inl h
    ·omega
    ·exact .inr h
   obtain ⟨S', hs, hst, rfl⟩ : ∃ S', Srtd key S' ∧ Stab key ((L.take j).drop i) S' ∧ L' = L.take i ++ (S' ++ L.drop j) := by
    by_cases h1 : i + 1 < j
    ·rw [if_pos h1] at hL'
     obtain ⟨S', e, h2, h3⟩ := hL'
     exact ⟨S', h2, h3, e⟩
    ·rw [if_neg h1] at hL'
     obtain ⟨c1, c2, c3⟩ := uA L hij hj
     exact ⟨_, zpy (by omega), Stab.refl _, hL'.trans c1⟩
   obtain ⟨g1, g2, g3⟩ := zpx hk hij hj hb' hnz hend hc hs hst
   refine ⟨(j + 1, _), LeE.le ⟨rfl, rfl, rfl, rfl, trivial⟩, rfl, ⟨by dsimp only; omega, hq.trans g1, g2, ?_⟩, by dsimp only; omega⟩
   rcases Nat.lt_or_ge j L.length with h | h
   ·exact .inr (.inr (g3 h))
   ·exact .inr (.inl (by dsimp only; omega))
  by_cases hjl : j < L.length
  ·rw [if_pos (by simpa using hjl)]
   refine ⟨bW (enc := fun n => [PV.int .i32 n]) (l := L) (fun _ => rfl) (by omega) (by omega), L.getD j 0, by rw [Int.toNat_natCast, zcy hjl]; rfl, (hT _ (hr' _ (List.mem_of_getElem? (qD hjl)))).mono ?_⟩
   rintro _ rfl
   refine ⟨_, rfl, ?_⟩
   by_cases hz : key (L.getD j 0) = 0
   ·rw [if_neg (by simpa using hz)]
    exact (rest _ (.inr hz)).mono fun x e h hx => by cases x <;> first | exact hx.elim | exact CodeZ.mono hx fun x e h hx => (by cases x <;> first | exact hx | exact hx.elim)
   ·rw [if_pos (by simpa using hz)]
    have wj : i64.wrap ((j : Int) + 1) = ((j + 1 : Nat) : Int) := by rw [aF (by omega) (by omega)]; omega
    rw [wj]
    refine ⟨rfl, ⟨j + 1, rfl, by omega, hjl, fun k h1 h2 => ?_⟩, by omega⟩
    rcases Nat.lt_or_ge k j with h | h
    ·exact hnz k h1 h
    ·have : k = j := by omega
     subst this; exact hz
  ·rw [if_neg (by simpa using hjl)]
   exact (rest _ (.inl (by omega))).mono fun x e h hx => by cases x <;> first | exact hx.elim | exact CodeZ.mono hx fun x e h hx => (by cases x <;> first | exact hx | exact hx.elim)
 ·rw [if_neg (by simpa using hlt)]
  refine ⟨rfl, ?_⟩
  rw [List.take_of_length_le (by omega)] at hc
  rw [zgh hq, zgk hc]
end
end Go.Eng



namespace Go.Eng
open Go Go.Proofs Go.Eng.Rows Go.Eng.Srt
section
variable {w w' : World} {I I' : Nat → Prop} {G G' : Nat → Pl} {h h' : Hp}
theorem HRel.off (hh : HRel w I G h) {l : Nat} (o : Obj) (hI : ¬ I l) (ho : ¬ aW h G l) : HRel (w.putObj l o) I G h := by
 have hw : ∀ b, b ≠ l → (w.putObj l o).heap[b]? = w.heap[b]? := fun b hb => World.putObj_heap_other hb
 have hk : Keeps w I (w.putObj l o) I := ⟨fun b hb _ => hw b fun e => hI (e ▸ hb), fun b hb _ => hb⟩
 have blk : ∀ (i : Nat) x, h[i]? = some x → x.alive (G i) → (G i).blk ≠ l := fun i x hx ha e => ho ⟨i, x, hx, ha, e⟩
 refine ⟨fun i x hx => ?_, hh.sep, hh.nI, fun b hb => by rw [World.putObj_size]; exact hh.cl b hb⟩
 have := hh.obs i x hx
 cases x with
 | dead => trivial
 | box cs => obtain ⟨vs, ty, e1, e2, e3⟩ := this; exact ⟨vs, ty, by rw [hw _ (blk i _ hx trivial)]; exact e1, e2, fun k v hv => ⟨(e3 k v hv).1.mono hk (.refl _ _), (e3 k v hv).2⟩⟩
 | arr cs => obtain ⟨vs, ty, e1, e2, e3⟩ := this; exact ⟨vs, ty, by rw [hw _ (blk i _ hx trivial)]; exact e1, e2, fun k v hv => ⟨(e3 k v hv).1.mono hk.1 hk.2, (e3 k v hv).2⟩⟩
 | sl ty m n es =>
   cases n with
   | true => exact this
   | false =>
     obtain ⟨e1, e2, e3, e3', e4, e5⟩ := this
     refine ⟨e1, e2, e3, e3', e4, fun hc => ?_⟩
     obtain ⟨vs, f1, f2, f3⟩ := e5 hc
     exact ⟨vs, by rw [hw _ (blk i _ hx ⟨rfl, hc⟩)]; exact f1, f2, fun i' e he k v hv => ⟨(f3 i' e he k v hv).1.mono hk.1 hk.2, (f3 i' e he k v hv).2⟩⟩
 | mp kvs => obtain ⟨es, ck, e1, e2, e3⟩ := this; exact ⟨es, ck, by rw [hw _ (blk i _ hx trivial)]; exact e1, e2, fun k kv hv => ⟨(e3 k kv hv).1.mono hk.1 hk.2, (e3 k kv hv).2.mono hk.1 hk.2⟩⟩
 | iter ty rem cur => exact IterRel.mono this (hw _ (blk i _ hx trivial)) hk
theorem jT (hh : HRel w I G h) {b : Nat} {o : Obj} (ho : w.heap[b]? = some o) (hn : (match o with | .cells .. => true | .map .. => true | .mapIter .. => true | _ => false) = false) : ¬ aW h G b := by
 rintro ⟨i, ob, hi, ha, rfl⟩
 have := hh.obs i ob hi
 cases ob with
 | dead => exact ha
 | box cs => obtain ⟨vs, ty, e1, _⟩ := this; rw [ho] at e1; cases e1; cases hn
 | arr cs => obtain ⟨vs, ty, e1, _⟩ := this; rw [ho] at e1; cases e1; cases hn
 | sl ty m n es =>
   cases n with
   | true => exact absurd ha.1 (by simp)
   | false => obtain ⟨vs, e1, _⟩ := this.2.2.2.2.2 ha.2; rw [ho] at e1; cases e1; cases hn
 | mp kvs => obtain ⟨es, ck, e1, _⟩ := this; rw [ho] at e1; cases e1; cases hn
 | iter ty rem cur => obtain ⟨_, _, _, _, _, _, e1, _⟩ := this; rw [ho] at e1; cases e1; cases hn
theorem Tr.off {own own' : Nat → Prop} (t : Tr w I own w' I' own') {l : Nat} (hl : w.heap.size ≤ l) (o : Obj) : Tr w I own (w'.putObj l o) I' own' :=
 ⟨t.os, t.tape, t.output, by rw [World.putObj_size]; exact t.size, fun b hb hn => (World.putObj_heap_other (by omega)).trans (t.keep b hb hn), t.i1, t.i2, t.own2,
  fun a ha => (World.frozen?_of_block (World.putObj_heap_other (by omega))).trans (t.frz a ha), t.drawn⟩
theorem TrN.off {n0 : Nat} (t : TrN n0 w I G h w' I' G' h') {l : Nat} (hl : w.heap.size ≤ l) (o : Obj) : TrN n0 w I G h (w'.putObj l o) I' G' h' := ⟨t.t.off hl o, t.len, t.stay⟩
theorem qG (hh : HRel w I G h) (t : Tr w I (aW h G) w' I' (aW h' G')) : Keeps w I w' I' :=
 ⟨fun b hb hlt => t.keep b hlt fun ⟨o, ob, h1, h2, e⟩ => hh.nI o ob h1 h2 (e ▸ hb), fun b hb _ => t.i1 b hb⟩
theorem Keeps.trans {w1 w2 : World} {I1 I2 : Nat → Prop} (h : Keeps w I w1 I1) (hs : w.heap.size ≤ w1.heap.size) (k : Keeps w1 I1 w2 I2) : Keeps w I w2 I2 :=
 ⟨fun b hb hlt => (k.1 b (h.2 b hb hlt) (Nat.lt_of_lt_of_le hlt hs)).trans (h.1 b hb hlt), fun b hb hlt => k.2 b (h.2 b hb hlt) (Nat.lt_of_lt_of_le hlt hs)⟩
theorem Keeps.off {l : Nat} (hI : ¬ I l) (o : Obj) : Keeps w I (w.putObj l o) I := ⟨fun b hb _ => World.putObj_heap_other fun e => hI (e ▸ hb), fun b hb _ => hb⟩
structure ZR (W0 : World) (I0 : Nat → Prop) (G0 : Nat → Pl) (h0 : Hp) (l D : Nat) (rec : Loop) (W : World) (I : Nat → Prop) (G : Nat → Pl) (h : Hp) : Prop where
 t : TrN 5 W0 I0 G0 h0 W I G h
 hl : W.heap[l]? = some (.loop rec)
 hD : W.heap[D]? = some (.deferred (some []))
 nl : ¬ I l
 nD : ¬ I D
theorem ZR.step {W0 : World} {I0 : Nat → Prop} {G0 : Nat → Pl} {h0 : Hp} {l D : Nat} {rec : Loop} (z : ZR W0 I0 G0 h0 l D rec w I G h) (hh : HRel w I G h) (t : TrN 5 w I G h w' I' G' h') : ZR W0 I0 G0 h0 l D rec w' I' G' h' := by
 have l1 := (Array.getElem?_eq_some_iff.1 z.hl).1
 have l2 := (Array.getElem?_eq_some_iff.1 z.hD).1
 have n1 := jT hh z.hl rfl
 have n2 := jT hh z.hD rfl
 exact ⟨z.t.trans t, (t.t.keep l l1 n1).trans z.hl, (t.t.keep D l2 n2).trans z.hD, fun x => (t.t.i2 l x).elim z.nl (fun x => x.elim n1 fun x => by omega), fun x => (t.t.i2 D x).elim z.nD (fun x => x.elim n2 fun x => by omega)⟩
end
section
variable {key : Int → Int} {nl : Bool} {T : PV}
theorem zK {G G' : Nat → Pl} {es es' : List (List PV)} (hl : es.length = es'.length) (hG : ∀ o, o < 5 → G' o = G o) : Like G G' (aL nl T es) (aL nl T es') := by
 intro o ob ho
 have hlt : o < 5 := (List.getElem?_eq_some_iff.1 ho).1
 refine ⟨?_, fun _ => hG o hlt⟩
 match o, ho with
 | 0, ho => cases ho; exact ⟨_, rfl, trivial⟩
 | 1, ho => cases ho; exact ⟨_, rfl, rfl, rfl, hl⟩
 | 2, ho => cases ho; exact ⟨_, rfl, trivial⟩
 | 3, ho => cases ho; exact ⟨_, rfl, trivial⟩
 | 4, ho => cases ho; exact ⟨_, rfl, trivial⟩
theorem uB {w w' : World} {I I' : Nat → Prop} {G G' : Nat → Pl} {es es' : List (List PV)} (t : TrN 5 w I G (aL nl T es) w' I' G' (aL nl T es')) : ∀ o, o < 5 → G' o = G o := by
 intro o ho
 have hs := t.stay (Nat.le_refl _)
 match o, ho with
 | 0, _ => exact (hs 0 _ (by omega) rfl rfl).1
 | 1, _ => exact (hs 1 _ (by omega) rfl rfl).1
 | 2, _ => exact (hs 2 _ (by omega) rfl rfl).1
 | 3, _ => exact (hs 3 _ (by omega) rfl rfl).1
 | 4, _ => exact (hs 4 _ (by omega) rfl rfl).1
theorem eA3 (es : List (List PV)) (i f : Int) (K : Env → Hp → Prop) : bZ Tryz.prog (fun _ => none) 22 (cE (dL (fL (cR Tryz.f71)))).toList (cE (dL (fL (cR Tryz.f71)))).toList (eO f i) (aL nl T es) K = K ((6, .pv (.int .i64 f)) :: eO f i) (aL nl T es) := by kernel_rfl
theorem eA4 (es : List (List PV)) (i f : Int) (K : Env → Hp → Prop) : bZ Tryz.prog (fun _ => none) 22 (cE (cQ (fL (cR Tryz.f71)))).toList (cE (cQ (fL (cR Tryz.f71)))).toList ((6, .pv (.int .i64 f)) :: eO f i) (aL nl T es) K = K ((7, .pv (.int .i64 i)) :: (6, .pv (.int .i64 f)) :: eO f i) (aL nl T es) := by kernel_rfl
theorem eA5 (es : List (List PV)) (i f : Int) (K : Env → Hp → Prop) : bZ Tryz.prog wY 22 (cE (hE (fM (cR Tryz.f71)))).toList (cE (hE (fM (cR Tryz.f71)))).toList ((7, .pv (.int .i64 i)) :: (6, .pv (.int .i64 f)) :: eO f i) (aL nl T es) K =
 (fI es.length (some f) (some i) none ∧ ACall Tryz.prog 99 [.sub 0 f.toNat i.toNat, .fn 100 [.box 1 0]] [.sl (21, 1) false nl es, .box [.pv T]] fun (r : LV) (h' : Hp) => ∃ (t : List (List PV)), (r = .tup [] ∧ h' = [.sl (21, 1) false nl t, .box [.pv T]]) ∧
  (True ∧ (((21, 1) : Nat × Nat) = (21, 1) ∧ nl = nl ∧ es.length = t.length) ∧ True) ∧ K ((20, .tup []) :: (19, .fn 100 [.box 0 0]) :: (18, .sub 1 f.toNat i.toNat) :: (17, .pv (.int .i64 i)) :: (16, .pv (.int .i64 f)) :: (15, .own 1) :: (7, .pv (.int .i64 i)) :: (6, .pv (.int .i64 f)) :: eO f i) (aL nl T t)) := by kernel_rfl
theorem zgn : fL (cR Tryz.f71) = .seq (.region 3 (cE (dL (fL (cR Tryz.f71)))) false) (.region 4 (cE (cQ (fL (cR Tryz.f71)))) false) ∧ fM (cR Tryz.f71) = .block 1 (.region 5 (cE (hE (fM (cR Tryz.f71)))) false) ∧
 cR Tryz.f71 = .rangeFunc (.tmp 12) #[13, 14] (fL (cR Tryz.f71)) (fM (cR Tryz.f71)) ∧ iO (cE (dL (fL (cR Tryz.f71)))).toList = true ∧ iO (cE (cQ (fL (cR Tryz.f71)))).toList = true ∧ iO (cE (hE (fM (cR Tryz.f71)))).toList = true :=
 ⟨by kernel_rfl, by kernel_rfl, by kernel_rfl, by kernel_rfl, by kernel_rfl, by kernel_rfl⟩
theorem zp0 (hc : iS T key) {W0 : World} {I0 : Nat → Prop} {G0 : Nat → Pl} {L0 : List Int} {a : Act} {v12 : LV} (hs0 : SRel W0 I0 G0 [(2, .box 0 0), (5, .box 2 0), (12, v12)] (aL nl T (aA L0)) 22 a) (rec : Loop)
 (r1 : rec.state = .ready) (r2 : rec.pending = none) (r3 : rec.tmps = a.tmps) (r4 : rec.params = #[13, 14]) (r5 : rec.assign = fL (cR Tryz.f71)) (r6 : rec.body = fM (cR Tryz.f71)) :
 zH (ZR W0 I0 G0 (aL nl T (aA L0)) (W0.heap.size + 1) W0.heap.size rec) key nl T (W0.heap.size + 1) L0.length := by
 intro w I G L f i hh hz hfi hil hr hLn hN
 obtain ⟨l, hl⟩ : ∃ l, l = W0.heap.size + 1 := ⟨_, rfl⟩
 have hWl : W0.heap.size ≤ l := by omega
 rw [← hl] at hz ⊢
 refine ⟨_, _, _, _, run_yield (P := Tryz.prog) hz.hl (by rw [r4]; rfl), roundIn_of_wpIn trivial ?_⟩
 have hlt := (Array.getElem?_eq_some_iff.1 hz.hl).1
 have hel : ∀ L' : List Int, L'.length = L.length → (aA L0).length = (aA L').length := fun L' h => by simp [hN, h]
 have hs : SRel w I G (eO f i) (aL nl T (aA L)) 22 { tmps := (a.tmps.setIfInBounds 13 (.int .i64 f)).setIfInBounds 14 (.int .i64 i), defers := [] } := by
  have h1 := hs0.he.mono (qG hs0.hh hz.t.t) (zK (hel L rfl) (uB hz.t))
  have h2 := h1.set (d := 13) (v := .pv (.int .i64 f)) (by rw [hs0.hn]; omega) (.pv _ _ (.int .i64 f)) (fun _ _ _ e => by cases e)
  have h3 := h2.set (d := 14) (v := .pv (.int .i64 i)) (by simp [hs0.hn]) (.pv _ _ (.int .i64 i)) (fun _ _ _ e => by cases e)
  exact ⟨hh, fun k v hk => h3 k v ((LeE.le (e' := eO f i) ⟨rfl, rfl, rfl, rfl, trivial⟩) k v hk), by simp [hs0.hn]⟩
 obtain ⟨q1, q2, q3, q4, q5, q6⟩ := zgn
 rw [r5, q1, r4, r3]
 have hfold : ∀ x y : Value, (((#[13, 14] : Array Tmp).zip #[x, y]).foldl (fun tmps (t, a) => tmps.setIfInBounds t a) a.tmps) = (a.tmps.setIfInBounds 13 x).setIfInBounds 14 y := fun x y => by simp
 rw [hfold]
 refine wpIn_seq ?_
 show Code.wpIn (wd (some l)) 0 Tryz.prog _ (Exit.then (Code.wpIn (wd (some l)) 0 Tryz.prog _ _) _) { tmps := (a.tmps.setIfInBounds 13 (.int .i64 f)).setIfInBounds 14 (.int .i64 i), defers := [] } w
 refine wZ q4 (by rw [eA3]; exact ⟨rfl, rfl⟩ : bZ Tryz.prog (fun _ => none) 22 _ _ _ _ (fun e' h' => e' = _ ∧ h' = _)) hs ?_ ?_
 ·exact fun a w h => h
 rintro _ _ w1 I1 G1 a1 ⟨rfl, rfl⟩ hs1 hd1 ht1
 refine wZ q5 (by rw [eA4]; exact ⟨rfl, rfl⟩ : bZ Tryz.prog (fun _ => none) 22 _ _ _ _ (fun e' h' => e' = _ ∧ h' = _)) hs1 ?_ ?_
 ·exact fun a w h => h
 rintro _ _ w2 I2 G2 a2 ⟨rfl, rfl⟩ hs2 hd2 ht2
 have z1 := hz.step hh ht1.toN
 have z2 := z1.step hs1.hh ht2.toN
 refine ⟨_, run_beginRound z2.hl r1, ?_⟩
 have n2 := jT hs2.hh z2.hl rfl
 have l2 := (Array.getElem?_eq_some_iff.1 z2.hl).1
 have hs3 : SRel (w2.putObj l (.loop { rec with state := .busy })) I2 G2 _ _ 22 a2 := ⟨hs2.hh.off _ z2.nl n2, hs2.he.mono (Keeps.off z2.nl _) (.refl _ _), hs2.hn⟩
 have hp3 : (w2.putObj l (.loop { rec with state := .busy })).heap[l]? = some (.loop { rec with state := .busy }) := World.putObj_heap_same l2
 have hb : ∀ {c : Code} {Q a w}, c = fM (cR Tryz.f71) → Code.wpIn (wd (some l)) 0 Tryz.prog (.block 1 (.region 5 (cE (hE (fM (cR Tryz.f71)))) false)) Q a w → Code.wpIn (wd (some l)) 0 Tryz.prog c Q a w := fun e h => by rw [e, q2]; exact h
 refine hb r6 ?_
 have h5 : bZ Tryz.prog wY 22 (cE (hE (fM (cR Tryz.f71)))).toList (cE (hE (fM (cR Tryz.f71)))).toList ((7, .pv (.int .i64 i)) :: (6, .pv (.int .i64 f)) :: eO f i) (aL nl T (aA L)) (fun _ h' => ∃ L', YQ key L f i L' ∧ h' = aL nl T (aA L')) := by
  rw [eA5, Int.toNat_natCast, Int.toNat_natCast]
  obtain ⟨c1, c2, c3⟩ := uA L (show f ≤ i by omega) hil
  have e : aA L = aA (L.take f ++ ((L.take i).drop f ++ L.drop i)) := congrArg aA c1
  refine ⟨⟨by simp, by simp; omega, by simp; omega, trivial⟩, ?_⟩
  rw [e]
  refine (zpp hc f i nl (L.take f) ((L.take i).drop f) (L.drop i) c2 (by omega) (by rw [← c1]; exact hr) (by omega)).mono ?_
  rintro r h' ⟨S', rfl, rfl, s1, k1⟩
  refine ⟨_, ⟨rfl, rfl⟩, ⟨trivial, ⟨rfl, rfl, ?_⟩, trivial⟩, _, ⟨S', rfl, s1, k1⟩, rfl⟩
  have := k1.len
  simp only [bP, List.length_append]; omega
 refine wpIn_block ?_
 show Code.wpIn (wd (some l)) 0 Tryz.prog _ _ _ _
 refine wZ (H := wY) (ro := some l) (n := 0) (id := 5) q6 h5 hs3 ?_ ?_
 ·exact fun a w h => h
 rintro e4 _ w4 I4 G4 a4 ⟨L', hYQ, rfl⟩ hs4 hd4 ht4
 have n3 := jT hs3.hh hp3 rfl
 have hl4 : w4.heap[l]? = some (.loop { rec with state := .busy }) := (ht4.t.keep l (by rw [World.putObj_size]; exact l2) n3).trans hp3
 have l4 := (Array.getElem?_eq_some_iff.1 hl4).1
 have nI4 : ∀ b, ¬ I2 b → ¬ aW (aL nl T (aA L)) G2 b → b < w2.heap.size → ¬ I4 b := fun b x y z h => (ht4.t.i2 b h).elim x fun h => h.elim y fun h => by rw [World.putObj_size] at h; omega
 have nl4 := nI4 l z2.nl n2 l2
 have hDne : W0.heap.size ≠ l := by omega
 have nD2 := jT hs2.hh z2.hD rfl
 have lD := (Array.getElem?_eq_some_iff.1 z2.hD).1
 have hrec : ({ { rec with state := .busy } with state := if (none : Option Code).isNone then .ready else .done, pending := none } : Loop) = rec := by
  cases rec; simp only at r1 r2; subst r1; subst r2; rfl
 have hrun := run_endRound (P := Tryz.prog) none hl4
 rw [hrec] at hrun
 have hLL : L'.length = L.length := by
  obtain ⟨S', rfl, s1, k1⟩ := hYQ
  obtain ⟨c1, c2, c3⟩ := uA L (show f ≤ i by omega) hil
  have := k1.len
  rw [List.length_append, List.length_append, c2, ← this, c3, List.length_drop]; omega
 have tB : TrN 5 W0 I0 G0 (aL nl T (aA L0)) (w4.putObj l (.loop rec)) I4 G4 (aL nl T (aA L')) := ((z2.t.off hWl _).trans ht4.toN).off hWl _
 refine ⟨_, _, hrun, rfl, L', I4, G4, hYQ, hs4.hh.off _ nl4 (jT hs4.hh hl4 rfl), ?_, zK (by simp [hLL]) (fun o ho => (uB tB o ho).trans (uB hz.t o ho).symm), ⟨tB, World.putObj_heap_same l4, ?_, nl4, nI4 _ z2.nD nD2 lD⟩⟩
 ·have k1 := (qG hh ht1.t).trans ht1.t.size (qG hs1.hh ht2.t)
  have s2 := Nat.le_trans ht1.t.size ht2.t.size
  have k2 := (k1.trans s2 (Keeps.off z2.nl (.loop { rec with state := .busy }))).trans (by rw [World.putObj_size]; exact s2) (qG hs3.hh ht4.t)
  exact k2.trans (by have := ht4.t.size; rw [World.putObj_size] at this; omega) (Keeps.off nl4 _)
 ·rw [World.putObj_heap_other hDne]
  exact (ht4.t.keep _ (by rw [World.putObj_size]; exact lD) (jT hs3.hh ((World.putObj_heap_other hDne).trans z2.hD) rfl)).trans ((World.putObj_heap_other hDne).trans z2.hD)
end
end Go.Eng



namespace Go.Eng
open Go Go.Proofs
def zgo (nl fl : Bool) (es : LL) (R : LV → Hp → Prop) : Prop :=
 if (bif true then nl else !nl) = true then R (LV.pv (PV.sl true true [])) [] else gW true [] es 1 4 ∧ R (LV.own 0) [Ob.sl (21, 1) false false ([] ++ es)]
theorem zp1 (nl fl : Bool) (es : LL) {R : LV → Hp → Prop} (h : zgo nl fl es R) : ACall Tryz.prog 97 [.pv (.sl nl fl es)] [] R :=
 ACall.ofA Tryz.func97 (by kernel_rfl) (by kernel_rfl) (Nat.le_of_ble_eq_true (by kernel_rfl)) (Eq.mpr (by kernel_rfl : pN Tryz.prog (fun _ => none) Tryz.f97 [0, 2, 4] (fun _ => none) (Tryz.f97.body.getD .skip) [.pv (.sl nl fl es)] [] R = _) h)

def zp2 (nl : Bool) (ts : List PV) (es : LL) (R : LV → Hp → Prop) : Prop :=
 R (LV.fn 118 [LV.box 2 0, LV.box 1 0]) [Ob.sl (21, 1) false nl es, Ob.box [LV.pv (PV.ptr ts)], Ob.box [LV.own 0]]
theorem zp3 (nl : Bool) (ts : List PV) (es : LL) {R : LV → Hp → Prop} (h : zp2 nl ts es R) : ACall Tryz.prog 98 [.pv (.ptr ts), .own 0] [.sl (21, 1) false nl es] R :=
 ACall.of Tryz.func98 (by kernel_rfl) (by kernel_rfl) (Nat.le_of_ble_eq_true (by kernel_rfl)) (Eq.mpr (by kernel_rfl : dU Tryz.prog (fun _ => none) Tryz.f98 [0, 1, 2, 3, 4] (fun _ => none) [0, 1, 2] (Tryz.f98.body.getD .skip) [.pv (.ptr ts), .own 0] [.sl (21, 1) false nl es] R = _) h)

end Go.Eng



namespace Go.Eng
open Go Go.Proofs Go.Eng.Rows Go.Eng.Srt
theorem ACall.nilOwn {P : Program} {f : Nat} {args : List LV} {Q Q' : LV → Hp → Prop} {ty : Nat × Nat} (hc : ACall P f args [] Q) (hq : ∀ r h', Q r h' → Q' r h' ∨ ∃ fl, r = .pv (.sl true fl []) ∧ h' = [] ∧ Q' (.own 0) [.sl ty false true []]) : ACall P f args [] Q' :=
 ⟨hc.1, fun w I G cargs h1 h2 h3 => (hc.2 w I G cargs h1 h2 h3).mono fun e w' ⟨cv, r, h', I', G', e1, e2, e3, e4, e5⟩ => (hq r h' e2).elim (fun q => ⟨cv, r, h', I', G', e1, q, e3, e4, e5⟩) fun ⟨fl, hr, hh, q⟩ => by
  subst hr; subst hh
  have hcv : cv = .slice none 0 0 := by cases e4 with | pv _ _ h => cases h; rfl
  subst hcv
  have one : ∀ {o : Nat} {ob : Ob}, [Ob.sl ty false true []][o]? = some ob → ob = .sl ty false true [] := fun {o ob} h => by
   cases o with
   | zero => cases h; rfl
   | succ o => simp at h
  have dead : ∀ {p : Pl}, ¬ (Ob.sl ty false true []).alive p := fun h => by cases h.1
  have noB : ∀ b, ¬ aW [Ob.sl ty false true []] G' b := fun b ⟨o, ob, ho, ha, _⟩ => by rw [one ho] at ha; exact dead ha
  refine ⟨_, .own 0, [.sl ty false true []], I', G', e1, q, ⟨fun o ob ho => by rw [one ho]; rfl, fun o o' ob ob' ho ha => by rw [one ho] at ha; exact (dead ha).elim, fun o ob ho ha => by rw [one ho] at ha; exact (dead ha).elim, e3.cl⟩, .ownNil 0 ty false [] rfl, ?_, by simp, fun o ob' ho => by simp at ho⟩
  have t := e5.t
  exact ⟨t.os, t.tape, t.output, t.size, t.keep, t.i1, t.i2, fun b hb => (noB b hb).elim, t.frz, t.drawn⟩⟩
theorem zp4 (nl fl : Bool) (es : List (List PV)) (hn : nl = true → es = []) (ha : gW true [] es 1 4) : ACall Tryz.prog 97 [.pv (.sl nl fl es)] [] fun r h' => r = .own 0 ∧ h' = [.sl (21, 1) false nl es] := by
 refine ACall.nilOwn (ty := (21, 1)) (Q := fun r h' => (nl = true ∧ r = .pv (.sl true true []) ∧ h' = []) ∨ (nl = false ∧ r = .own 0 ∧ h' = [.sl (21, 1) false nl es])) (zp1 nl fl es ?_) ?_
 ·unfold zgo
  cases nl with
  | true => exact .inl ⟨rfl, rfl, rfl⟩
  | false => exact ⟨ha, .inr ⟨rfl, rfl, by simp⟩⟩
 ·rintro r h' (⟨rfl, rfl, rfl⟩ | ⟨rfl, rfl, rfl⟩)
  ·rw [hn rfl]; exact .inr ⟨true, rfl, rfl, rfl, rfl⟩
  ·exact .inl ⟨rfl, rfl⟩
theorem uC {P : Program} {n0 N : Nat} {c : Code} {e E : Env} {h Hh : Hp} (hS : CodeS P n0 N c e h fun x e' h' => x = .normal ∧ e' = E ∧ h' = Hh) {w : World} {I : Nat → Prop} {G : Nat → Pl} {a : Act} (hs : SRel w I G e h N a) {Q : Exit → Act → World → Prop}
 (hq : ∀ w' I' G' a', SRel w' I' G' E Hh N a' → a'.defers = a.defers → TrN n0 w I G h w' I' G' Hh → Q .normal a' w') : c.wp P Q a w :=
 hS w I G a Q hs fun x e' h' w' I' G' a' hk hs' hd ht => by obtain ⟨rfl, rfl, rfl⟩ := hk; exact hq w' I' G' a' hs' hd ht
section
variable {nl fl : Bool} {ts : List PV} {es : List (List PV)}
theorem eB0 (Q : Qt) : dJ Tryz.prog (fun _ => none) 0 22 [1, 2, 4] (fun _ => none) (cO0 Tryz.f71) (fC [.pv (.ptr ts), .pv (.sl nl fl es)] 0) [] Q = Q .normal [(1, .pv (.sl nl fl es)), (2, .box 0 0), (4, .pv (.sl true true []))] [.box [.pv (.ptr ts)]] := by kernel_rfl
theorem eB1 (Q : Qt) : dJ Tryz.prog zdb 0 22 [2, 5] (fun _ => none) (cO1 Tryz.f71) [(1, .pv (.sl nl fl es)), (2, .box 0 0)] [.box [.pv (.ptr ts)]] Q =
 ACall Tryz.prog 97 [.pv (.sl nl fl es)] [] fun (r : LV) (h' : Hp) => ∃ (_ : Unit), (r = .own 0 ∧ h' = [.sl (21, 1) false nl es]) ∧ True ∧ Q .normal [(2, .box 0 0), (5, .box 2 0)] [.box [.pv (.ptr ts)], .sl (21, 1) false nl es, .box [.own 1]] := by kernel_rfl
theorem eB2 (Q : Qt) : dJ Tryz.prog zdb 0 22 [2, 5, 12] (fun _ => none) (cO2 Tryz.f71) [(2, .box 0 0), (5, .box 2 0)] [.box [.pv (.ptr ts)], .sl (21, 1) false nl es, .box [.own 1]] Q =
 ACall Tryz.prog 98 [.pv (.ptr ts), .own 0] [.sl (21, 1) false nl es] fun (r : LV) (h' : Hp) => ∃ (_ : Unit), (r = .fn 118 [.box 2 0, .box 1 0] ∧ h' = [.sl (21, 1) false nl es, .box [.pv (.ptr ts)], .box [.own 0]]) ∧
  ((((21, 1) : Nat × Nat) = (21, 1) ∧ nl = nl ∧ es.length = es.length) ∧ True) ∧ Q .normal [(2, .box 0 0), (5, .box 2 0), (12, .fn 118 [.box 4 0, .box 3 0])] (aL nl (.ptr ts) es) := by kernel_rfl
theorem eB6 (Q : Qt) : dJ Tryz.prog (fun _ => none) 5 22 [4] (fun _ => none) (cO6 Tryz.f71) [(2, .box 0 0), (5, .box 2 0)] (aL nl (.ptr ts) es) Q = Q .normal [(4, .own 1)] (aL nl (.ptr ts) es) := by kernel_rfl
theorem zL : cM Tryz.f71 = .seq (cO0 Tryz.f71) (.seq (cO1 Tryz.f71) (.seq (.seq (cO2 Tryz.f71) (.block 0 (cR Tryz.f71))) (.seq (cO6 Tryz.f71) .ret))) ∧ Tryz.f71.body = some (cM Tryz.f71) ∧ Tryz.f71.ntmps = 22 ∧
 Tryz.f118.body = some (cM Tryz.f118) ∧ Tryz.f118.ntmps = 39 ∧ Tryz.f71.results = #[.tmp 4] ∧ Tryz.f118.results = #[] ∧ Tryz.f71.body.isNone = false ∧ (Tryz.f71.name == "runtime.NumGoroutine") = false ∧ Tryz.f118.body.isNone = false ∧ (Tryz.f118.name == "runtime.NumGoroutine") = false :=
 ⟨by kernel_rfl, by kernel_rfl, by kernel_rfl, by kernel_rfl, by kernel_rfl, by kernel_rfl, by kernel_rfl, by kernel_rfl, by kernel_rfl, by kernel_rfl, by kernel_rfl⟩
variable {key : Int → Int}
theorem Tr.alloc0 {w : World} {I own : Nat → Prop} (o : Obj) : Tr w I own (w.alloc o) I own :=
 ⟨rfl, rfl, rfl, by simp, fun b hb _ => cW w o hb, fun _ h => h, fun _ h => .inl h, fun _ h => .inl h, fun a ha => World.frozen?_of_block (cW w o ha), Nat.le_refl _⟩
theorem KA.alloc0 (w : World) (o : Obj) : KA w (w.alloc o) := ⟨by simp, fun b hb => cW w o hb⟩
theorem zp5 (hk : ∀ x, 0 ≤ key x) (hT : ∀ r : Int, (-2147483648 ≤ r ∧ r ≤ 2147483647) → PCall Tryz.prog 46 [.ptr ts, .int .i32 r] fun v => v = .int .i64 (key r)) (hc : iS (.ptr ts) key) (L : List Int) (hr : R32 L) (hL : L.length < 1000000000000)
 {w3 : World} {I3 : Nat → Prop} {G3 : Nat → Pl} {a3 : Act} {v12 : LV} (hs3 : SRel w3 I3 G3 [(2, .box 0 0), (5, .box 2 0), (12, v12)] (aL nl (.ptr ts) (aA L)) 22 a3) (rec : Loop) (r1 : rec.state = .ready) (r2 : rec.pending = none) (r3 : rec.tmps = a3.tmps) (r4 : rec.params = #[13, 14])
 (r5 : rec.assign = fL (cR Tryz.f71)) (r6 : rec.body = fM (cR Tryz.f71)) (vs : Array Value) (hvsz : vs.size = 2) (hvs : ∀ (k : Nat) v, [LV.box 4 0, LV.box 3 0][k]? = some v → LRel w3 I3 G3 (aL nl (.ptr ts) (aA L)) v (vs.getD k undef)) :
 Calls Tryz.prog 118 (#[Value.func (.yield (w3.heap.size + 1)) #[] #[]] ++ vs) ((w3.alloc (.deferred (some []))).alloc (.loop rec)) fun e w4 => (∃ v, e = .returned v) ∧ ∃ I4 G4, HRel w4 I4 G4 (aL nl (.ptr ts) (aA (bS key L))) ∧
  ZR w3 I3 G3 (aL nl (.ptr ts) (aA L)) (w3.heap.size + 1) w3.heap.size rec w4 I4 G4 (aL nl (.ptr ts) (aA (bS key L))) := by
 obtain ⟨k1, k2, k3, k4, k5, k6, k7, k8, k9, k10, k11⟩ := zL
 obtain ⟨W1, hW1⟩ : ∃ W1, W1 = (w3.alloc (.deferred (some []))).alloc (.loop rec) := ⟨_, rfl⟩
 rw [← hW1]
 have tA : Tr w3 I3 (aW (aL nl (.ptr ts) (aA L)) G3) W1 I3 (aW (aL nl (.ptr ts) (aA L)) G3) := by rw [hW1]; exact (Tr.alloc0 _).trans (Tr.alloc0 _)
 have ka : KA w3 W1 := by rw [hW1]; exact (KA.alloc0 _ _).trans (KA.alloc0 _ _)
 have hl1 : W1.heap[w3.heap.size + 1]? = some (.loop rec) := by rw [hW1]; have := World.alloc_heap_new (w3.alloc (.deferred (some []))) (.loop rec); rwa [World.size_alloc] at this
 have hD1 : W1.heap[w3.heap.size]? = some (.deferred (some [])) := by rw [hW1]; exact (cW _ _ (by simp)).trans (World.alloc_heap_new w3 _)
 have z1 : ZR w3 I3 G3 (aL nl (.ptr ts) (aA L)) (w3.heap.size + 1) w3.heap.size rec W1 I3 G3 (aL nl (.ptr ts) (aA L)) := ⟨(TrH.same tA).toN, hl1, hD1, fun h => by have := hs3.hh.cl _ h; omega, fun h => by have := hs3.hh.cl _ h; omega⟩
 have hRd := zp0 hc hs3 rec r1 r2 r3 r4 r5 r6
 have hwalk := zpz hk hT (fun w I G h w' I' G' h' z hh _ t => z.step hh t) L hRd hr hL
 have hsW : SRel W1 I3 G3 (fC [.pv (.raw (Value.func (.yield (w3.heap.size + 1)) #[] #[])), .box 4 0, .box 3 0] 0) (aL nl (.ptr ts) (aA L)) 39 { tmps := (#[Value.func (.yield (w3.heap.size + 1)) #[] #[]] ++ vs) ++ Array.replicate (39 - (#[Value.func (.yield (w3.heap.size + 1)) #[] #[]] ++ vs).size) undef, defers := [] } := by
  obtain ⟨y, hy⟩ : ∃ y, y = Value.func (.yield (w3.heap.size + 1)) #[] #[] := ⟨_, rfl⟩
  rw [← hy]
  obtain ⟨x0, x1, rfl⟩ : ∃ x0 x1, vs = #[x0, x1] := by
   obtain ⟨l⟩ := vs
   match l, hvsz with
   | [a, b], _ => exact ⟨a, b, rfl⟩
  have hk : Keeps w3 I3 W1 I3 := ⟨fun b _ hb => ka.2 b hb, fun b hb _ => hb⟩
  have h1 := (hvs 0 _ rfl).mono hk (.refl _ _)
  have h2 := (hvs 1 _ rfl).mono hk (.refl _ _)
  have e0 : ∀ r : Array Value, (#[y] ++ #[x0, x1] ++ r).getD 0 undef = y := fun r => by rw [Array.getD_eq_getD_getElem?, Array.getElem?_append_left (by simp)]; rfl
  have e1 : ∀ r : Array Value, (#[y] ++ #[x0, x1] ++ r).getD 1 undef = x0 := fun r => by rw [Array.getD_eq_getD_getElem?, Array.getElem?_append_left (by simp)]; rfl
  have e2 : ∀ r : Array Value, (#[y] ++ #[x0, x1] ++ r).getD 2 undef = x1 := fun r => by rw [Array.getD_eq_getD_getElem?, Array.getElem?_append_left (by simp)]; rfl
  refine ⟨hs3.hh.ka ka, ?_, by simp⟩
  have he : ERel W1 I3 G3 (aL nl (.ptr ts) (aA L)) [(0, .pv (.raw y)), (1, .box 4 0), (2, .box 3 0)] (#[y] ++ #[x0, x1] ++ Array.replicate (39 - (#[y] ++ #[x0, x1]).size) undef) :=
   ((ERel.nil _ _ _ _ _).cons (s := 2) (v := .box 3 0) (by rw [e2]; exact h2)).cons (s := 1) (v := .box 4 0) (by rw [e1]; exact h1) |>.cons (s := 0) (v := .pv (.raw y)) (by rw [e0]; exact .pv _ _ (.raw _))
  exact he
 refine calls_of_wp Tryz.func118 k4 ?_
 rw [k5]
 refine hwalk W1 I3 G3 _ _ hsW z1 ?_
 rintro x e' _ w4 I4 G4 a4 ⟨rfl, rfl⟩ hs4 hd4 z4
 exact ⟨hd4, _, results_none k7 _ _ _, ⟨_, rfl⟩, I4, G4, hs4.hh, z4⟩
theorem zp6 (hk : ∀ x, 0 ≤ key x) (L : List Int) {w w3 w4 : World} {I I3 I4 : Nat → Prop} {G G3 G4 : Nat → Pl} {a3 : Act} {v12 : LV} (hs3 : SRel w3 I3 G3 [(2, .box 0 0), (5, .box 2 0), (12, v12)] (aL nl (.ptr ts) (aA L)) 22 a3) (hd30 : a3.defers = []) {rec : Loop}
 (ht3 : Tr w I (aW [] G) w3 I3 (aW (aL nl (.ptr ts) (aA L)) G3)) (hh4 : HRel w4 I4 G4 (aL nl (.ptr ts) (aA (bS key L)))) (z4 : ZR w3 I3 G3 (aL nl (.ptr ts) (aA L)) (w3.heap.size + 1) w3.heap.size rec w4 I4 G4 (aL nl (.ptr ts) (aA (bS key L)))) :
 (Code.seq (cO6 Tryz.f71) .ret).wp Tryz.prog (bodyPostM Fence.wide 0 Tryz.prog Tryz.f71 fun e w' => ∃ cv r h' I' G', e = .returned cv ∧ (∃ v, r = .pv v ∧ v = .sl nl false (aA (bS key L))) ∧ HRel w' I' G' h' ∧ LRel w' I' G' h' r cv ∧ TrH w I G [] w' I' G' h')
  { tmps := a3.tmps, defers := [{ target := .collected w3.heap.size, args := #[] }] ++ a3.defers } (w4.putObj (w3.heap.size + 1) (.loop { rec with state := .exhausted })) := by
 obtain ⟨k1, k2, k3, k4, k5, k6, k7, k8, k9, k10, k11⟩ := zL
 have hll := (t8 (key := key) hk L).len
 have n4 := jT hh4 z4.hl rfl
 have l4 := (Array.getElem?_eq_some_iff.1 z4.hl).1
 have z5 : ZR w3 I3 G3 (aL nl (.ptr ts) (aA L)) (w3.heap.size + 1) w3.heap.size { rec with state := .exhausted } (w4.putObj (w3.heap.size + 1) (.loop { rec with state := .exhausted })) I4 G4 (aL nl (.ptr ts) (aA (bS key L))) :=
  ⟨z4.t.off (by omega) _, World.putObj_heap_same l4, (World.putObj_heap_other (by omega)).trans z4.hD, z4.nl, z4.nD⟩
 have hs5 : SRel (w4.putObj (w3.heap.size + 1) (.loop { rec with state := .exhausted })) I4 G4 [(2, .box 0 0), (5, .box 2 0)] (aL nl (.ptr ts) (aA (bS key L))) 22 { tmps := a3.tmps, defers := [{ target := .collected w3.heap.size, args := #[] }] ++ a3.defers } :=
  ⟨hh4.off _ z4.nl n4, fun i v hi => ((hs3.he.mono (qG hs3.hh z4.t.t) (zK (by simp [hll]) (uB z4.t))).mono (Keeps.off z4.nl _) (.refl _ _)) i v ((LeE.le (e' := [(2, .box 0 0), (5, .box 2 0)]) ⟨rfl, rfl, trivial⟩) i v hi), hs3.hn⟩
 refine wp_seq (uC (E := [(4, .own 1)]) (Hh := aL nl (.ptr ts) (aA (bS key L))) (gG (Eq.mpr (eB6 _) ⟨rfl, rfl, rfl⟩)) hs5 fun w6 I6 G6 a6 hs6 hd6 ht6 => ?_)
 have z6 := z5.step hs5.hh ht6
 refine wp_ret ?_
 show LeavesInM Fence.wide 0 Tryz.prog _ a6.tmps _ a6.defers .returning w6
 rw [hd6, hd30]
 refine ⟨by simp, .inl ⟨_, _, rfl, run_takeDeferred z6.hD, ?_⟩⟩
 refine ⟨_, results_tmp k6 _ _ _, ?_⟩
 have hh7 := hs6.hh.off (.deferred none) z6.nD (jT hs6.hh z6.hD rfl)
 have hv7 : LRel (w6.putObj w3.heap.size (.deferred none)) I6 G6 (aL nl (.ptr ts) (aA (bS key L))) (.own 1) (a6.tmps.getD 4 undef) := LRel.mono (hs6.he 4 _ rfl) (Keeps.off z6.nD (.deferred none)) (.refl _ _)
 have hrep := oU hh7 hv7 (rfl : iH (aL nl (.ptr ts) (aA (bS key L))) (.own 1) = some (.sl nl false (aA (bS key L))))
 have ht := (ht3.trans z6.t.t).off (l := w3.heap.size) ht3.size (.deferred none)
 have hno : ∀ b, ¬ aW [] G b := fun b ⟨o, ob, ho, _⟩ => by simp at ho
 exact ⟨_, _, [], AllB I6 (aL nl (.ptr ts) (aA (bS key L))) G6, G6, rfl, ⟨_, rfl, rfl⟩, HRel.nil G6 (fun b hb => hb.elim (hh7.cl b) hh7.blk_lt), .pv _ _ hrep,
  ⟨⟨ht.os, ht.tape, ht.output, ht.size, ht.keep, fun b hb => .inl (ht.i1 b hb), fun b hb => hb.elim (ht.i2 b) (fun ho => (ht.own2 b ho).elim (fun x => absurd x (hno b)) (fun x => .inr (.inr x))), fun b hb => absurd hb (fun ⟨o, ob, ho, _⟩ => by simp at ho), ht.frz, ht.drawn⟩, Nat.le_refl _, fun o ob ho => by simp at ho⟩⟩
theorem zp7 (hk : ∀ x, 0 ≤ key x) (hT : ∀ r : Int, (-2147483648 ≤ r ∧ r ≤ 2147483647) → PCall Tryz.prog 46 [.ptr ts, .int .i32 r] fun v => v = .int .i64 (key r)) (hc : iS (.ptr ts) key) (L : List Int) (hr : R32 L) (hL : L.length < 1000000000000) :
 PCall Tryz.prog 71 [.ptr ts, .sl nl fl (aA L)] fun v => v = .sl nl false (aA (bS key L)) := by
 obtain ⟨k1, k2, k3, k4, k5, k6, k7, k8, k9, k10, k11⟩ := zL
 refine ⟨⟨_, Tryz.func71, k8, k9⟩, fun w I G cargs hh hsz hrel => ?_⟩
 simp only [List.length_map, List.length_cons, List.length_nil] at hsz
 have hn : nl = true → L = [] := fun hn => by
  subst hn
  have h1 := hrel 1 _ rfl
  generalize cargs.getD 1 undef = c1 at h1
  cases h1 with
  | pv _ _ h1 =>
    generalize hes : aA L = es at h1
    cases h1 with
    | slnil => exact List.map_eq_nil_iff.1 hes
 refine (callsIn_wide (n := 0)).1 (callsIn_of_wp_marks Tryz.func71 k2 trivial (wpIn_wide.2 ?_))
 rw [k3]
 have hs : SRel w I G (fC [.pv (.ptr ts), .pv (.sl nl fl (aA L))] 0) [] 22 { tmps := cargs ++ Array.replicate (22 - cargs.size) undef, defers := [] } := by
  refine ⟨hh, fun i v hi => ?_, by simp; omega⟩
  obtain ⟨_, h2⟩ := pM hi
  rw [Nat.sub_zero] at h2
  have hlt : i < cargs.size := by have := (List.getElem?_eq_some_iff.1 h2).1; simp at this; omega
  have := hrel i v h2
  have e1 : (cargs ++ Array.replicate (22 - cargs.size) undef).getD i undef = cargs.getD i undef := by
   rw [Array.getD_eq_getD_getElem?, Array.getD_eq_getD_getElem?, Array.getElem?_append_left hlt]
  simp only [e1]
  exact VRel.of_plain this
 rw [k1]
 -- what begins it
 refine wp_seq (uC (E := [(1, .pv (.sl nl fl (aA L))), (2, .box 0 0), (4, .pv (.sl true true []))]) (Hh := [.box [.pv (.ptr ts)]]) (gG (Eq.mpr (eB0 _) ⟨rfl, rfl, rfl⟩)) hs fun w1 I1 G1 a1 hs1 hd1 ht1 => ?_)
 have hs1' := hs1.le (LeE.le (e' := [(1, .pv (.sl nl fl (aA L))), (2, .box 0 0)]) ⟨rfl, rfl, trivial⟩)
 refine wp_seq (uC (E := [(2, .box 0 0), (5, .box 2 0)]) (Hh := [.box [.pv (.ptr ts)], .sl (21, 1) false nl (aA L), .box [.own 1]]) (gG (Eq.mpr (eB1 _) ((zp4 nl fl (aA L) (fun h => by rw [hn h]; rfl) ?_).mono fun r h' hq => ⟨(), hq, trivial, rfl, rfl, rfl⟩))) hs1' fun w2 I2 G2 a2 hs2 hd2 ht2 => ?_)
 ·exact ⟨rfl, .inl rfl, fun e he => (by cases he), fun e he => by obtain ⟨x, _, rfl⟩ := List.mem_map.1 (List.mem_of_mem_head? he); rfl, by simp; omega⟩
 refine wp_seq (wp_seq (uC (E := [(2, .box 0 0), (5, .box 2 0), (12, .fn 118 [.box 4 0, .box 3 0])]) (Hh := aL nl (.ptr ts) (aA L)) (gG (Eq.mpr (eB2 _) (zp3 nl ts (aA L) ?_))) hs2 fun w3 I3 G3 a3 hs3 hd3 ht3 => ?_))
 ·exact ⟨(), ⟨rfl, rfl⟩, ⟨⟨rfl, rfl, rfl⟩, trivial⟩, rfl, rfl, rfl⟩
 -- the loop
 have hd30 : a3.defers = [] := hd3.trans (hd2.trans hd1)
 obtain ⟨q1, q2, q3, _, _, _⟩ := zgn
 refine wp_block ?_
 rw [q3]
 obtain ⟨vs, hv12, hvsz, hvs⟩ : ∃ vs : Array Value, a3.tmps.getD 12 undef = .func (.func 118) #[] vs ∧ vs.size = 2 ∧ ∀ (k : Nat) v, [LV.box 4 0, LV.box 3 0][k]? = some v → LRel w3 I3 G3 (aL nl (.ptr ts) (aA L)) v (vs.getD k undef) := by
  have := hs3.he 12 _ rfl
  generalize a3.tmps.getD 12 undef = cv at this
  cases this with
  | fn f cs vs h1 h6 => exact ⟨vs, rfl, h1, h6⟩
 refine (wpIn_wide (n := 0)).1 (wpIn_rangeFunc (F := Fence.wide) fun fn _ => ?_)
 obtain ⟨rec, hrec⟩ : ∃ rec : Loop, rec = { state := .ready, pending := none, fn := fn, tmps := a3.tmps, params := #[13, 14], assign := fL (cR Tryz.f71), body := fM (cR Tryz.f71), defers := w3.heap.size } := ⟨_, rfl⟩
 refine ⟨w3.heap.size + 1, [{ target := .collected w3.heap.size, args := #[] }], (w3.alloc (.deferred (some []))).alloc (.loop rec), { target := .fn (.func 118) vs, args := #[.func (.yield (w3.heap.size + 1)) #[] #[]] }, (w3.alloc (.deferred (some []))).alloc (.loop rec), 118,
  #[.func (.yield (w3.heap.size + 1)) #[] #[]] ++ vs, (w3.alloc (.deferred (some []))).alloc (.loop rec), ?_, ?_, fun _ _ => trivial, ?_, fun x => (by cases x), ?_⟩
 ·rw [hrec]; exact run_enterLoop_outer _ _ _ _ _
 ·have he : a3.eval (.tmp 12) = .func (.func 118) #[] vs := hv12
  simp only [resolve, he]
  simp [go_sem]
 ·simp only [invoke]
  exact vC ⟨_, Tryz.func118, k10, k11⟩
 refine (callsIn_wide).2 (Calls.mono (zp5 hk hT hc L hr hL hs3 rec (by rw [hrec]) (by rw [hrec]) (by rw [hrec]) (by rw [hrec]) (by rw [hrec]) (by rw [hrec]) vs hvsz hvs) ?_)
 rintro e w4 ⟨⟨v, rfl⟩, I4, G4, hh4, z4⟩
 have hp : rec.pending = none := by rw [hrec]
 refine ⟨none, _, (run_endLoop z4.hl (by rw [hrec]; simp)).trans (congrArg (fun j => Result.ok j _) hp), ?_⟩
 exact zp6 hk L hs3 hd30 ((ht1.t.trans ht2.t).trans ht3.t) hh4 z4
end
end Go.Eng



namespace Go.Eng
open Go Go.Proofs
def zgp (n f : Bool) (es : LL) (k : Int) (R : PV → Prop) : Prop :=
 if decide ((↑es.length : Int) > k) = true then (fI es.length none (some k) none ∧ aP es 1) ∧ R (PV.sl n (f && decide (k = (↑es.length : Int))) (List.drop 0 (List.take k.toNat es))) else R (PV.sl n f es)
theorem zp8 (n f : Bool) (es : LL) (k : Int) {R : PV → Prop} (h : zgp n f es k R) : PCall Tryz.prog 8 [.sl n f es, .int .i64 k] R :=
 PCall.of Tryz.func8 (by kernel_rfl) (by kernel_rfl) (Nat.le_of_ble_eq_true (by kernel_rfl)) (Eq.mpr (by kernel_rfl : aR Tryz.prog (fun _ => none) Tryz.f8 [0, 1, 4, 8] (fun _ => none) (Tryz.f8.body.getD .skip) [.sl n f es, .int .i64 k] R = _) h)

def zM (n f : Bool) (es : LL) (n2 f2 : Bool) (es2 : LL) (x5 : Int) : Env × Hp := ([(0, LV.pv (PV.sl n f es)), (1, LV.pv (PV.sl n2 f2 es2)), (5, Y6 x5)], [])
def zN (n f : Bool) (es : LL) (n2 f2 : Bool) (es2 : LL) (J : Int → Prop) (μ : Int → Nat) (R : PV → Prop) : Prop :=
 if ((↑es.length : Int) != (↑es2.length : Int)) = true then R (Zb false) else (aC (zM n f es n2 f2 es2 (0 : Int)) ∧ J (0 : Int)) ∧ ∀ (x5 : Int), J x5 → if decide (x5 < (↑es.length : Int)) = true then aM es x5 1 ∧ ∃ (n1 : Int),
 (es.getD x5.toNat []).head? = some (Z3 n1) ∧ aM es2 x5 1 ∧ ∃ n3, (es2.getD x5.toNat []).head? = some (Z3 n3) ∧ if (n1 != n3) = true then R (Zb false) else aC (zM n f es n2 f2 es2 (i64.wrap (x5 + 1))) ∧ J
 (i64.wrap (x5 + 1)) ∧ μ (i64.wrap (x5 + 1)) < μ x5 else R (Zb true)
theorem zp9 (n f : Bool) (es : LL) (n2 f2 : Bool) (es2 : LL) (J : Int → Prop) (μ : Int → Nat) {R : PV → Prop} (h : zN n f es n2 f2 es2 J μ R) : PCall Tryz.prog 22 [.sl n f es, .sl n2 f2 es2] R :=
 PCall.of Tryz.func22 (by kernel_rfl) (by kernel_rfl) (Nat.le_of_ble_eq_true (by kernel_rfl)) (Eq.mpr (by kernel_rfl : aR Tryz.prog (fun _ => none) Tryz.f22 [0, 1, 4, 5, 10, 14, 25] (fun zz_ => match zz_ with | 4 => some ⟨Int × Unit, fun s => zM n f es n2 f2 es2 s.1, fun _ s => J s.1, fun s => μ s.1, fun e h => (((gI e 5), ())), [], [0, 1, 5], [], fun p => ∀ (x5 : Int), p (x5, ()), fun p h s => h s.1⟩ | _ => none) (Tryz.f22.body.getD .skip) [.sl n f es, .sl n2 f2 es2] R = _) h)

def uD (n f : Bool) (es : LL) (n2 f2 : Bool) (ss : LL) (x7 : Int) (n_0 : Bool) (s_0 : LL) (n_1 : Bool) (s_1 : LL) : Env × Hp := ([(0, LV.pv (PV.sl n f es)), (1, LV.pv (PV.sl n2 f2 ss)), (5, LV.own 0), (6, LV.own 1), (7, Y6 x7)], [.sl (21, 1) true n_0 s_0, .sl (3, 1) true n_1 s_1])
def zO (n f : Bool) (es : LL) (n2 f2 : Bool) (ss : LL) (x7 x8 x9 : Int) (n_0 : Bool) (s_0 : LL) (n_1 : Bool) (s_1 : LL) : Env × Hp := ([(0, LV.pv (PV.sl n f es)), (1, LV.pv (PV.sl n2 f2 ss)), (5, LV.own 0), (6, LV.own 1), (7, Y6 x7), (8, Y6 x8), (9, Y6 x9)], [.sl (21, 1) true n_0 s_0, .sl (3, 1) true n_1 s_1])
def zgq (n f : Bool) (es : LL) (n2 f2 : Bool) (ss : LL) (J : Int → Bool → LL → Bool → LL → Prop) (μ : Int → Bool → LL → Bool → LL → Nat) (J2 : Int → Int → Int → Bool → LL → Bool → LL → Int → Int → Int → Bool → LL → Bool → LL → Prop) (μ2 : Int → Int → Int → Bool → LL → Bool → LL → Nat) (R : PV → Prop) : Prop :=
 (aC (uD n f es n2 f2 ss (0 : Int) true [] true []) ∧ J (0 : Int) true [] true []) ∧ ∀ (x7 : Int) (n_0 : Bool) (s_0 : LL) (n_1 : Bool) (s_1 : LL), J x7 n_0 s_0 n_1 s_1 → if decide (x7 < (↑ss.length : Int)) = true then aM ss x7 1 ∧ ∃
 (n1 : Int), (ss.getD x7.toNat []).head? = some (Z3 n1) ∧ PCall Tryz.prog 75 [PV.sl n f es, Z3 n1] fun v ↦ ∃ n3, v = Z6 n3 ∧ aM ss x7 1 ∧ ∃ n4, (ss.getD x7.toNat []).head? = some (Z3 n4) ∧ (aP [[Z3 n4]] 1 ∧
 (s_0.length + 1) * 4 ≤ 140737488355328) ∧ (aP [[Z6 n3]] 1 ∧ (s_1.length + 1) * 8 ≤ 140737488355328) ∧ (aC (zO n f es n2 f2 ss x7 n3 (↑s_0.length : Int) (n_0 && false) (s_0 ++ [[Z3 n4]]) (n_1 && false) (s_1 ++ [[Z6 n3]])) ∧ J2 x7 n3
 (↑s_0.length : Int) (n_0 && false) (s_0 ++ [[Z3 n4]]) (n_1 && false) (s_1 ++ [[Z6 n3]]) x7 n3 (↑s_0.length : Int) (n_0 && false) (s_0 ++ [[Z3 n4]]) (n_1 && false) (s_1 ++ [[Z6 n3]])) ∧ ∀ (x71 x8 x9 : Int) (n_01 : Bool) (s_01 : LL) (n_11 :
 Bool) (s_11 : LL), J2 x7 n3 (↑s_0.length : Int) (n_0 && false) (s_0 ++ [[Z3 n4]]) (n_1 && false) (s_1 ++ [[Z6 n3]]) x71 x8 x9 n_01 s_01 n_11 s_11 → if (decide (x9 > 0) && x8 != 0) = true then aM s_11 (i64.wrap (x9 - 1)) 1 ∧ ∃ (n5
 : Int), (List.drop 0 (s_11.getD (i64.wrap (x9 - 1)).toNat [])).head? = some (Z6 n5) ∧ if decide (n5 > x8) = true then aM s_01 (i64.wrap (x9 - 1)) 1 ∧ ∃ n6, (List.drop 0 (s_01.getD (i64.wrap (x9 - 1)).toNat
 [])).head? = some (Z3 n6) ∧ aM s_01 x9 1 ∧ (1 = 1 ∧ 1 ≤ (s_01.getD x9.toNat []).length) ∧ aM s_11 (i64.wrap (x9 - 1)) 1 ∧ ∃ n7, (List.drop 0 (s_11.getD (i64.wrap (x9 - 1)).toNat [])).head? = some (Z6 n7) ∧
 aM s_11 x9 1 ∧ (1 = 1 ∧ 1 ≤ (s_11.getD x9.toNat []).length) ∧ aM ss x71 1 ∧ ∃ n8, (ss.getD x71.toNat []).head? = some (Z3 n8) ∧ aM (s_01.set x9.toNat (Z3 n6 :: zq (List.drop 1 (s_01.getD x9.toNat
 [])))) (i64.wrap (x9 - 1)) 1 ∧ (1 = 1 ∧ 1 ≤ ((s_01.set x9.toNat (Z3 n6 :: zq (List.drop 1 (s_01.getD x9.toNat [])))).getD (i64.wrap (x9 - 1)).toNat []).length) ∧ aM (s_11.set x9.toNat (Z6 n7 ::
 zq (List.drop 1 (s_11.getD x9.toNat [])))) (i64.wrap (x9 - 1)) 1 ∧ (1 = 1 ∧ 1 ≤ ((s_11.set x9.toNat (Z6 n7 :: zq (List.drop 1 (s_11.getD x9.toNat [])))).getD (i64.wrap (x9
 - 1)).toNat []).length) ∧ aC (zO n f es n2 f2 ss x71 x8 (i64.wrap (x9 - 1)) n_01 ((s_01.set x9.toNat (Z3 n6 :: zq (List.drop 1 (s_01.getD x9.toNat [])))).set (i64.wrap (x9 - 1)).toNat (Z3 n8
 :: zq (List.drop 1 ((s_01.set x9.toNat (Z3 n6 :: zq (List.drop 1 (s_01.getD x9.toNat [])))).getD (i64.wrap (x9 - 1)).toNat [])))) n_11 ((s_11.set x9.toNat (Z6 n7 :: List.append._f
 [] PUnit.unit (List.drop 1 (s_11.getD x9.toNat [])))).set (i64.wrap (x9 - 1)).toNat (Z6 x8 :: zq (List.drop 1 ((s_11.set x9.toNat (Z6 n7 :: zq (List.drop 1 (s_11.getD x9.toNat
 [])))).getD (i64.wrap (x9 - 1)).toNat []))))) ∧ J2 x7 n3 (↑s_0.length : Int) (n_0 && false) (s_0 ++ [[Z3 n4]]) (n_1 && false) (s_1 ++ [[Z6 n3]]) x71 x8 (i64.wrap (x9 - 1)) n_01 ((s_01.set x9.toNat (Z3 n6 :: List.append._f []
 PUnit.unit (List.drop 1 (s_01.getD x9.toNat [])))).set (i64.wrap (x9 - 1)).toNat (Z3 n8 :: zq (List.drop 1 ((s_01.set x9.toNat (Z3 n6 :: zq (List.drop 1 (s_01.getD x9.toNat
 [])))).getD (i64.wrap (x9 - 1)).toNat [])))) n_11 ((s_11.set x9.toNat (Z6 n7 :: zq (List.drop 1 (s_11.getD x9.toNat [])))).set (i64.wrap (x9 - 1)).toNat (Z6 x8 :: zq
 (List.drop 1 ((s_11.set x9.toNat (Z6 n7 :: zq (List.drop 1 (s_11.getD x9.toNat [])))).getD (i64.wrap (x9 - 1)).toNat [])))) ∧ μ2 x71 x8 (i64.wrap (x9 - 1)) n_01 ((s_01.set x9.toNat (Z3 n6 ::
 zq (List.drop 1 (s_01.getD x9.toNat [])))).set (i64.wrap (x9 - 1)).toNat (Z3 n8 :: zq (List.drop 1 ((s_01.set x9.toNat (Z3 n6 :: zq (List.drop 1
 (s_01.getD x9.toNat [])))).getD (i64.wrap (x9 - 1)).toNat [])))) n_11 ((s_11.set x9.toNat (Z6 n7 :: zq (List.drop 1 (s_11.getD x9.toNat [])))).set (i64.wrap (x9 - 1)).toNat (Z6 x8 :: List.append._f
 [] PUnit.unit (List.drop 1 ((s_11.set x9.toNat (Z6 n7 :: zq (List.drop 1 (s_11.getD x9.toNat [])))).getD (i64.wrap (x9 - 1)).toNat [])))) < μ2 x71 x8 x9 n_01 s_01 n_11 s_11 else aC (uD n f es n2 f2 ss
 (i64.wrap (x71 + 1)) n_01 s_01 n_11 s_11) ∧ J (i64.wrap (x71 + 1)) n_01 s_01 n_11 s_11 ∧ μ (i64.wrap (x71 + 1)) n_01 s_01 n_11 s_11 < μ x7 n_0 s_0 n_1 s_1 else aC (uD n f es n2 f2 ss (i64.wrap (x71 +
 1)) n_01 s_01 n_11 s_11) ∧ J (i64.wrap (x71 + 1)) n_01 s_01 n_11 s_11 ∧ μ (i64.wrap (x71 + 1)) n_01 s_01 n_11 s_11 < μ x7 n_0 s_0 n_1 s_1 else R (PV.sl n_0 false s_0)
theorem zqa (n f : Bool) (es : LL) (n2 f2 : Bool) (ss : LL) (J : Int → Bool → LL → Bool → LL → Prop) (μ : Int → Bool → LL → Bool → LL → Nat) (J2 : Int → Int → Int → Bool → LL → Bool → LL → Int → Int → Int → Bool → LL → Bool → LL → Prop) (μ2 : Int → Int → Int → Bool → LL → Bool → LL → Nat) {R : PV → Prop} (h : zgq n f es n2 f2 ss J μ J2 μ2 R) : PCall Tryz.prog 43 [.sl n f es, .sl n2 f2 ss] R :=
 PCall.of Tryz.func43 (by kernel_rfl) (by kernel_rfl) (Nat.le_of_ble_eq_true (by kernel_rfl)) (Eq.mpr (by kernel_rfl : aR Tryz.prog (fun _ => none) Tryz.f43 [0, 1, 4, 5, 6, 7, 8, 9, 13, 49] (fun zz_ => match zz_ with | 4 => some ⟨Int × Bool × LL × Bool × LL, fun s => uD n f es n2 f2 ss s.1 s.2.1 s.2.2.1 s.2.2.2.1 s.2.2.2.2, fun _ s => J s.1 s.2.1 s.2.2.1 s.2.2.2.1 s.2.2.2.2, fun s => μ s.1 s.2.1 s.2.2.1 s.2.2.2.1 s.2.2.2.2, fun e h => (gI e 7, oN h 0, oS h 0, oN h 1, oS h 1), [(5, 21, 1), (6, 3, 1)], [0, 1, 5, 6, 7], [], fun p => ∀ (x7 : Int) (n_0 : Bool) (s_0 : LL) (n_1 : Bool) (s_1 : LL), p (x7, n_0, s_0, n_1, s_1), fun p h s => h s.1 s.2.1 s.2.2.1 s.2.2.2.1 s.2.2.2.2⟩ | 10 => some ⟨Int × Int × Int × Bool × LL × Bool × LL, fun s => zO n f es n2 f2 ss s.1 s.2.1 s.2.2.1 s.2.2.2.1 s.2.2.2.2.1 s.2.2.2.2.2.1 s.2.2.2.2.2.2, fun t s => J2 t.1 t.2.1 t.2.2.1 t.2.2.2.1 t.2.2.2.2.1 t.2.2.2.2.2.1 t.2.2.2.2.2.2 s.1 s.2.1 s.2.2.1 s.2.2.2.1 s.2.2.2.2.1 s.2.2.2.2.2.1 s.2.2.2.2.2.2, fun s => μ2 s.1 s.2.1 s.2.2.1 s.2.2.2.1 s.2.2.2.2.1 s.2.2.2.2.2.1 s.2.2.2.2.2.2, fun e h => (gI e 7, gI e 8, gI e 9, oN h 0, oS h 0, oN h 1, oS h 1), [], [0, 1, 5, 6, 7, 8, 9], [], fun p => ∀ (x7 x8 x9 : Int) (n_0 : Bool) (s_0 : LL) (n_1 : Bool) (s_1 : LL), p (x7, x8, x9, n_0, s_0, n_1, s_1), fun p h s => h s.1 s.2.1 s.2.2.1 s.2.2.2.1 s.2.2.2.2.1 s.2.2.2.2.2.1 s.2.2.2.2.2.2⟩ | _ => none) (Tryz.f43.body.getD .skip) [.sl n f es, .sl n2 f2 ss] R = _) h)

def zP (tc tg tj tf tp : PV) (M S : List (PV × PV)) (n f : Bool) (es : LL) (x12 : Int) (h0_0 : PV) (n_1 : Bool) (s_1 : LL) : Env × Hp := ([(0, LV.pv (PV.ptr [tc, tg, tj, tf, tp, PV.mp M, PV.mp S])), (5, LV.box 0 0), (10, LV.pv (PV.sl n f es)), (11, Y6 ↑es.length), (12, Y6 x12)], [.box [.pv h0_0, LV.own 1], .sl (21, 1) true n_1 s_1])
def zgr (tc tg tj tf tp : PV) (M S : List (PV × PV)) (n f : Bool) (es : LL) (J : Int → PV → Bool → LL → Prop) (μ : Int → PV → Bool → LL → Nat) (R : PV → Prop) : Prop :=
 eB (PV.ptr [tc, tg, tj, tf, tp, PV.mp M, PV.mp S]) = true ∧ (aC (zP tc tg tj tf tp M S n f es (0 : Int) (PV.ptr [tc, tg, tj, tf, tp, PV.mp M, PV.mp S]) true []) ∧ J (0 : Int) (PV.ptr [tc, tg, tj, tf, tp, PV.mp M, PV.mp S]) true [])
 ∧ ∀ (x12 : Int) (h0_0 : PV) (n_1 : Bool) (s_1 : LL), J x12 h0_0 n_1 s_1 → if decide (x12 < (↑es.length : Int)) = true then aM es x12 1 ∧ ∃ n1, (es.getD x12.toNat []).head? = some (Z3 n1) ∧ ACall Tryz.prog 70 [LV.box 0 0, LV.pv
 (Z3 n1), Y6 8] [Ob.box [LV.pv h0_0, LV.own 1], Ob.sl (21, 1) false n_1 s_1] fun (r : LV) (h' : Hp) ↦ ∃ (t : Bool × LL), (r = LV.tup [] ∧ h' = [Ob.box [LV.pv h0_0, LV.own 1], Ob.sl (21, 1) true t.fst t.snd]) ∧ (True ∧ True ∧ True) ∧ aC
 (zP tc tg tj tf tp M S n f es (i64.wrap (x12 + 1)) h0_0 t.fst t.snd) ∧ J (i64.wrap (x12 + 1)) h0_0 t.fst t.snd ∧ μ (i64.wrap (x12 + 1)) h0_0 t.fst t.snd < μ x12 h0_0 n_1 s_1 else PCall Tryz.prog 71 [PV.ptr [tc,
 tg, tj, tf, tp, PV.mp M, PV.mp S], PV.sl n_1 false s_1] fun v ↦ ∃ n1 f1 es1, v = PV.sl n1 f1 es1 ∧ R (PV.sl n1 f1 es1)
theorem zqb (tc tg tj tf tp : PV) (M S : List (PV × PV)) (n f : Bool) (es : LL) (J : Int → PV → Bool → LL → Prop) (μ : Int → PV → Bool → LL → Nat) {R : PV → Prop} (h : zgr tc tg tj tf tp M S n f es J μ R) : PCall Tryz.prog 39 [.ptr [tc, tg, tj, tf, tp, .mp M, .mp S], .sl n f es] R :=
 PCall.of Tryz.func39 (by kernel_rfl) (by kernel_rfl) (Nat.le_of_ble_eq_true (by kernel_rfl)) (Eq.mpr (by kernel_rfl : aR Tryz.prog (fun zz_ => match zz_ with | 70 => some ⟨Bool × LL, fun _ hs t => (.tup [], match hs with | [.box (x :: _), .sl ty _ _ _] => [.box [x, .own 1], .sl ty true t.1 t.2] | [.box (x :: _)] => [.box [x, .own 1], .sl (21, 1) true t.1 t.2] | h => h), none⟩ | _ => none) Tryz.f39 [0, 1, 4, 5, 7, 10, 11, 12, 13] (fun zz_ => match zz_ with | 3 => some ⟨Int × PV × Bool × LL, fun s => zP tc tg tj tf tp M S n f es s.1 s.2.1 s.2.2.1 s.2.2.2, fun _ s => J s.1 s.2.1 s.2.2.1 s.2.2.2, fun s => μ s.1 s.2.1 s.2.2.1 s.2.2.2, fun e h => (gI e 12, hP h 0 0, oN h 1, oS h 1), [(1000001, 21, 1)], [0, 5, 10, 11, 12], [], fun p => ∀ (x12 : Int) (h0_0 : PV) (n_1 : Bool) (s_1 : LL), p (x12, h0_0, n_1, s_1), fun p h s => h s.1 s.2.1 s.2.2.1 s.2.2.2⟩ | _ => none) (Tryz.f39.body.getD .skip) [.ptr [tc, tg, tj, tf, tp, .mp M, .mp S], .sl n f es] R = _) h)

def uE (n f : Bool) (es : LL) (n2 f2 : Bool) (ss : LL) (x6 : Int) (n_0 : Bool) (s_0 : LL) : Env × Hp := ([(0, LV.pv (PV.sl n f es)), (1, LV.pv (PV.sl n2 f2 ss)), (5, LV.own 0), (6, Y6 x6)], [.sl (21, 1) true n_0 s_0])
def zgs (n f : Bool) (es : LL) (n2 f2 : Bool) (ss : LL) (J : Int → Bool → LL → Prop) (μ : Int → Bool → LL → Nat) (R : PV → Prop) : Prop :=
 (aC (uE n f es n2 f2 ss (0 : Int) true []) ∧ J (0 : Int) true []) ∧ ∀ (x6 : Int) (n_0 : Bool) (s_0 : LL), J x6 n_0 s_0 → if decide (x6 < (↑ss.length : Int)) = true then aM ss x6 1 ∧ ∃ n1, (ss.getD x6.toNat []).head? = some
 (Z3 n1) ∧ ACall Tryz.prog 42 [LV.pv (PV.sl n f es), LV.pv (Z3 n1), Y6 8] [] fun (r : LV) (h' : Hp) ↦ (∃ (t : Bool × LL), (r = LV.own 0 ∧ h' = [Ob.sl (21, 1) true t.fst t.snd]) ∧ True ∧ (aP t.snd 1 ∧ (s_0.length + t.snd.length) * 4 ≤
 140737488355328) ∧ aC (uE n f es n2 f2 ss (i64.wrap (x6 + 1)) (n_0 && t.snd.isEmpty) (s_0 ++ t.snd)) ∧ J (i64.wrap (x6 + 1)) (n_0 && t.snd.isEmpty) (s_0 ++ t.snd) ∧ μ (i64.wrap (x6 + 1)) (n_0 && t.snd.isEmpty)
 (s_0 ++ t.snd) < μ x6 n_0 s_0) ∨ ∃ t, (r = LV.pv (PV.sl false true t) ∧ h' = []) ∧ True ∧ (aP t 1 ∧ (s_0.length + t.length) * 4 ≤ 140737488355328) ∧ aC (uE n f es n2 f2 ss (i64.wrap (x6 + 1)) (n_0 && t.isEmpty) (s_0
 ++ t)) ∧ J (i64.wrap (x6 + 1)) (n_0 && t.isEmpty) (s_0 ++ t) ∧ μ (i64.wrap (x6 + 1)) (n_0 && t.isEmpty) (s_0 ++ t) < μ x6 n_0 s_0 else PCall Tryz.prog 43 [PV.sl n f es, PV.sl n_0 false s_0] fun v ↦ ∃ n1, ∃
 (f1 : Bool), ∃ es1, v = PV.sl n1 f1 es1 ∧ R (PV.sl n1 f1 es1)
theorem zqc (n f : Bool) (es : LL) (n2 f2 : Bool) (ss : LL) (J : Int → Bool → LL → Prop) (μ : Int → Bool → LL → Nat) {R : PV → Prop} (h : zgs n f es n2 f2 ss J μ R) : PCall Tryz.prog 12 [.sl n f es, .sl n2 f2 ss] R :=
 PCall.of Tryz.func12 (by kernel_rfl) (by kernel_rfl) (Nat.le_of_ble_eq_true (by kernel_rfl)) (Eq.mpr (by kernel_rfl : aR Tryz.prog (fun zz_ => match zz_ with | 42 => some ⟨Bool × LL, fun _ hs t => (.own hs.length, hs ++ [.sl (21, 1) true t.1 t.2]), some ⟨LL, fun _ hs t => (.pv (.sl false true t), hs)⟩⟩ | _ => none) Tryz.f12 [0, 1, 4, 5, 6, 10] (fun zz_ => match zz_ with | 3 => some ⟨Int × Bool × LL, fun s => uE n f es n2 f2 ss s.1 s.2.1 s.2.2, fun _ s => J s.1 s.2.1 s.2.2, fun s => μ s.1 s.2.1 s.2.2, fun e h => (gI e 6, oN h 0, oS h 0), [(5, 21, 1)], [0, 1, 5, 6], [], fun p => ∀ (x6 : Int) (n_0 : Bool) (s_0 : LL), p (x6, n_0, s_0), fun p h s => h s.1 s.2.1 s.2.2⟩ | _ => none) (Tryz.f12.body.getD .skip) [.sl n f es, .sl n2 f2 ss] R = _) h)

def zQ (n f : Bool) (es : LL) (n2 f2 : Bool) (ss : LL) (x13 : Int) : Env × Hp := ([(0, LV.pv (PV.sl n f es)), (1, LV.pv (PV.sl n2 f2 ss)), (12, Y6 ↑es.length), (13, Y6 x13)], [])
def zR (n f : Bool) (es : LL) (n2 f2 : Bool) (ss : LL) (J : Int → Prop) (μ : Int → Nat) (R : PV → Prop) : Prop :=
 if ((↑es.length : Int) != (↑ss.length : Int)) = true then R (Zb false) else (aC (zQ n f es n2 f2 ss (0 : Int)) ∧ J (0 : Int)) ∧ ∀ (x13 : Int), J x13 → if decide (x13 < (↑es.length : Int)) = true then aM es x13 1 ∧ ∃ (n1 : Int),
 (es.getD x13.toNat []).head? = some (Z3 n1) ∧ aM ss x13 1 ∧ ∃ n3, (ss.getD x13.toNat []).head? = some (Z3 n3) ∧ if (n1 != n3) = true then R (Zb false) else aC (zQ n f es n2 f2 ss (i64.wrap (x13 + 1))) ∧ J
 (i64.wrap (x13 + 1)) ∧ μ (i64.wrap (x13 + 1)) < μ x13 else R (Zb true)
theorem zqd (n f : Bool) (es : LL) (n2 f2 : Bool) (ss : LL) (J : Int → Prop) (μ : Int → Nat) {R : PV → Prop} (h : zR n f es n2 f2 ss J μ R) : PCall Tryz.prog 41 [.sl n f es, .sl n2 f2 ss] R :=
 PCall.of Tryz.func41 (by kernel_rfl) (by kernel_rfl) (Nat.le_of_ble_eq_true (by kernel_rfl)) (Eq.mpr (by kernel_rfl : aR Tryz.prog (fun _ => none) Tryz.f41 [0, 1, 4, 5, 10, 12, 13, 14, 24] (fun zz_ => match zz_ with | 4 => some ⟨Int × Unit, fun s => zQ n f es n2 f2 ss s.1, fun _ s => J s.1, fun s => μ s.1, fun e h => (((gI e 13), ())), [], [0, 1, 12, 13], [], fun p => ∀ (x13 : Int), p (x13, ()), fun p h s => h s.1⟩ | _ => none) (Tryz.f41.body.getD .skip) [.sl n f es, .sl n2 f2 ss] R = _) h)

end Go.Eng



namespace Go.Eng.Rows
open Go Go.Eng Go.Eng.Trie
def cZ (rows : List Row) : Bool → Int → List Int → Int
 | m, _, [] => if m then 2 else 0
 | m, last, r :: l => if (decide (bY rows r = 1) || (!decide (aB rows 1 r = 0) && decide (aB rows 1 r < last))) then 1 else cZ rows (m || decide (bY rows r = 2)) (aB rows 1 r) l
theorem zqe (rows : List Row) (r : Int) : bY rows r = 0 ∨ bY rows r = 1 ∨ bY rows r = 2 := by
 unfold bY; split
 ·exact .inr (.inl rfl)
 ·split
  ·exact .inr (.inr rfl)
  ·exact .inl rfl
def zqf (rows : List Row) : Bool := rows.all fun x => !decide (x.kind = 2) || ((decide (1 ≤ x.a) && decide (x.a ≤ 1114111)) && (decide (0 ≤ x.b) && decide (x.b ≤ 1114111)))
theorem zqg {rows : List Row} (h : zqf rows = true) : cA rows := fun x hx hk => by
 have := List.all_eq_true.1 h x hx
 simpa [hk] using this
def zqh (rows : List Row) : Bool := rows.all fun x => !decide (x.kind = 2) || (decide (x.fr = x.to) && ((decide (0 ≤ x.fr) && decide (x.fr ≤ 1114111)) && decide (first rows 2 x.fr = some (x.a, x.b))))
theorem zgt {rows : List Row} (h : zqh rows = true) : cY rows := fun x hx hk => by
 have := List.all_eq_true.1 h x hx
 simpa [hk] using this
def zqi (rows : List Row) : Bool := rows.all fun x => !decide (x.kind = 1) || decide (0 ≤ x.a)
def fD (rows : List Row) : Prop := ∀ r, 0 ≤ aB rows 1 r
theorem zqj {rows : List Row} (h : zqi rows = true) : fD rows := fun r => by
 unfold aB
 cases hf : bJ rows 1 r with
 | none => exact Int.le_refl _
 | some p =>
   obtain ⟨x, hx, hk, ha, _⟩ := jP hf
   have := List.all_eq_true.1 h x hx
   simp only [hk, decide_true, Bool.not_true, Bool.false_or, decide_eq_true_eq] at this
   simp only; omega
end Go.Eng.Rows



namespace Go.Eng
open Go Go.Proofs Go.Eng.Rows Go.Eng.Trie
theorem iD : cA tab := zqg (by kernel_rfl)
theorem iE : cY tab := zgt (by kernel_rfl)
theorem qH : fD tab := zqj (by kernel_rfl)
theorem q1 : cZ tab false 0 [101, 769] = 2 := by kernel_rfl
theorem q2 : cZ tab false 0 [233] = 0 := by kernel_rfl
theorem q3 : cZ tab false 0 [769, 807] = 1 := by kernel_rfl
theorem q4 : cZ tab false 0 [8491] = 1 := by kernel_rfl
theorem q5 : gP tab 101 = true := by kernel_rfl
theorem q6 : gP tab 769 = false := by kernel_rfl
theorem q7 : gP tab 4449 = false := by kernel_rfl
end Go.Eng



namespace Go.Eng.Rows
open Go Go.Eng Go.Eng.Trie Go.Eng.Srt
def eZ (rows : List Row) (l : List Int) : List Int := bS (aB rows 1) (l.flatMap (aJ rows 8))
def bD (rows : List Row) (x : Int) : Bool := !aZ x && decide (aD rows x = (0, 0))
def uF (rows : List Row) : Prop := ∀ r, ∀ x ∈ aJ rows 8 r, bD rows x = true
def zgu (rows : List Row) : Bool := (rows.all fun x => !decide (x.kind = 2) || (aJ rows 8 x.fr).all (bD rows)) && ((List.range 19).all fun n => bD rows (4352 + n)) && ((List.range 21).all fun n => bD rows (4449 + n)) && ((List.range 28).all fun n => bD rows (4519 + n))
theorem zgv {rows : List Row} {r : Int} {p : Int × Int} (h : bJ rows 2 r = some p) : ∃ x ∈ rows, x.kind = 2 ∧ x.fr ≤ r ∧ r ≤ x.to := by
 obtain ⟨x, h1, h2, _, _, h3, h4, _⟩ := jP h
 exact ⟨x, h1, h2, h3, h4⟩
theorem zS {p : Int → Bool} {n : Nat} {b x : Int} (h : ((List.range n).all fun k => p (b + k)) = true) (h1 : b ≤ x) (h2 : x < b + n) : p x = true := by
 have := List.all_eq_true.1 h (x - b).toNat (List.mem_range.2 (by omega))
 rwa [show b + ((x - b).toNat : Int) = x by omega] at this
theorem zqk {rows : List Row} (h1 : cY rows) (h : zgu rows = true) : uF rows := by
 simp only [zgu, Bool.and_eq_true] at h
 obtain ⟨⟨⟨c1, c2⟩, c3⟩, c4⟩ := h
 intro r x hx
 by_cases hs : aZ r = true
 ·rw [dR hs] at hx
  simp only [aZ, Bool.and_eq_true, decide_eq_true_eq] at hs
  unfold dI at hx
  have k1 : bD rows (4352 + (r - 44032) / 588) = true := zS c2 (by omega) (by omega)
  have k2 : bD rows (4449 + (r - 44032) / 28 % 21) = true := zS c3 (by omega) (by omega)
  have k3 : bD rows (4519 + (r - 44032) % 28) = true := zS c4 (by omega) (by omega)
  split at hx <;> simp only [List.mem_cons, List.not_mem_nil, or_false] at hx
  ·rcases hx with rfl | rfl
   ·exact k1
   ·exact k2
  ·rcases hx with rfl | rfl | rfl
   ·exact k1
   ·exact k2
   ·exact k3
 ·simp only [Bool.not_eq_true] at hs
  by_cases h0 : aD rows r = (0, 0)
  ·rw [jR hs h0, List.mem_singleton] at hx
   subst hx
   simp [bD, hs, h0]
  ·have : ∃ p, bJ rows 2 r = some p := by
    unfold aD at h0
    cases hf : bJ rows 2 r with
    | none => rw [hf] at h0; exact absurd rfl h0
    | some p => exact ⟨p, rfl⟩
   obtain ⟨p, hp⟩ := this
   obtain ⟨y, hy, hk, f1, f2⟩ := zgv hp
   obtain ⟨e1, _⟩ := h1 y hy hk
   have hr : y.fr = r := by omega
   have := List.all_eq_true.1 c1 y hy
   simp only [hk, decide_true, Bool.not_true, Bool.false_or, hr] at this
   exact List.all_eq_true.1 this x hx
theorem qI {rows : List Row} {x : Int} (h : bD rows x = true) (d : Nat) : aJ rows d x = [x] := by
 simp only [bD, Bool.and_eq_true, Bool.not_eq_true', decide_eq_true_eq] at h
 exact jR h.1 h.2
theorem zgw {rows : List Row} : ∀ {l : List Int}, (∀ x ∈ l, bD rows x = true) → l.flatMap (aJ rows 8) = l
 | [], _ => rfl
 | x :: l, h => by
   rw [List.flatMap_cons, qI (h x List.mem_cons_self), zgw fun y hy => h y (List.mem_cons_of_mem _ hy)]; rfl
section
variable {rows : List Row} (hk : fD rows)
include hk
theorem zgx {l : List Int} {x : Int} : x ∈ eZ rows l ↔ ∃ r ∈ l, x ∈ aJ rows 8 r := by
 unfold eZ
 rw [← (t8 hk _).mem, List.mem_flatMap]
theorem zql (hc : uF rows) (l : List Int) : ∀ x ∈ eZ rows l, bD rows x = true := fun x hx => by
 obtain ⟨r, _, h⟩ := (zgx hk).1 hx
 exact hc r x h
theorem zgy (hp : cA rows) {l : List Int} (h : ∀ x ∈ l, -2147483648 ≤ x ∧ x ≤ 2147483647) : ∀ x ∈ eZ rows l, -2147483648 ≤ x ∧ x ≤ 2147483647 := fun x hx => by
 obtain ⟨r, hr, h2⟩ := (zgx hk).1 hx
 rcases qB hp 8 r x h2 with rfl | h3
 ·exact h x hr
 ·omega
theorem zgz (l : List Int) : (eZ rows l).length ≤ 768 * l.length := by
 unfold eZ
 rw [← (t8 hk _).len]
 induction l with
 | nil => simp
 | cons x l ih =>
   have := jS rows 8 x
   rw [List.flatMap_cons, List.length_append, List.length_cons]; omega
end
theorem zqm (rows : List Row) (l : List Int) : bG (aB rows 1) (eZ rows l) := zpw _
end Go.Eng.Rows



namespace Go.Eng
open Go Go.Proofs Go.Eng.Rows Go.Eng.Trie
theorem zg0 {α : Type} (p : α → Bool) : ∀ {A : List α} (B : List α), (∀ x ∈ A, p x = false) → (A ++ B).find? p = B.find? p
 | [], B, _ => rfl
 | a :: A, B, h => by
   rw [List.cons_append, List.find?_cons, h a List.mem_cons_self]
   exact zg0 p B fun x hx => h x (List.mem_cons_of_mem _ hx)
theorem zg1 {α : Type} (p : α → Bool) : ∀ (A : List α) {B : List α}, (∀ x ∈ B, p x = false) → (A ++ B).find? p = A.find? p
 | [], B, h => List.find?_eq_none.2 fun x hx => by rw [h x hx]; simp
 | a :: A, B, h => by
   rw [List.cons_append, List.find?_cons, List.find?_cons]
   cases p a with
   | true => rfl
   | false => exact zg1 p A h
def noK (k : Int) (l : List Row) : Bool := l.all fun x => !decide (x.kind = k)
theorem zg2 {k r : Int} {l : List Row} (h : noK k l = true) : ∀ x ∈ l, x.has k r = false := fun x hx => by
 have := List.all_eq_true.1 h x hx
 simp only [Bool.not_eq_true', decide_eq_false_iff_not] at this
 simp [Row.has, this]
theorem zT {A B C : List Row} {k : Int} (h1 : noK k A = true) (h2 : noK k C = true) (r : Int) : bJ (A ++ (B ++ C)) k r = bJ B k r := by
 unfold bJ first
 rw [zg0 _ _ (zg2 h1), zg1 _ _ (zg2 h2)]
theorem zg3 : tab = iQ ++ (tab73 ++ (lX ++ pT ++ pU ++ pV ++ pW ++ pX)) := by unfold tab; simp only [List.append_assoc]
theorem zqn : tab = [] ++ (iQ ++ (tab73 ++ lX ++ pT ++ pU ++ pV ++ pW ++ pX)) := by unfold tab; simp only [List.append_assoc, List.nil_append]
theorem zqo : tab = (iQ ++ tab73) ++ (lX ++ (pT ++ pU ++ pV ++ pW ++ pX)) := by unfold tab; simp only [List.append_assoc]
theorem zU : aD tab = aD tab73 := funext fun r => by
 unfold aD; rw [zg3, zT (by kernel_rfl) (by kernel_rfl)]
theorem zg4 : aB tab 1 = aB iQ 1 := funext fun r => by
 unfold aB; rw [zqn, zT (by kernel_rfl) (by kernel_rfl)]
theorem zqp : dO tab 3 = dO lX 3 := funext fun r => by
 unfold dO; rw [zqo, zT (by kernel_rfl) (by kernel_rfl)]
theorem zqq {A B : List Row} (h : aD A = aD B) : ∀ d, aJ A d = aJ B d := fun d => by
 induction d with
 | zero => rfl
 | succ d ih => funext r; simp only [aJ, h, ih]
theorem zqr {A B : List Row} (h : aD A = aD B) : bD A = bD B := funext fun r => by simp only [bD, h]
theorem qJ (d : Nat) : aJ tab d = aJ tab73 d := zqq zU d
theorem zg5 : bD tab = bD tab73 := zqr zU
theorem mE {x : Row} (hx : x ∈ tab) (hk : x.kind = 2) : x ∈ tab73 := by
 rw [zg3] at hx
 have no : ∀ {l : List Row}, noK 2 l = true → x ∉ l := fun h hx => by
  have := List.all_eq_true.1 h x hx
  simp [hk] at this
 rcases List.mem_append.1 hx with h | h
 ·exact absurd h (no (by kernel_rfl))
 ·rcases List.mem_append.1 h with h | h
  ·exact h
  ·exact absurd h (no (by kernel_rfl))
theorem zqs : cY tab73 := zgt (by kernel_rfl)
end Go.Eng



namespace Go.Eng
open Go Go.Proofs Go.Eng.Rows Go.Eng.Trie
theorem zqt : uF tab := fun r x hx => by
 rw [zg5]
 rw [qJ] at hx
 exact zqk zqs (by kernel_rfl) r x hx
end Go.Eng



namespace Go.Eng
open Go Go.Proofs Go.Eng.Rows Go.Eng.Trie Go.Eng.Srt
theorem PCall.ofA {P : Program} {f : Nat} {args : List PV} {Q : LV → Hp → Prop} {R : PV → Prop} (hc : ACall P f (args.map .pv) [] Q) (hq : ∀ r h', Q r h' → ∃ p, iH h' r = some p ∧ R p) : PCall P f args R :=
 ⟨hc.1, fun w I G cargs h1 h2 h3 => (hc.2 w I G cargs h1 h2 h3).mono fun e w' ⟨cv, r, h', I', G', e1, e2, e3, e4, e5⟩ => by
  obtain ⟨p, hp, hR⟩ := hq r h' e2
  have ht := e5.t
  have hno : ∀ b, ¬ aW [] G b := fun b ⟨o, ob, ho, _⟩ => by simp at ho
  exact ⟨cv, .pv p, [], AllB I' h' G', G', e1, ⟨p, rfl, hR⟩, HRel.nil G' (fun b hb => hb.elim (e3.cl b) e3.blk_lt), .pv _ _ (oU e3 e4 hp),
   ⟨⟨ht.os, ht.tape, ht.output, ht.size, ht.keep, fun b hb => .inl (ht.i1 b hb), fun b hb => hb.elim (ht.i2 b) (fun ho => (ht.own2 b ho).elim (fun x => absurd x (hno b)) (fun x => .inr (.inr x))), fun b hb => absurd hb (fun ⟨o, ob, ho, _⟩ => by simp at ho), ht.frz, ht.drawn⟩, Nat.le_refl _, fun o ob ho => by simp at ho⟩⟩⟩
theorem zqu (n f : Bool) (l : List Int) (k : Nat) (hk : k < 1000) : PCall Tryz.prog 8 [.sl n f (aA l), .int .i64 k] fun v => ∃ n f, v = .sl n f (aA (l.take k)) := by
 refine zp8 _ _ _ _ ?_; unfold zgp
 refine aH (fun hc => ?_) (fun hc => ?_)
 ·simp only [decide_eq_true_eq, bP] at hc
  refine ⟨⟨by unfold fI; simp; omega, d8 _⟩, n, _, by rw [show ((k : Int)).toNat = k by omega]; simp only [aA, List.map_take, List.drop_zero]; rfl⟩
 ·simp only [decide_eq_true_eq, bP] at hc
  rw [List.take_of_length_le (by omega)]
  exact ⟨_, _, rfl⟩
theorem zqv (n f n2 f2 : Bool) (l m : List Int) (hl : l.length < 1000000000000) : zN n f (aA l) n2 f2 (aA m) (fun i => 0 ≤ i ∧ i ≤ l.length ∧ l.take i.toNat = m.take i.toNat) (fun i => l.length - i.toNat) fun v => v = .bool (decide (l = m)) := by
 unfold zN
 refine aH (fun hc => ?_) (fun hc => ?_)
 ·simp only [bP, bne_iff_ne, ne_eq] at hc
  have : l ≠ m := fun e => hc (by rw [e])
  simp [this]
 ·simp only [bP, bne_iff_ne, ne_eq, Decidable.not_not] at hc
  have hlm : l.length = m.length := by omega
  refine ⟨⟨rfl, Int.le_refl _, by omega, rfl⟩, ?_⟩
  rintro i ⟨i0, i1, he⟩
  refine aH (fun h => ?_) (fun h => ?_)
  ·simp only [decide_eq_true_eq, bP] at h
   have hi : i.toNat < l.length := by omega
   have hj : i.toNat < m.length := by omega
   obtain ⟨g1, g2⟩ := eW i0 hi
   obtain ⟨k1, k2⟩ := eW i0 hj
   have hw : i64.wrap (i + 1) = i + 1 := aF (by omega) (by omega)
   refine ⟨g1, l[i.toNat], by rw [g2]; rfl, k1, m[i.toNat], by rw [k2]; rfl, aH (fun hc2 => ?_) (fun hc2 => ?_)⟩
   ·simp only [bne_iff_ne, ne_eq] at hc2
    have : l ≠ m := fun e => hc2 (by subst e; rfl)
    simp [this]
   ·simp only [bne_iff_ne, ne_eq, Decidable.not_not] at hc2
    rw [hw]
    exact ⟨rfl, ⟨by omega, by omega, by rw [show (i + 1).toNat = i.toNat + 1 by omega, dB hi, dB hj, he, hc2]⟩, by dsimp only; omega⟩
  ·simp only [decide_eq_true_eq, bP] at h
   rw [List.take_of_length_le (by omega), List.take_of_length_le (by omega)] at he
   simp [he]
theorem zqw (n f n2 f2 : Bool) (l m : List Int) (hl : l.length < 1000000000000) : zR n f (aA l) n2 f2 (aA m) (fun i => 0 ≤ i ∧ i ≤ l.length ∧ l.take i.toNat = m.take i.toNat) (fun i => l.length - i.toNat) fun v => v = .bool (decide (l = m)) := by
 unfold zR
 refine aH (fun hc => ?_) (fun hc => ?_)
 ·simp only [bP, bne_iff_ne, ne_eq] at hc
  have : l ≠ m := fun e => hc (by rw [e])
  simp [this]
 ·simp only [bP, bne_iff_ne, ne_eq, Decidable.not_not] at hc
  have hlm : l.length = m.length := by omega
  refine ⟨⟨rfl, Int.le_refl _, by omega, rfl⟩, ?_⟩
  rintro i ⟨i0, i1, he⟩
  refine aH (fun h => ?_) (fun h => ?_)
  ·simp only [decide_eq_true_eq, bP] at h
   have hi : i.toNat < l.length := by omega
   have hj : i.toNat < m.length := by omega
   obtain ⟨g1, g2⟩ := eW i0 hi
   obtain ⟨k1, k2⟩ := eW i0 hj
   have hw : i64.wrap (i + 1) = i + 1 := aF (by omega) (by omega)
   refine ⟨g1, l[i.toNat], by rw [g2]; rfl, k1, m[i.toNat], by rw [k2]; rfl, aH (fun hc2 => ?_) (fun hc2 => ?_)⟩
   ·simp only [bne_iff_ne, ne_eq] at hc2
    have : l ≠ m := fun e => hc2 (by subst e; rfl)
    simp [this]
   ·simp only [bne_iff_ne, ne_eq, Decidable.not_not] at hc2
    rw [hw]
    exact ⟨rfl, ⟨by omega, by omega, by rw [show (i + 1).toNat = i.toNat + 1 by omega, dB hi, dB hj, he, hc2]⟩, by dsimp only; omega⟩
  ·simp only [decide_eq_true_eq, bP] at h
   rw [List.take_of_length_le (by omega), List.take_of_length_le (by omega)] at he
   simp [he]
theorem zqx (n f n2 f2 : Bool) (l m : List Int) (hl : l.length < 1000000000000) : PCall Tryz.prog 22 [.sl n f (aA l), .sl n2 f2 (aA m)] fun v => v = .bool (decide (l = m)) :=
 zp9 _ _ _ _ _ _ _ _ (zqv n f n2 f2 l m hl)
theorem zqy (n f n2 f2 : Bool) (l m : List Int) (hl : l.length < 1000000000000) : PCall Tryz.prog 41 [.sl n f (aA l), .sl n2 f2 (aA m)] fun v => v = .bool (decide (l = m)) :=
 zqd _ _ _ _ _ _ (fun i => 0 ≤ i ∧ i ≤ l.length ∧ l.take i.toNat = m.take i.toNat) (fun i => l.length - i.toNat) (zqw n f n2 f2 l m hl)
section
variable {rows : List Row}
end
end Go.Eng



namespace Go.Eng
open Go Go.Proofs Go.Eng.Rows Go.Eng.Trie Go.Eng.Srt
section
variable {rows : List Row}
theorem set1 {es : List (List PV)} {k : Nat} {v x : PV} (h : es.getD k [] = [x]) : es.set k (v :: zq (List.drop 1 (es.getD k []))) = es.set k [v] := by rw [h]; rfl
theorem zV (A : List Int) (x : Int) (B : List Int) : (aA (A ++ x :: B)).getD A.length [] = [.int .i32 x] := by
 rw [zcy (by simp)]; simp
theorem zW (A : List Int) (x : Int) (B : List Int) : (aX (A ++ x :: B)).getD A.length [] = [.int .i64 x] := by
 simp [aX]
theorem zqz (hk : fD rows) (n f n2 f2 : Bool) (L : List Int) (hrl : rows.length < 1000000) (hL : L.length < 1000000000) (hr : R32 L) :
 PCall Tryz.prog 43 [.sl n f (bC rows), .sl n2 f2 (aA L)] fun v => ∃ n f, v = .sl n f (aA (bS (aB rows 1) L)) := by
 have olen : ∀ l, (bS (aB rows 1) l).length = l.length := fun l => ((t8 (key := aB rows 1) hk l).len).symm
 refine zqa _ _ _ _ _ _
  (fun i _ s0 _ s1 => 0 ≤ i ∧ i ≤ L.length ∧ s0 = aA (bS (aB rows 1) (L.take i.toNat)) ∧ s1 = aX ((bS (aB rows 1) (L.take i.toNat)).map (aB rows 1))) (fun i _ _ _ _ => L.length - i.toNat)
  (fun i0 _ _ _ _ _ _ i c k _ s0 _ s1 => i = i0 ∧ 0 ≤ i ∧ i.toNat < L.length ∧ ∃ x A B, L[i.toNat]? = some x ∧ c = aB rows 1 x ∧ k = (A.length : Nat) ∧ bS (aB rows 1) (L.take i.toNat) = A ++ B ∧ (∀ y ∈ B, dW (aB rows 1) x y = true) ∧ s0 = aA (A ++ x :: B) ∧ s1 = aX ((A ++ x :: B).map (aB rows 1))) (fun _ _ k _ _ _ _ => k.toNat) ?_
 unfold zgq
 refine ⟨⟨rfl, Int.le_refl _, by omega, by simp [bS, aA], by simp [bS, aX]⟩, ?_⟩
 rintro i n0 _ n1 _ ⟨i0, i1, rfl, rfl⟩
 refine aH (fun hc => ?_) (fun hc => ?_)
 ·simp only [decide_eq_true_eq, bP] at hc
  have hi : i.toNat < L.length := by omega
  obtain ⟨g1, g2⟩ := eW i0 hi
  have hx := hr _ (List.getElem_mem hi)
  have hw : i64.wrap (i + 1) = i + 1 := aF (by omega) (by omega)
  have hol := olen (L.take i.toNat)
  rw [List.length_take] at hol
  refine ⟨g1, L[i.toNat], by rw [g2]; rfl, ?_⟩
  refine (tU n f _ hrl hx).mono ?_
  rintro _ rfl
  refine ⟨_, rfl, g1, L[i.toNat], by rw [g2]; rfl, ⟨d8 [_], by rw [bP]; omega⟩, ⟨sQ (enc := fun n => [PV.int .i64 n]) (fun _ => rfl) [_], by rw [iR, List.length_map]; omega⟩, ⟨rfl, ?_⟩, ?_⟩
  ·refine ⟨rfl, i0, hi, L[i.toNat], bS (aB rows 1) (L.take i.toNat), [], List.getElem?_eq_getElem hi, rfl, by simp, by simp, fun y hy => (by cases hy), by simp [aA], by simp [aX]⟩
  ·rintro i' c k n01 _ n11 _ ⟨rfl, _, _, x, A, B, hxi, rfl, rfl, hord, hB, rfl, rfl⟩
   have hwi : i64.wrap (i' + 1) = i' + 1 := aF (by omega) (by omega)
   have hAB : A.length + B.length = min i'.toNat L.length := by rw [← hol, hord, List.length_append]
   have hxe : L[i'.toNat] = x := (List.getElem?_eq_some_iff.1 hxi).2
   -- the end of the walk back
   have done : (A = [] ∨ ∃ A' z, A = A' ++ [z] ∧ dW (aB rows 1) x z = false) → 0 ≤ i' + 1 ∧ i' + 1 ≤ L.length ∧ aA (A ++ x :: B) = aA (bS (aB rows 1) (L.take (i' + 1).toNat)) ∧ aX ((A ++ x :: B).map (aB rows 1)) = aX ((bS (aB rows 1) (L.take (i' + 1).toNat)).map (aB rows 1)) := fun h => by
    have : bS (aB rows 1) (L.take (i' + 1).toNat) = A ++ x :: B := by
     rw [show (i' + 1).toNat = i'.toNat + 1 by omega, dB hi, t7, hord, hxe, kX hB h]
    rw [this]
    exact ⟨by omega, by omega, rfl, rfl⟩
   have hmu : L.length - (i' + 1).toNat < L.length - i'.toNat := by omega
   refine aH (fun h1 => ?_) (fun h1 => ?_)
   ·simp only [Bool.and_eq_true, decide_eq_true_eq, bne_iff_ne, ne_eq] at h1
    obtain ⟨A', z, rfl⟩ : ∃ A' z, A = A' ++ [z] := by
     rcases A.eq_nil_or_concat with rfl | ⟨D, z, rfl⟩
     ·simp at h1
     ·exact ⟨D, z, by simp⟩
    have lA : (A' ++ [z]).length = A'.length + 1 := by simp
    rw [lA] at hAB
    have hwk : i64.wrap ((((A' ++ [z]).length : Nat) : Int) - 1) = (A'.length : Nat) := by rw [lA, aF (by omega) (by omega)]; omega
    have e0 : (A' ++ [z]) ++ x :: B = A' ++ z :: (x :: B) := by simp
    rw [hwk, e0]
    simp only [List.map_append, List.map_cons, Int.toNat_natCast]
    rw [lA]
    generalize hk2 : aB rows 1 = key at *
    have i1 : aM (aA (A' ++ z :: x :: B)) ((A'.length : Nat) : Int) 1 := bW (enc := fun n => [PV.int .i32 n]) (fun _ => rfl) (by omega) (by simp; omega)
    have i2 : aM (aA (A' ++ z :: x :: B)) ((A'.length + 1 : Nat) : Int) 1 := bW (enc := fun n => [PV.int .i32 n]) (fun _ => rfl) (by omega) (by simp; omega)
    have j1 : aM (aX (A'.map key ++ key z :: key x :: B.map key)) ((A'.length : Nat) : Int) 1 := bW l5 (by omega) (by simp; omega)
    have j2 : aM (aX (A'.map key ++ key z :: key x :: B.map key)) ((A'.length + 1 : Nat) : Int) 1 := bW l5 (by omega) (by simp; omega)
    have i3 : aM (aA (A' ++ z :: z :: B)) ((A'.length : Nat) : Int) 1 := bW (enc := fun n => [PV.int .i32 n]) (fun _ => rfl) (by omega) (by simp; omega)
    have j3 : aM (aX (A'.map key ++ key z :: key z :: B.map key)) ((A'.length : Nat) : Int) 1 := bW l5 (by omega) (by simp; omega)
    have gz := zV A' z (x :: B)
    have gx : (aA (A' ++ z :: x :: B)).getD (A'.length + 1) [] = [.int .i32 x] := by have := zV (A' ++ [z]) x B; simpa using this
    have hz : (aX (A'.map key ++ key z :: key x :: B.map key)).getD A'.length [] = [.int .i64 (key z)] := by have := zW (A'.map key) (key z) (key x :: B.map key); simpa using this
    have hx2 : (aX (A'.map key ++ key z :: key x :: B.map key)).getD (A'.length + 1) [] = [.int .i64 (key x)] := by have := zW (A'.map key ++ [key z]) (key x) (B.map key); simpa using this
    have gz2 := zV A' z (z :: B)
    have hz2 : (aX (A'.map key ++ key z :: key z :: B.map key)).getD A'.length [] = [.int .i64 (key z)] := by have := zW (A'.map key) (key z) (key z :: B.map key); simpa using this
    have s1 : (aA (A' ++ z :: x :: B)).set (A'.length + 1) [.int .i32 z] = aA (A' ++ z :: z :: B) := by
     have := qC (A' ++ [z]) B x z
     have e : (aA (A' ++ z :: x :: B)).set (A'.length + 1) [.int .i32 z] = aA ((A' ++ z :: x :: B).set (A'.length + 1) z) := by simp [aA, List.map_set]
     rw [e]; simp at this ⊢
    have s2 : (aA (A' ++ z :: z :: B)).set A'.length [.int .i32 x] = aA (A' ++ x :: z :: B) := by simp [aA]
    have t1 : (aX (A'.map key ++ key z :: key x :: B.map key)).set (A'.length + 1) [.int .i64 (key z)] = aX (A'.map key ++ key z :: key z :: B.map key) := by simp [aX]
    have t2 : (aX (A'.map key ++ key z :: key z :: B.map key)).set A'.length [.int .i64 (key x)] = aX (A'.map key ++ key x :: key z :: B.map key) := by simp [aX]
    refine ⟨j1, key z, by rw [hz]; rfl, aH (fun h2 => ?_) (fun h2 => ?_)⟩
    ·simp only [decide_eq_true_eq] at h2
     refine ⟨i1, z, by rw [gz]; rfl, i2, ⟨trivial, by rw [gx]; exact Nat.le_refl _⟩, j1, key z, by rw [hz]; rfl, j2, ⟨trivial, by rw [hx2]; exact Nat.le_refl _⟩, g1, x, by rw [g2, hxe]; rfl, ?_⟩
     rw [set1 gx, set1 hx2, s1, t1, set1 gz2, set1 hz2, s2, t2]
     refine ⟨i3, ⟨trivial, by rw [gz2]; exact Nat.le_refl _⟩, j3, ⟨trivial, by rw [hz2]; exact Nat.le_refl _⟩, rfl, ⟨trivial, i0, hi, x, A', z :: B, hxi, rfl, rfl, by rw [hord]; simp, fun y hy => ?_, rfl, by simp⟩, by simp⟩
     rcases List.mem_cons.1 hy with rfl | hy
     ·exact kW.2 ⟨h1.2, h2⟩
     ·exact hB y hy
    ·simp only [decide_eq_true_eq] at h2
     rw [hwi]
     obtain ⟨d1, d2, d3, d4⟩ := done (.inr ⟨A', z, rfl, qF.2 (.inr (by omega))⟩)
     refine ⟨rfl, ⟨d1, d2, ?_, ?_⟩, hmu⟩
     ·rw [← d3, e0]
     ·rw [← d4]; simp
   ·have hA : A = [] ∨ aB rows 1 x = 0 := by
     simp only [Bool.and_eq_true, decide_eq_true_eq, bne_iff_ne, ne_eq, not_and, Decidable.not_not] at h1
     by_cases hA : A = []
     ·exact .inl hA
     ·exact .inr (h1 (by have := List.length_pos_iff.2 hA; omega))
    rw [hwi]
    refine ⟨rfl, done ?_, hmu⟩
    rcases hA with h | h
    ·exact .inl h
    ·rcases A.eq_nil_or_concat with rfl | ⟨D, z, rfl⟩
     ·exact .inl rfl
     ·exact .inr ⟨D, z, by simp, qF.2 (.inl h)⟩
 ·simp only [decide_eq_true_eq, bP] at hc
  rw [List.take_of_length_le (by omega)]
  exact ⟨_, _, rfl⟩
end
end Go.Eng



namespace Go.Eng
open Go Go.Proofs Go.Eng.Rows Go.Eng.Trie Go.Eng.Srt
theorem zg6 : tab.length < 1000000 := by have := znh; omega
theorem zg7 (n f : Bool) : PCall Tryz.prog 10 [.sl n f (bC tab)] (gO tab) := zo9 n f tab zg6 iD
theorem R32.take {l : List Int} (h : R32 l) (k : Nat) : R32 (l.take k) := fun x hx => h x (List.mem_of_mem_take hx)
section
variable {rows : List Row} {v : PV}
theorem zq0 {ts : List PV} {key : Int → Int} (hT : ∀ r : Int, (-2147483648 ≤ r ∧ r ≤ 2147483647) → PCall Tryz.prog 46 [.ptr ts, .int .i32 r] fun v => v = .int .i64 (key r)) : iS (.ptr ts) key := by
 intro a b ha hb
 refine zlo _ _ _ ?_; unfold zdd
 refine .inl ⟨ts, rfl, .inl ⟨ts, rfl, ?_⟩⟩
 refine (hT a ha).mono ?_
 rintro _ rfl
 refine ⟨_, rfl, ?_⟩
 refine (hT b hb).mono ?_
 rintro _ rfl
 refine ⟨_, rfl, ?_⟩
 refine (p61 _ _).mono ?_
 rintro _ rfl
 refine ⟨_, rfl, _, rfl, ?_⟩
 unfold cmpS; split <;> (try split) <;> omega
theorem zq1 (hk : fD rows) (hv : gO rows v) (n f : Bool) (L : List Int) (hr : R32 L) (hL : L.length < 1000000000000) : PCall Tryz.prog 71 [v, .sl n f (aA L)] fun x => ∃ n f, x = .sl n f (aA (bS (aB rows 1) L)) := by
 obtain ⟨tc, tg, tj, tf, tp, made, sec, rfl, ht, hm⟩ := hv
 have hT : ∀ r : Int, (-2147483648 ≤ r ∧ r ≤ 2147483647) → PCall Tryz.prog 46 [.ptr [tc, tg, tj, tf, tp, .mp (dH made), .mp (eH sec)], .int .i32 r] fun v => v = .int .i64 (aB rows 1 r) := fun r hr => nK _ _ ht hr
 exact (zp7 hk hT (zq0 hT) L hr hL).mono fun x hx => ⟨_, _, hx⟩
theorem zg8 (hp : cA rows) {l : List Int} (h : R32 l) : R32 (l.flatMap (aJ rows 8)) := fun x hx => by
 obtain ⟨r, hr, h2⟩ := List.mem_flatMap.1 hx
 rcases qB hp 8 r x h2 with rfl | h3
 ·exact h x hr
 ·omega
theorem uG (rows : List Row) (l : List Int) : (l.flatMap (aJ rows 8)).length ≤ 768 * l.length := by
 induction l with
 | nil => simp
 | cons x l ih =>
   have := jS rows 8 x
   rw [List.flatMap_cons, List.length_append, List.length_cons]; omega
theorem zg9 (rows : List Row) {l : List Int} {i : Nat} (hi : i < l.length) : (l.take (i + 1)).flatMap (aJ rows 8) = (l.take i).flatMap (aJ rows 8) ++ aJ rows 8 l[i] := by
 rw [dB hi, List.flatMap_append]; simp
theorem zq2 (hp : cA rows) (hk : fD rows) (hv : gO rows v) (n f : Bool) (L : List Int) (hr : R32 L) (hL : L.length < 1000000) : PCall Tryz.prog 39 [v, .sl n f (aA L)] fun x => ∃ n f, x = .sl n f (aA (eZ rows L)) := by
 have hv' := hv
 obtain ⟨tc, tg, tj, tf, tp, made, sec, rfl, ht, hm⟩ := hv
 refine zqb _ _ _ _ _ _ _ _ _ _ (fun i h0 _ s => h0 = .ptr [tc, tg, tj, tf, tp, .mp (dH made), .mp (eH sec)] ∧ 0 ≤ i ∧ i ≤ L.length ∧ s = aA ((L.take i.toNat).flatMap (aJ rows 8))) (fun i _ _ _ => L.length - i.toNat) ?_
 unfold zgr
 refine ⟨rfl, ⟨rfl, rfl, Int.le_refl _, by omega, rfl⟩, ?_⟩
 rintro i h0 n1 _ ⟨rfl, i0, i1, rfl⟩
 refine aH (fun hc => ?_) (fun hc => ?_)
 ·simp only [decide_eq_true_eq, bP] at hc
  have hi : i.toNat < L.length := by omega
  obtain ⟨g1, g2⟩ := eW i0 hi
  have hx := hr _ (List.getElem_mem hi)
  have hw : i64.wrap (i + 1) = i + 1 := aF (by omega) (by omega)
  have hfl := uG rows (L.take i.toNat)
  rw [List.length_take] at hfl
  refine ⟨g1, L[i.toNat], by rw [g2]; rfl, ?_⟩
  refine (zf7 _ _ hp ht 8 _ n1 _ (by omega) hx (by omega)).mono ?_
  rintro r h' ⟨nl, rfl, rfl⟩
  rw [hw]
  exact ⟨(nl, _), ⟨rfl, rfl⟩, ⟨trivial, trivial, trivial⟩, rfl, ⟨rfl, by omega, by omega, by rw [show (i + 1).toNat = i.toNat + 1 by omega, zg9 rows hi]; rfl⟩, by dsimp only; omega⟩
 ·simp only [decide_eq_true_eq, bP] at hc
  rw [List.take_of_length_le (by omega)]
  have hfl := uG rows L
  refine (zq1 hk hv' n1 false _ (zg8 hp hr) (by omega)).mono ?_
  rintro _ ⟨n2, f2, rfl⟩
  exact ⟨_, _, _, rfl, _, _, rfl⟩
theorem zq3 (hp : cA rows) (hk : fD rows) (n f n2 f2 : Bool) (hrl : rows.length < 1000000) (L : List Int) (hr : R32 L) (hL : L.length < 1000000) : PCall Tryz.prog 12 [.sl n f (bC rows), .sl n2 f2 (aA L)] fun x => ∃ n f, x = .sl n f (aA (eZ rows L)) := by
 refine zqc _ _ _ _ _ _ (fun i _ s => 0 ≤ i ∧ i ≤ L.length ∧ s = aA ((L.take i.toNat).flatMap (aJ rows 8))) (fun i _ _ => L.length - i.toNat) ?_
 unfold zgs
 refine ⟨⟨rfl, Int.le_refl _, by omega, rfl⟩, ?_⟩
 rintro i n1 _ ⟨i0, i1, rfl⟩
 refine aH (fun hc => ?_) (fun hc => ?_)
 ·simp only [decide_eq_true_eq, bP] at hc
  have hi : i.toNat < L.length := by omega
  obtain ⟨g1, g2⟩ := eW i0 hi
  have hx := hr _ (List.getElem_mem hi)
  have hw : i64.wrap (i + 1) = i + 1 := aF (by omega) (by omega)
  have hfl := uG rows (L.take i.toNat)
  rw [List.length_take] at hfl
  have hf1 := jS rows 8 L[i.toNat]
  have he : aA ((L.take i.toNat).flatMap (aJ rows 8)) ++ aA (aJ rows 8 L[i.toNat]) = aA ((L.take (i + 1).toNat).flatMap (aJ rows 8)) := by
   rw [show (i + 1).toNat = i.toNat + 1 by omega, zg9 rows hi, iB]
  refine ⟨g1, L[i.toNat], by rw [g2]; rfl, ?_⟩
  rw [hw]
  refine (zpd hp n f hrl 8 _ (by omega) hx).mono ?_
  rintro r h' (⟨nl, rfl, rfl⟩ | ⟨rfl, rfl⟩)
  ·exact .inl ⟨(nl, _), ⟨rfl, rfl⟩, trivial, ⟨d8 _, by simp only [bP, List.length_map]; omega⟩, rfl, ⟨by omega, by omega, he⟩, by dsimp only; omega⟩
  ·exact .inr ⟨_, ⟨rfl, rfl⟩, trivial, ⟨d8 _, by rw [bP, bP]; omega⟩, rfl, ⟨by omega, by omega, he⟩, by dsimp only; omega⟩
 ·simp only [decide_eq_true_eq, bP] at hc
  rw [List.take_of_length_le (by omega)]
  have hfl := uG rows L
  refine (zqz hk n f n1 false _ hrl (by omega) (zg8 hp hr)).mono ?_
  rintro _ ⟨n2, f2, rfl⟩
  exact ⟨_, _, _, rfl, _, _, rfl⟩
theorem zha (hk : fD rows) {l : List Int} (h : l.length < 1000000) : (eZ rows l).length < 1000000000000 := by
 have := zgz hk l; omega
end
end Go.Eng



namespace Go.Eng.Rows
open Go Go.Eng Go.Eng.Trie Go.Eng.Srt
def cT (a b : Int) : Option Int :=
 if (4352 ≤ a ∧ a < 4371) ∧ 4449 ≤ b ∧ b < 4470 then some (44032 + ((a - 4352) * 21 + (b - 4449)) * 28)
 else if (aZ a = true ∧ (a - 44032) % 28 = 0) ∧ 4519 < b ∧ b < 4547 then some (a + (b - 4519)) else none
def dC (rows : List Row) (a b : Int) (x : Row) : Bool := decide (x.kind = 2) && (decide (x.a = a) && (decide (x.b = b) && (!decide (b = 0) && !bU rows x.fr)))
def cmpS (rows : List Row) (a b : Int) (o : Option Int) (x : Row) : Option Int :=
 if dC rows a b x then (match o with | none => some x.fr | some r => if x.fr < r then some x.fr else some r) else o
def iV (rows : List Row) (a b : Int) : Option Int := rows.foldl (cmpS rows a b) none
def cU (rows : List Row) (a b : Int) : Option Int := match cT a b with | some r => some r | none => iV rows a b
theorem zX (rows : List Row) (a b : Int) (l : List Row) : match l.foldl (cmpS rows a b) none with
 | none => ∀ x ∈ l, dC rows a b x = false
 | some r => (∃ x ∈ l, dC rows a b x = true ∧ x.fr = r) ∧ ∀ x ∈ l, dC rows a b x = true → r ≤ x.fr := by
 have : ∀ (m : List Row), match m.reverse.foldl (cmpS rows a b) none with
  | none => ∀ x ∈ m, dC rows a b x = false
  | some r => (∃ x ∈ m, dC rows a b x = true ∧ x.fr = r) ∧ ∀ x ∈ m, dC rows a b x = true → r ≤ x.fr := by
  intro m
  induction m with
  | nil => intro x hx; cases hx
  | cons y m ih =>
    rw [List.reverse_cons, List.foldl_append, List.foldl_cons, List.foldl_nil]
    generalize m.reverse.foldl (cmpS rows a b) none = o at ih
    unfold cmpS
    cases hc : dC rows a b y with
    | false =>
      simp only [Bool.false_eq_true, if_false]
      cases o with
      | none => intro x hx; rcases List.mem_cons.1 hx with rfl | hx; exact hc; exact ih x hx
      | some r =>
        obtain ⟨⟨x, h1, h2⟩, h3⟩ := ih
        exact ⟨⟨x, List.mem_cons_of_mem _ h1, h2⟩, fun z hz hz2 => by rcases List.mem_cons.1 hz with rfl | hz; rw [hc] at hz2; cases hz2; exact h3 z hz hz2⟩
    | true =>
      simp only [if_true]
      cases o with
      | none =>
        refine ⟨⟨y, List.mem_cons_self, hc, rfl⟩, fun z hz hz2 => ?_⟩
        rcases List.mem_cons.1 hz with rfl | hz
        ·exact Int.le_refl _
        ·have := ih z hz; rw [this] at hz2; cases hz2
      | some r =>
        obtain ⟨⟨x, h1, h2, h4⟩, h3⟩ := ih
        by_cases hlt : y.fr < r
        ·simp only [hlt, if_true]
         refine ⟨⟨y, List.mem_cons_self, hc, rfl⟩, fun z hz hz2 => ?_⟩
         rcases List.mem_cons.1 hz with rfl | hz
         ·exact Int.le_refl _
         ·have := h3 z hz hz2; omega
        ·simp only [hlt, if_false]
         refine ⟨⟨x, List.mem_cons_of_mem _ h1, h2, h4⟩, fun z hz hz2 => ?_⟩
         rcases List.mem_cons.1 hz with rfl | hz
         ·omega
         ·exact h3 z hz hz2
 have h := this l.reverse
 rw [List.reverse_reverse] at h
 generalize l.foldl (cmpS rows a b) none = o at h ⊢
 cases o with
 | none => intro x hx; exact h x (List.mem_reverse.2 hx)
 | some r => exact ⟨by obtain ⟨⟨x, h1, h2⟩, _⟩ := h; exact ⟨x, List.mem_reverse.1 h1, h2⟩, fun x hx => h.2 x (List.mem_reverse.2 hx)⟩
theorem qK {rows : List Row} (h1 : cY rows) {x : Row} (hx : x ∈ rows) (hk : x.kind = 2) : aD rows x.fr = (x.a, x.b) ∧ 0 ≤ x.fr ∧ x.fr ≤ 1114111 := by
 obtain ⟨e1, e2, e3⟩ := h1 x hx hk
 have hf : bJ rows 2 x.fr = some (x.a, x.b) := by unfold bJ; rw [if_pos e2]; exact e3
 exact ⟨by unfold aD; rw [hf], e2⟩
theorem qL {rows : List Row} (h1 : cY rows) {r : Int} (h : aD rows r ≠ (0, 0)) : ∃ x ∈ rows, x.kind = 2 ∧ x.fr = r ∧ aD rows r = (x.a, x.b) := by
 cases hf : bJ rows 2 r with
 | none => exact absurd (by unfold aD; rw [hf]) h
 | some p =>
   obtain ⟨y, hy, hk, f1, f2⟩ := zgv hf
   obtain ⟨e1, _⟩ := h1 y hy hk
   have hr : y.fr = r := by omega
   have := (qK h1 hy hk).1
   rw [hr] at this
   exact ⟨y, hy, hk, hr, this⟩
theorem qM {rows : List Row} (h1 : cY rows) {a b r : Int} (h : iV rows a b = some r) : aD rows r = (a, b) ∧ b ≠ 0 ∧ bU rows r = false ∧ (0 ≤ r ∧ r ≤ 1114111) ∧ ∃ x ∈ rows, x.kind = 2 ∧ x.fr = r := by
 have := zX rows a b rows
 unfold iV at h
 rw [h] at this
 obtain ⟨⟨x, hx, hc, rfl⟩, _⟩ := this
 simp only [dC, Bool.and_eq_true, decide_eq_true_eq, Bool.not_eq_true', decide_eq_false_iff_not] at hc
 obtain ⟨hk, ha, hb, h0, ho⟩ := hc
 obtain ⟨hp, hr⟩ := qK h1 hx hk
 exact ⟨by rw [hp, ha, hb], h0, ho, hr, x, hx, hk, rfl⟩
theorem zq4 {rows : List Row} (hp : cA rows) (h1 : cY rows) {made : List ((Int × Int) × Int)} {sec : List (Int × Bool)} (hm : MadeOK rows (fun r => 0 ≤ r ∧ r ≤ 1114111) made sec) (a b : Int) :
 (if b = 0 then none else bF (a, b) made) = iV rows a b := by
 have hc := zX rows a b rows
 have good : ∀ x ∈ rows, dC rows a b x = true → b ≠ 0 ∧ (0 ≤ x.fr ∧ x.fr ≤ 1114111) ∧ iA rows x.fr ∧ aD rows x.fr = (a, b) := fun x hx hc => by
  simp only [dC, Bool.and_eq_true, decide_eq_true_eq, Bool.not_eq_true', decide_eq_false_iff_not] at hc
  obtain ⟨hk, ha, hb, h0, ho⟩ := hc
  obtain ⟨e, hr⟩ := qK h1 hx hk
  refine ⟨h0, hr, ⟨?_, ho⟩, by rw [e, ha, hb]⟩
  rw [e]; intro q; exact h0 (hb.symm.trans (Prod.mk.inj q).2)
 have back : ∀ r, b ≠ 0 → iA rows r → aD rows r = (a, b) → ∃ x ∈ rows, dC rows a b x = true ∧ x.fr = r := fun r h0 hg hpr => by
  obtain ⟨x, hx, hk, hfr, hq⟩ := qL h1 hg.1
  have ho := hg.2
  rw [hq] at hpr
  cases hpr
  refine ⟨x, hx, ?_, hfr⟩
  simp only [dC, Bool.and_eq_true, decide_eq_true_eq, Bool.not_eq_true', decide_eq_false_iff_not]
  exact ⟨hk, trivial, trivial, h0, by rw [hfr]; exact ho⟩
 unfold iV
 generalize rows.foldl (cmpS rows a b) none = o at hc ⊢
 split
 ·rename_i h0
  cases o with
  | none => rfl
  | some r => obtain ⟨⟨x, hx, hb, _⟩, _⟩ := hc; exact absurd h0 (good x hx hb).1
 ·rename_i h0
  cases hg : bF (a, b) made with
  | none =>
    cases o with
    | none => rfl
    | some r =>
      obtain ⟨⟨x, hx, hb, _⟩, _⟩ := hc
      obtain ⟨_, g1, g2, g3⟩ := good x hx hb
      exact absurd g3 (hm.m2 _ hg _ g1 g2)
  | some r =>
    obtain ⟨d1, d2, d3, d4⟩ := hm.m1 _ _ hg
    obtain ⟨x, hx, hb, hfr⟩ := back r h0 d2 d3
    cases o with
    | none => have := hc x hx; rw [this] at hb; cases hb
    | some s =>
      obtain ⟨⟨y, hy, hyb, rfl⟩, hl⟩ := hc
      obtain ⟨_, g1, g2, g3⟩ := good y hy hyb
      have k1 := hl x hx hb
      have k2 := d4 _ g1 g2 g3
      rw [hfr] at k1
      exact congrArg some (Int.le_antisymm k2 k1)
theorem uH {a b r : Int} (h : cT a b = some r) : aZ r = true := by
 unfold cT at h
 split at h
 ·rename_i hc; cases h; simp only [aZ, Bool.and_eq_true, decide_eq_true_eq]; omega
 ·split at h
  ·rename_i hc; cases h; simp only [aZ, Bool.and_eq_true, decide_eq_true_eq] at hc ⊢; omega
  ·cases h
theorem zq5 {rows : List Row} (h1 : cY rows) {a b r : Int} (h : cU rows a b = some r) : 0 ≤ r ∧ r ≤ 1114111 := by
 unfold cU at h
 split at h
 ·rename_i s hj; cases h; have := uH hj; simp only [aZ, Bool.and_eq_true, decide_eq_true_eq] at this; omega
 ·exact (qM h1 h).2.2.2.1
structure CSt where
 P : List Int
 s : Option Int
 M : List Int
def cV (key : Int → Int) (M : List Int) : Int := match M.getLast? with | some m => key m | none => 0
def CSt.out (st : CSt) : List Int := st.P ++ (st.s.toList ++ st.M)
def bR (key : Int → Int) (st : CSt) (r : Int) : CSt := if key r = 0 then ⟨st.out, some r, []⟩ else ⟨st.P, st.s, st.M ++ [r]⟩
def bM (rows : List Row) (st : CSt) (r : Int) : CSt := match st.s with
 | none => bR (aB rows 1) st r
 | some a => if st.M = [] ∨ cV (aB rows 1) st.M < aB rows 1 r then (match cU rows a r with
   | some c => ⟨st.P, some c, st.M⟩
   | none => bR (aB rows 1) st r) else bR (aB rows 1) st r
def aT (rows : List Row) (l : List Int) : CSt := l.foldl (bM rows) ⟨[], none, []⟩
def c5 (rows : List Row) (l : List Int) : List Int := (aT rows l).out
theorem dS (rows : List Row) (l : List Int) (r : Int) : aT rows (l ++ [r]) = bM rows (aT rows l) r := by simp [aT]
theorem iW (key : Int → Int) (st : CSt) (r : Int) : (bR key st r).out = st.out ++ [r] := by
 unfold bR; split <;> simp [CSt.out]
theorem kY (rows : List Row) (st : CSt) (r : Int) : bM rows st r = bR (aB rows 1) st r ∨ ∃ a c, st.s = some a ∧ cU rows a r = some c ∧ (st.M = [] ∨ cV (aB rows 1) st.M < aB rows 1 r) ∧ bM rows st r = ⟨st.P, some c, st.M⟩ := by
 unfold bM
 split
 ·exact .inl rfl
 ·rename_i a ha
  split
  ·rename_i hf
   cases hc : cU rows a r with
   | none => exact .inl rfl
   | some c => exact .inr ⟨a, c, ha, hc, hf, rfl⟩
  ·exact .inl rfl
theorem zY (rows : List Row) (l : List Int) : (c5 rows l).length ≤ l.length := by
 unfold c5
 induction l using d9 with
 | h0 => simp [aT, CSt.out]
 | h1 l r ih =>
   rw [dS, List.length_append, List.length_singleton]
   rcases kY rows (aT rows l) r with e | ⟨a, c, hs, _, _, e⟩
   ·rw [e, iW, List.length_append, List.length_singleton]; omega
   ·rw [e]; simp only [CSt.out, hs, Option.toList, List.length_append, List.length_cons] at ih ⊢; omega
theorem zhb {rows : List Row} (h1 : cY rows) (l : List Int) : ∀ x ∈ c5 rows l, x ∈ l ∨ (0 ≤ x ∧ x ≤ 1114111) := by
 unfold c5
 induction l using d9 with
 | h0 => intro x hx; simp [aT, CSt.out] at hx
 | h1 l r ih =>
   rw [dS]
   rcases kY rows (aT rows l) r with e | ⟨a, c, hs, hc, _, e⟩
   ·rw [e, iW]
    intro x hx
    rcases List.mem_append.1 hx with hx | hx
    ·exact (ih x hx).imp (fun h => List.mem_append.2 (.inl h)) id
    ·exact .inl (List.mem_append.2 (.inr hx))
   ·rw [e]
    intro x hx
    simp only [CSt.out, Option.toList, List.mem_append, List.mem_cons, List.not_mem_nil, or_false] at hx ih
    rcases hx with hx | rfl | hx
    ·exact (ih x (.inl hx)).imp (fun h => List.mem_append.2 (.inl h)) id
    ·exact .inr (zq5 h1 hc)
    ·exact (ih x (.inr (.inr hx))).imp (fun h => List.mem_append.2 (.inl h)) id
structure TabC (rows : List Row) : Prop where
 one : cY rows
 closed : uF rows
 cls : fD rows
 syl : ∀ x ∈ rows, x.kind = 2 → aZ x.fr = false
 deep : ∀ x ∈ rows, x.kind = 2 → aJ rows 7 x.fr = aJ rows 8 x.fr
theorem TabC.full7 {rows : List Row} (h : TabC rows) (r : Int) : aJ rows 7 r = aJ rows 8 r := by
 by_cases hs : aZ r = true
 ·rw [dR hs, dR hs]
 ·simp only [Bool.not_eq_true] at hs
  by_cases h0 : aD rows r = (0, 0)
  ·rw [jR hs h0, jR hs h0]
  ·obtain ⟨x, hx, hk, rfl, _⟩ := qL h.one h0
   exact h.deep x hx hk
theorem TabC.join {rows : List Row} (h : TabC rows) {a b c : Int} (ha : bD rows a = true ∨ aZ a = true) (hj : cT a b = some c) : aJ rows 8 c = aJ rows 8 a ++ [b] := by
 rw [dR (uH hj)]
 unfold cT at hj
 split at hj
 ·rename_i hc
  cases hj
  have hr : bD rows a = true := by
   rcases ha with ha | ha
   ·exact ha
   ·simp only [aZ, Bool.and_eq_true, decide_eq_true_eq] at ha; omega
  rw [qI hr]
  unfold dI
  rw [if_pos (by omega)]
  simp only [List.cons_append, List.nil_append, List.cons.injEq, and_true]
  omega
 ·split at hj
  ·rename_i hc
   cases hj
   obtain ⟨⟨hs, h0⟩, h1, h2⟩ := hc
   rw [dR hs]
   simp only [aZ, Bool.and_eq_true, decide_eq_true_eq] at hs
   unfold dI
   rw [if_neg (by omega), if_pos h0]
   simp only [List.cons_append, List.nil_append, List.cons.injEq, and_true]
   omega
  ·cases hj
theorem TabC.lead {rows : List Row} (h : TabC rows) {a : Int} (ha : 4352 ≤ a ∧ a < 4371) : bD rows a = true := by
 have hx := h.closed (44032 + (a - 4352) * 588) a
 refine hx ?_
 have hs : aZ (44032 + (a - 4352) * 588) = true := by simp only [aZ, Bool.and_eq_true, decide_eq_true_eq]; omega
 rw [dR hs]
 unfold dI
 rw [if_pos (by omega), show 4352 + (44032 + (a - 4352) * 588 - 44032) / 588 = a by omega]
 exact List.mem_cons_self
theorem TabC.pair {rows : List Row} (h : TabC rows) {a b c : Int} (hb : bD rows b = true) (hc : cU rows a b = some c) : aJ rows 8 c = aJ rows 8 a ++ [b] := by
 unfold cU at hc
 split at hc
 ·rename_i s hj
  cases hc
  refine h.join ?_ hj
  unfold cT at hj
  split at hj
  ·rename_i hq; exact .inl (h.lead hq.1)
  ·split at hj
   ·rename_i hq; exact .inr hq.1.1
   ·cases hj
 ·obtain ⟨hp, h0, _, _, x, hx, hk, rfl⟩ := qM h.one hc
  have hs := h.syl x hx hk
  have hn : aD rows x.fr ≠ (0, 0) := by rw [hp]; intro e; cases e; exact h0 rfl
  rw [show (8 : Nat) = 7 + 1 from rfl]
  rw [aJ, if_neg (by rw [hs]; simp), if_neg hn, hp]
  simp only
  rw [if_neg h0, h.full7, qI hb]
theorem jU (key : Int → Int) (M : List Int) (r : Int) : cV key (M ++ [r]) = key r := by simp [cV]
structure InvC (rows : List Row) (st : CSt) (p : List Int) : Prop where
 e : Eqv (aB rows 1) (st.out.flatMap (aJ rows 8)) p
 m : ∀ m ∈ st.M, aB rows 1 m ≠ 0 ∧ bD rows m = true ∧ aB rows 1 m ≤ cV (aB rows 1) st.M
 q : st.M ≠ [] → ∃ p' q, p = p' ++ [q] ∧ cV (aB rows 1) st.M ≤ aB rows 1 q
theorem InvC.app {rows : List Row} {st : CSt} {p : List Int} (h : InvC rows st p) {r : Int} (hr : bD rows r = true) (hc : bG (aB rows 1) (p ++ [r])) : InvC rows (bR (aB rows 1) st r) (p ++ [r]) := by
 have he : Eqv (aB rows 1) ((bR (aB rows 1) st r).out.flatMap (aJ rows 8)) (p ++ [r]) := by
  rw [iW, List.flatMap_append, List.flatMap_singleton, qI hr]
  simpa using h.e.app [] [r]
 refine ⟨he, ?_, ?_⟩
 ·unfold bR
  split
  ·intro m hm; cases hm
  ·rename_i h0
   intro m hm
   simp only at hm ⊢
   rw [jU]
   rcases List.mem_append.1 hm with hm | hm
   ·obtain ⟨k1, k2, k3⟩ := h.m m hm
    refine ⟨k1, k2, ?_⟩
    obtain ⟨p', q, rfl, hq⟩ := h.q (List.ne_nil_of_mem hm)
    have := (gQ.1 hc).2.2 q r (by simp) rfl h0
    omega
   ·rw [List.mem_singleton] at hm; subst hm; exact ⟨h0, hr, Int.le_refl _⟩
 ·unfold bR
  split
  ·intro hn; exact absurd rfl hn
  ·intro _; exact ⟨p, r, rfl, by simp only; rw [jU]; exact Int.le_refl _⟩
theorem InvC.step {rows : List Row} (ht : TabC rows) {st : CSt} {p : List Int} (h : InvC rows st p) {r : Int} (hr : bD rows r = true) (hc : bG (aB rows 1) (p ++ [r])) : InvC rows (bM rows st r) (p ++ [r]) := by
 rcases kY rows st r with e | ⟨a, c, hs, hpc, hf, e⟩
 ·rw [e]; exact h.app hr hc
 ·rw [e]
  have hM : st.M.flatMap (aJ rows 8) = st.M := zgw fun m hm => (h.m m hm).2.1
  have he := h.e
  simp only [CSt.out, hs, Option.toList, List.flatMap_append, List.flatMap_singleton, hM] at he
  have hlt : st.M ≠ [] → cV (aB rows 1) st.M < aB rows 1 r := fun hn => hf.elim (fun e => absurd e hn) id
  refine ⟨?_, h.m, fun hn => ⟨p, r, rfl, Int.le_of_lt (hlt hn)⟩⟩
  simp only [CSt.out, Option.toList, List.flatMap_append, List.flatMap_singleton, hM, ht.pair hr hpc]
  refine Eqv.trans ?_ (by simpa using he.app [] [r])
  by_cases hn : st.M = []
  ·rw [hn]; simp; exact .refl _
  ·have h3 : cV (aB rows 1) st.M < aB rows 1 r := hlt hn
   have hr0 : aB rows 1 r ≠ 0 := by
    intro e0
    obtain ⟨m, hm⟩ := List.exists_mem_of_ne_nil _ hn
    obtain ⟨k1, _, k3⟩ := h.m m hm
    have := ht.cls m; omega
   have := (Eqv.ahead (key := aB rows 1) hr0 (B := st.M) [] fun m hm => ⟨(h.m m hm).1, by have := (h.m m hm).2.2; omega⟩).symm.app (st.P.flatMap (aJ rows 8) ++ aJ rows 8 a) []
   simpa using this
theorem zZ {rows : List Row} (ht : TabC rows) {l : List Int} (hr : ∀ x ∈ l, bD rows x = true) (hc : bG (aB rows 1) l) : InvC rows (aT rows l) l := by
 revert hr hc
 induction l using d9 with
 | h0 => intro _ _; exact ⟨.refl _, (fun m hm => by cases hm), fun hn => absurd rfl hn⟩
 | h1 l r ih =>
   intro hr hc
   rw [dS]
   exact (ih (fun x hx => hr x (by simp [hx])) (gQ.1 hc).1).step ht (hr r (by simp)) hc
theorem zq6 {rows : List Row} (ht : TabC rows) {l : List Int} (hr : ∀ x ∈ l, bD rows x = true) (hc : bG (aB rows 1) l) : eZ rows (c5 rows l) = l := by
 show bS (aB rows 1) ((aT rows l).out.flatMap (aJ rows 8)) = l
 rw [zgh (zZ ht hr hc).e, zgk hc]
def jV (rows : List Row) (l : List Int) : List Int := c5 rows (eZ rows l)
def zq7 (rows : List Row) : Bool := rows.all fun x => !decide (x.kind = 2) || (!aZ x.fr && decide (aJ rows 7 x.fr = aJ rows 8 x.fr))
end Go.Eng.Rows



namespace Go.Eng
open Go Go.Proofs Go.Eng.Rows Go.Eng.Trie
theorem zhc : zq7 tab73 = true := by kernel_rfl
theorem zq8 : TabC tab where
 one := iE
 closed := zqt
 cls := qH
 syl := fun x hx hk => by
  have := List.all_eq_true.1 zhc x (mE hx hk)
  simp only [hk, decide_true, Bool.not_true, Bool.false_or, Bool.and_eq_true, Bool.not_eq_true'] at this
  exact this.1
 deep := fun x hx hk => by
  have := List.all_eq_true.1 zhc x (mE hx hk)
  simp only [hk, decide_true, Bool.not_true, Bool.false_or, Bool.and_eq_true, decide_eq_true_eq] at this
  rw [qJ, qJ]; exact this.2
end Go.Eng



namespace Go.Eng.Rows
open Go Go.Eng Go.Eng.Trie Go.Eng.Srt
def Comp (rows : List Row) (s : List Int) : Prop := ∃ d, (∀ x ∈ d, bD rows x = true) ∧ bG (aB rows 1) d ∧ c5 rows d = s
section
variable {rows : List Row}
theorem Comp.fix (ht : TabC rows) {s : List Int} (h : Comp rows s) : jV rows s = s := by
 obtain ⟨d, h1, h2, rfl⟩ := h
 show c5 rows (eZ rows (c5 rows d)) = _
 rw [zq6 ht h1 h2]
def eA (rows : List Row) (s : Option Int) (M : List Int) (r : Int) : Option Int := match s with
 | none => none
 | some a => if M = [] ∨ cV (aB rows 1) M < aB rows 1 r then cU rows a r else none
theorem e8 (st : CSt) (r : Int) : bM rows st r = match eA rows st.s st.M r with | some c => ⟨st.P, some c, st.M⟩ | none => bR (aB rows 1) st r := by
 unfold bM eA
 cases st.s with
 | none => rfl
 | some a =>
   simp only
   split
   ·rfl
   ·rfl
theorem qN {s : Option Int} {M : List Int} {r c : Int} (h : eA rows s M r = some c) : ∃ a, s = some a ∧ cU rows a r = some c ∧ (M = [] ∨ cV (aB rows 1) M < aB rows 1 r) := by
 unfold eA at h
 cases s with
 | none => cases h
 | some a =>
   simp only at h
   split at h
   ·rename_i hf; exact ⟨a, rfl, h, hf⟩
   ·cases h
theorem fR {d : List Int} {x : Int} : bG (aB rows 1) (d ++ [x]) ↔ bG (aB rows 1) d ∧ (∀ z, d.getLast? = some z → aB rows 1 x ≠ 0 → aB rows 1 z ≤ aB rows 1 x) := by
 rw [gQ]
 constructor
 ·rintro ⟨h1, _, h3⟩; exact ⟨h1, fun z hz hx => h3 z x hz rfl hx⟩
 ·rintro ⟨h1, h3⟩; exact ⟨h1, trivial, fun z x' hz hx' h0 => by simp at hx'; subst hx'; exact h3 z hz h0⟩
theorem uI {d : List Int} {r x : Int} (h : bG (aB rows 1) (d ++ [r] ++ [x])) (hx : aB rows 1 x ≠ 0) : aB rows 1 r ≤ aB rows 1 x := (fR.1 h).2 r (by simp) hx
def Wit (rows : List Row) (d : List Int) (st : CSt) : Prop := ∃ e, (∀ x ∈ e, bD rows x = true) ∧ aT rows e = st ∧ (st.out = [] → e = []) ∧ bG (aB rows 1) e ∧ ∀ x, bG (aB rows 1) (d ++ [x]) → bG (aB rows 1) (e ++ [x])
theorem Wit.snoc {d : List Int} {st : CSt} (h : Wit rows d st) {r : Int} (hr : bD rows r = true) (hc : bG (aB rows 1) (d ++ [r])) (hn : (bM rows st r).out ≠ []) : Wit rows (d ++ [r]) (bM rows st r) := by
 obtain ⟨e, h1, h2, h3, h4, h5⟩ := h
 refine ⟨e ++ [r], fun x hx => ?_, by rw [dS, h2], fun hq => absurd hq hn, h5 r hc, fun x hx => ?_⟩
 ·rcases List.mem_append.1 hx with hx | hx
  ·exact h1 x hx
  ·rw [List.mem_singleton] at hx; subst hx; exact hr
 ·exact fR.2 ⟨h5 r hc, fun z hz h0 => by simp at hz; subst hz; exact uI hx h0⟩
theorem z7 {key : Int → Int} {M : List Int} (h : M ≠ []) : ∃ m ∈ M, cV key M = key m := by
 rcases M.eq_nil_or_concat with rfl | ⟨D, z, rfl⟩
 ·exact absurd rfl h
 ·exact ⟨z, by simp, by simp [cV]⟩
theorem zhd {d : List Int} (h : (aT rows d).out = []) : d = [] := by
 revert h
 induction d using d9 with
 | h0 => exact fun _ => rfl
 | h1 d r ih =>
   rw [dS, e8]
   intro h
   split at h
   ·simp [CSt.out] at h
   ·rw [iW] at h; simp at h
theorem nO {d : List Int} (h : (aT rows d).s = none) : (aT rows d).P = [] := by
 revert h
 induction d using d9 with
 | h0 => exact fun _ => rfl
 | h1 d r ih =>
   rw [dS, e8]
   split
   ·intro h; cases h
   ·unfold bR
    split
    ·intro h; cases h
    ·exact ih
theorem zq9 (ht : TabC rows) {d : List Int} (hr : ∀ x ∈ d, bD rows x = true) (hc : bG (aB rows 1) d) (hn : (aT rows d).M ≠ []) :
 Wit rows d ⟨(aT rows d).P, (aT rows d).s, (aT rows d).M.dropLast⟩ := by
 revert hr hc hn
 induction d using d9 with
 | h0 => intro _ _ hn; exact absurd rfl hn
 | h1 d r ih =>
   intro hr hc
   have hr1 : ∀ x ∈ d, bD rows x = true := fun x hx => hr x (by simp [hx])
   have hc1 := (fR.1 hc).1
   have hinv := zZ ht hr1 hc1
   have hrr := hr r (by simp)
   rw [dS]
   have ih := ih hr1 hc1
   have hon := zhd (rows := rows) (d := d)
   generalize hsd : aT rows d = st at *
   rw [e8]
   cases hd : eA rows st.s st.M r with
   | none =>
     simp only
     unfold bR
     split
     ·intro hn; exact absurd rfl hn
     ·rename_i h0
      intro _
      simp only [List.dropLast_concat]
      refine ⟨d, hr1, hsd, fun h => hon h, hc1, fun x hx => fR.2 ⟨hc1, fun z hz hx0 => ?_⟩⟩
      have := (fR.1 hc).2 z hz h0
      have := uI hx hx0
      omega
   | some c =>
     simp only
     intro hn
     obtain ⟨a, hs, hp, hf⟩ := qN hd
     have hlt := hf.elim (fun e => absurd e hn) id
     have hw := (ih hn).snoc hrr hc
     have he : bM rows ⟨st.P, st.s, st.M.dropLast⟩ r = ⟨st.P, some c, st.M.dropLast⟩ := by
      rw [e8]
      have : eA rows st.s st.M.dropLast r = some c := by
       unfold eA
       rw [hs]
       simp only
       rw [if_pos, hp]
       by_cases hdl : st.M.dropLast = []
       ·exact .inl hdl
       ·obtain ⟨m, hm, e⟩ := z7 (key := aB rows 1) hdl
        have := (hinv.m m (List.dropLast_subset _ hm)).2.2
        exact .inr (by omega)
      simp only [this]
     rw [he] at hw
     exact hw (by simp [CSt.out])
def eI (st : CSt) : CSt := match st.s, st.P with
 | none, P => ⟨P, none, st.M.tail⟩
 | some _, [] => ⟨[], none, st.M⟩
 | some c, _ :: P => ⟨P, some c, st.M⟩
theorem zra {st : CSt} (h : st.s = none → st.P = []) : (eI st).out = st.out.tail := by
 obtain ⟨P, s, M⟩ := st
 cases s with
 | none =>
   have hp : P = [] := h rfl
   subst hp
   simp [eI, CSt.out]
 | some c => cases P <;> simp [eI, CSt.out]
theorem zrb (hk : fD rows) (M : List Int) : 0 ≤ cV (aB rows 1) M := by
 by_cases h : M = []
 ·subst h; exact Int.le_refl _
 ·obtain ⟨m, _, e⟩ := z7 (key := aB rows 1) h
  rw [e]; exact hk m
theorem zrc (ht : TabC rows) {d : List Int} (hr : ∀ x ∈ d, bD rows x = true) (hc : bG (aB rows 1) d) (hn : d ≠ []) : Wit rows d (eI (aT rows d)) := by
 revert hr hc hn
 induction d using d9 with
 | h0 => intro _ _ hn; exact absurd rfl hn
 | h1 d r ih =>
   intro hr hc _
   have hr1 : ∀ x ∈ d, bD rows x = true := fun x hx => hr x (by simp [hx])
   have hc1 := (fR.1 hc).1
   have hrr := hr r (by simp)
   by_cases hd0 : d = []
   ·subst hd0
    refine ⟨[], fun x hx => (by cases hx), ?_, fun _ => rfl, trivial, fun x _ => trivial⟩
    rw [dS]
    show _ = eI (bR (aB rows 1) ⟨[], none, []⟩ r)
    unfold bR
    split <;> rfl
   ·have ih := ih hr1 hc1 hd0
    have hP := nO (rows := rows) (d := d)
    have hon : (aT rows d).out ≠ [] := fun h => hd0 (zhd h)
    rw [dS]
    generalize aT rows d = st at *
    have key : (eI (bM rows st r) = bM rows (eI st) r ∧ (bM rows (eI st) r).out ≠ []) → Wit rows (d ++ [r]) (eI (bM rows st r)) := fun ⟨h1, h2⟩ => by
     rw [h1]; exact ih.snoc hrr hc h2
    obtain ⟨P, s, M⟩ := st
    cases s with
    | none =>
      obtain rfl : P = [] := hP rfl
      cases M with
      | nil => exact absurd rfl hon
      | cons m M =>
        refine key ?_
        have e1 : bM rows ⟨[], none, m :: M⟩ r = bR (aB rows 1) ⟨[], none, m :: M⟩ r := rfl
        have e2 : bM rows (eI ⟨[], none, m :: M⟩) r = bR (aB rows 1) ⟨[], none, M⟩ r := rfl
        rw [e1, e2, iW]
        refine ⟨?_, by simp⟩
        unfold bR
        split <;> simp [eI, CSt.out]
    | some c =>
      cases P with
      | cons p P =>
        refine key ?_
        have e2 : eI ⟨p :: P, some c, M⟩ = ⟨P, some c, M⟩ := rfl
        rw [e2, e8, e8]
        simp only
        cases eA rows (some c) M r with
        | none => simp only; rw [iW]; refine ⟨?_, by simp⟩; unfold bR; split <;> simp [eI, CSt.out]
        | some c' => exact ⟨rfl, by simp [CSt.out]⟩
      | nil =>
        have e2 : eI ⟨[], some c, M⟩ = ⟨[], none, M⟩ := rfl
        have e3 : bM rows ⟨[], none, M⟩ r = bR (aB rows 1) ⟨[], none, M⟩ r := rfl
        cases hdec : eA rows (some c) M r with
        | none =>
          refine key ?_
          rw [e2, e3, e8]
          simp only [hdec]
          rw [iW]
          refine ⟨?_, by simp⟩
          unfold bR
          split <;> simp [eI, CSt.out]
        | some c' =>
          obtain ⟨a, _, hp, hf⟩ := qN hdec
          have e4 : eI (bM rows ⟨[], some c, M⟩ r) = ⟨[], none, M⟩ := by
           rw [e8]; simp only [hdec]; rfl
          rw [e4]
          rw [e2] at ih
          obtain ⟨e, h1, h2, h3, h4, h5⟩ := ih
          refine ⟨e, h1, h2, h3, h4, fun x hx => fR.2 ⟨h4, fun z hz hx0 => ?_⟩⟩
          by_cases h0 : aB rows 1 r = 0
          ·have hl := zrb ht.cls M
           have hM : M = [] := hf.elim id fun h => by omega
           subst hM
           have := h3 rfl
           subst this
           simp at hz
          ·have k1 := (fR.1 (h5 r hc)).2 z hz h0
           have k2 := uI hx hx0
           omega
theorem zrd {d : List Int} (hr : ∀ x ∈ d, bD rows x = true) (hc : bG (aB rows 1) d) (hn : (aT rows d).s ≠ none) : ∃ e, (∀ x ∈ e, bD rows x = true) ∧ bG (aB rows 1) e ∧ (aT rows e).out = (aT rows d).P := by
 revert hr hc hn
 induction d using d9 with
 | h0 => intro _ _ hn; exact absurd rfl hn
 | h1 d r ih =>
   intro hr hc
   have hr1 : ∀ x ∈ d, bD rows x = true := fun x hx => hr x (by simp [hx])
   have hc1 := (fR.1 hc).1
   have ih := ih hr1 hc1
   rw [dS, e8]
   cases hd : eA rows (aT rows d).s (aT rows d).M r with
   | none =>
     simp only
     unfold bR
     split
     ·intro _; exact ⟨d, hr1, hc1, rfl⟩
     ·exact ih
   | some c =>
     obtain ⟨a, hs, _⟩ := qN hd
     intro _
     exact ih (by rw [hs]; simp)
theorem Comp.nil : Comp rows [] := ⟨[], fun x hx => (by cases hx), trivial, rfl⟩
theorem Comp.tail (ht : TabC rows) {s : List Int} (h : Comp rows s) : Comp rows s.tail := by
 obtain ⟨d, h1, h2, rfl⟩ := h
 by_cases hd : d = []
 ·subst hd; exact .nil
 ·obtain ⟨e, k1, k2, _, k4, _⟩ := zrc ht h1 h2 hd
  exact ⟨e, k1, k4, by unfold c5; rw [k2, zra nO]⟩
theorem Comp.dropLast (ht : TabC rows) {s : List Int} (h : Comp rows s) : Comp rows s.dropLast := by
 obtain ⟨d, h1, h2, rfl⟩ := h
 unfold c5
 by_cases hM : (aT rows d).M = []
 ·cases hs : (aT rows d).s with
  | none =>
    have : (aT rows d).out = [] := by simp [CSt.out, nO hs, hs, hM]
    rw [this]; exact .nil
  | some c =>
    obtain ⟨e, k1, k2, k3⟩ := zrd h1 h2 (by rw [hs]; simp)
    refine ⟨e, k1, k2, ?_⟩
    unfold c5
    rw [k3]
    simp [CSt.out, hs, hM]
 ·obtain ⟨e, k1, k2, _, k4, _⟩ := zq9 ht h1 h2 hM
  refine ⟨e, k1, k4, ?_⟩
  unfold c5
  rw [k2]
  simp only [CSt.out]
  rw [List.dropLast_append_of_ne_nil (by simp [hM]), List.dropLast_append_of_ne_nil hM]
theorem Comp.drop (ht : TabC rows) {s : List Int} (h : Comp rows s) : ∀ k, Comp rows (s.drop k)
 | 0 => h
 | k + 1 => by
   have := (Comp.drop ht h k).tail ht
   rwa [List.tail_drop] at this
theorem Comp.take (ht : TabC rows) {s : List Int} (h : Comp rows s) (k : Nat) : Comp rows (s.take k) := by
 have : ∀ n, Comp rows (s.take (s.length - n)) := by
  intro n
  induction n with
  | zero => rw [Nat.sub_zero, List.take_length]; exact h
  | succ n ih =>
    have := ih.dropLast ht
    rw [List.dropLast_eq_take, List.take_take, List.length_take] at this
    rwa [show min (min (s.length - n) s.length - 1) (s.length - n) = s.length - (n + 1) by omega] at this
 by_cases hk : k ≤ s.length
 ·have := this (s.length - k)
  rwa [show s.length - (s.length - k) = k by omega] at this
 ·rw [List.take_of_length_le (by omega)]; exact h
end
end Go.Eng.Rows



namespace Go.Eng
open Go Go.Proofs
def zhe (a b : Int) (R : PV → Prop) : Prop :=
 if (decide (a ≥ 4352) && decide (a < 4371) && decide (b ≥ 4449) && decide (b < 4470)) = true then R (PV.tup [Z3 (i32.wrap ((44032 : Int) + i32.wrap (i32.wrap (i32.wrap (i32.wrap (i32.wrap (a -
 4352) * 21) + b) - 4449) * 28))), Zb true]) else PCall Tryz.prog 117 [Z3 a] fun v ↦ ∃ b1, v = Zb b1 ∧ if (b1 && (i32.wrap (a - 44032)).tmod (28 : Int) == 0 && decide (b > 4519) && decide (b < 4547)) = true then R
 (PV.tup [Z3 (i32.wrap (i32.wrap (a + b) - 4519)), Zb true]) else R (PV.tup [Z3 0, Zb false])
theorem zre (a b : Int) {R : PV → Prop} (h : zhe a b R) : PCall Tryz.prog 122 [.int .i32 a, .int .i32 b] R :=
 PCall.of Tryz.func122 (by kernel_rfl) (by kernel_rfl) (Nat.le_of_ble_eq_true (by kernel_rfl)) (Eq.mpr (by kernel_rfl : aR Tryz.prog (fun _ => none) Tryz.f122 [0, 1, 4, 5, 6, 29] (fun _ => none) (Tryz.f122.body.getD .skip) [.int .i32 a, .int .i32 b] R = _) h)

def zhf (tc tg tj tf tp : PV) (M S : List (PV × PV)) (a b : Int) (R : PV → Prop) : Prop :=
 PCall Tryz.prog 122 [Z3 a, Z3 b] fun v ↦ ∃ vs, v = PV.tup vs ∧ vs.length = 2 ∧ ∃ x, vs.head? = some x ∧ ∃ n, x = Z3 n ∧ ∃ x1, vs.tail.head? = some x1 ∧ ∃ b1, x1 = Zb b1 ∧ if b1 = true then R
 (PV.tup [Z3 n, Zb true]) else PCall Tryz.prog 123 [PV.ptr [tc, tg, tj, tf, tp, PV.mp M, PV.mp S], Z3 a, Z3 b] fun v1 ↦ ∃ vs1, v1 = PV.tup vs1 ∧ vs1.length = 2 ∧ ∃ x2, vs1.head? = some x2 ∧ ∃ n1, x2 = Z3 n1
 ∧ ∃ x3, vs1.tail.head? = some x3 ∧ ∃ b2, x3 = Zb b2 ∧ R (PV.tup [Z3 n1, Zb b2])
theorem zrf (tc tg tj tf tp : PV) (M S : List (PV × PV)) (a b : Int) {R : PV → Prop} (h : zhf tc tg tj tf tp M S a b R) : PCall Tryz.prog 105 [.ptr [tc, tg, tj, tf, tp, .mp M, .mp S], .int .i32 a, .int .i32 b] R :=
 PCall.of Tryz.func105 (by kernel_rfl) (by kernel_rfl) (Nat.le_of_ble_eq_true (by kernel_rfl)) (Eq.mpr (by kernel_rfl : aR Tryz.prog (fun _ => none) Tryz.f105 [0, 1, 2, 6, 7, 8, 9, 16] (fun _ => none) (Tryz.f105.body.getD .skip) [.ptr [tc, tg, tj, tf, tp, .mp M, .mp S], .int .i32 a, .int .i32 b] R = _) h)

def mF (tc tg tj tf tp : PV) (M S : List (PV × PV)) (n f : Bool) (es : LL) (x6 x7 x16 : Int) (n_0 : Bool) (s_0 : LL) : Env × Hp := ([(0, LV.pv (PV.ptr [tc, tg, tj, tf, tp, PV.mp M, PV.mp S])), (5, LV.own 0), (6, Y6 x6), (7, Y6 x7), (14, LV.pv (PV.sl n f es)), (15, Y6 ↑es.length), (16, Y6 x16)], [.sl (21, 1) true n_0 s_0])
def zhg (tc tg tj tf tp : PV) (M S : List (PV × PV)) (n f : Bool) (es : LL) (J : Int → Int → Int → Bool → LL → Prop) (μ : Int → Int → Int → Bool → LL → Nat) (R : PV → Prop) : Prop :=
 (aC (mF tc tg tj tf tp M S n f es (-1 : Int) (0 : Int) (0 : Int) true []) ∧ J (-1 : Int) (0 : Int) (0 : Int) true []) ∧ ∀ (x6 x7 x16 : Int) (n_0 : Bool) (s_0 : LL), J x6 x7 x16 n_0 s_0 → if decide (x16 < (↑es.length : Int)) = true
 then aM es x16 1 ∧ ∃ n1, (es.getD x16.toNat []).head? = some (Z3 n1) ∧ PCall Tryz.prog 46 [PV.ptr [tc, tg, tj, tf, tp, PV.mp M, PV.mp S], Z3 n1] fun v ↦ ∃ n2, v = Z6 n2 ∧ if (decide (x6 ≥ 0) && (x6 ==
 i64.wrap ((↑s_0.length : Int) - 1) || x7 != 0 && decide (x7 < n2))) = true then aM s_0 x6 1 ∧ ∃ n3, (List.drop 0 (s_0.getD x6.toNat [])).head? = some (Z3 n3) ∧ PCall Tryz.prog 105 [PV.ptr [tc, tg, tj, tf, tp, PV.mp M,
 PV.mp S], Z3 n3, Z3 n1] fun v1 ↦ ∃ vs, v1 = PV.tup vs ∧ vs.length = 2 ∧ ∃ x, vs.head? = some x ∧ ∃ n4, x = Z3 n4 ∧ ∃ x1, vs.tail.head? = some x1 ∧ ∃ b, x1 = Zb b ∧ if b = true then aM s_0
 x6 1 ∧ (1 = 1 ∧ 1 ≤ (s_0.getD x6.toNat []).length) ∧ aC (mF tc tg tj tf tp M S n f es x6 x7 (i64.wrap (x16 + 1)) n_0 (s_0.set x6.toNat (Z3 n4 :: zq (List.drop 1 (s_0.getD x6.toNat []))))) ∧ J x6 x7
 (i64.wrap (x16 + 1)) n_0 (s_0.set x6.toNat (Z3 n4 :: zq (List.drop 1 (s_0.getD x6.toNat [])))) ∧ μ x6 x7 (i64.wrap (x16 + 1)) n_0 (s_0.set x6.toNat (Z3 n4 :: zq (List.drop
 1 (s_0.getD x6.toNat [])))) < μ x6 x7 x16 n_0 s_0 else if (n2 == 0) = true then (aP [[Z3 n1]] 1 ∧ (s_0.length + 1) * 4 ≤ 140737488355328) ∧ aC (mF tc tg tj tf tp M S n f es (↑s_0.length : Int) n2 (i64.wrap (x16 + 1)) (n_0 &&
 false) (s_0 ++ [[Z3 n1]])) ∧ J (↑s_0.length : Int) n2 (i64.wrap (x16 + 1)) (n_0 && false) (s_0 ++ [[Z3 n1]]) ∧ μ (↑s_0.length : Int) n2 (i64.wrap (x16 + 1)) (n_0 && false) (s_0 ++ [[Z3 n1]]) < μ x6 x7 x16 n_0 s_0 else (aP
 [[Z3 n1]] 1 ∧ (s_0.length + 1) * 4 ≤ 140737488355328) ∧ aC (mF tc tg tj tf tp M S n f es x6 n2 (i64.wrap (x16 + 1)) (n_0 && false) (s_0 ++ [[Z3 n1]])) ∧ J x6 n2 (i64.wrap (x16 + 1)) (n_0 && false) (s_0 ++ [[Z3 n1]]) ∧
 μ x6 n2 (i64.wrap (x16 + 1)) (n_0 && false) (s_0 ++ [[Z3 n1]]) < μ x6 x7 x16 n_0 s_0 else if (n2 == 0) = true then (aP [[Z3 n1]] 1 ∧ (s_0.length + 1) * 4 ≤ 140737488355328) ∧ aC (mF tc tg tj tf tp M S n f es (↑s_0.length :
 Int) n2 (i64.wrap (x16 + 1)) (n_0 && false) (s_0 ++ [[Z3 n1]])) ∧ J (↑s_0.length : Int) n2 (i64.wrap (x16 + 1)) (n_0 && false) (s_0 ++ [[Z3 n1]]) ∧ μ (↑s_0.length : Int) n2 (i64.wrap (x16 + 1)) (n_0 && false) (s_0 ++
 [[Z3 n1]]) < μ x6 x7 x16 n_0 s_0 else (aP [[Z3 n1]] 1 ∧ (s_0.length + 1) * 4 ≤ 140737488355328) ∧ aC (mF tc tg tj tf tp M S n f es x6 n2 (i64.wrap (x16 + 1)) (n_0 && false) (s_0 ++ [[Z3 n1]])) ∧ J x6 n2 (i64.wrap
 (x16 + 1)) (n_0 && false) (s_0 ++ [[Z3 n1]]) ∧ μ x6 n2 (i64.wrap (x16 + 1)) (n_0 && false) (s_0 ++ [[Z3 n1]]) < μ x6 x7 x16 n_0 s_0 else R (PV.sl n_0 false s_0)
theorem zrg (tc tg tj tf tp : PV) (M S : List (PV × PV)) (n f : Bool) (es : LL) (J : Int → Int → Int → Bool → LL → Prop) (μ : Int → Int → Int → Bool → LL → Nat) {R : PV → Prop} (h : zhg tc tg tj tf tp M S n f es J μ R) : PCall Tryz.prog 82 [.ptr [tc, tg, tj, tf, tp, .mp M, .mp S], .sl n f es] R :=
 PCall.of Tryz.func82 (by kernel_rfl) (by kernel_rfl) (Nat.le_of_ble_eq_true (by kernel_rfl)) (Eq.mpr (by kernel_rfl : aR Tryz.prog (fun _ => none) Tryz.f82 [0, 1, 4, 5, 6, 7, 9, 10, 11, 12, 13, 14, 15, 16, 17, 41, 52, 58] (fun zz_ => match zz_ with | 5 => some ⟨Int × Int × Int × Bool × LL, fun s => mF tc tg tj tf tp M S n f es s.1 s.2.1 s.2.2.1 s.2.2.2.1 s.2.2.2.2, fun _ s => J s.1 s.2.1 s.2.2.1 s.2.2.2.1 s.2.2.2.2, fun s => μ s.1 s.2.1 s.2.2.1 s.2.2.2.1 s.2.2.2.2, fun e h => (gI e 6, gI e 7, gI e 16, oN h 0, oS h 0), [(5, 21, 1)], [0, 5, 6, 7, 14, 15, 16], [], fun p => ∀ (x6 x7 x16 : Int) (n_0 : Bool) (s_0 : LL), p (x6, x7, x16, n_0, s_0), fun p h s => h s.1 s.2.1 s.2.2.1 s.2.2.2.1 s.2.2.2.2⟩ | _ => none) (Tryz.f82.body.getD .skip) [.ptr [tc, tg, tj, tf, tp, .mp M, .mp S], .sl n f es] R = _) h)

def zhh (tc tg tj tf tp : PV) (M S : List (PV × PV)) (n f : Bool) (es : LL) (R : PV → Prop) : Prop :=
 PCall Tryz.prog 39 [PV.ptr [tc, tg, tj, tf, tp, PV.mp M, PV.mp S], PV.sl n f es] fun v ↦ ∃ n1 f1 es1, v = PV.sl n1 f1 es1 ∧ PCall Tryz.prog 82 [PV.ptr [tc, tg, tj, tf, tp, PV.mp M, PV.mp S], PV.sl n1 f1
 es1] fun v1 ↦ ∃ n2 f2 es2, v1 = PV.sl n2 f2 es2 ∧ R (PV.sl n2 f2 es2)
theorem zrh (tc tg tj tf tp : PV) (M S : List (PV × PV)) (n f : Bool) (es : LL) {R : PV → Prop} (h : zhh tc tg tj tf tp M S n f es R) : PCall Tryz.prog 48 [.ptr [tc, tg, tj, tf, tp, .mp M, .mp S], .sl n f es] R :=
 PCall.of Tryz.func48 (by kernel_rfl) (by kernel_rfl) (Nat.le_of_ble_eq_true (by kernel_rfl)) (Eq.mpr (by kernel_rfl : aR Tryz.prog (fun _ => none) Tryz.f48 [0, 1, 4] (fun _ => none) (Tryz.f48.body.getD .skip) [.ptr [tc, tg, tj, tf, tp, .mp M, .mp S], .sl n f es] R = _) h)

end Go.Eng



namespace Go.Eng
open Go Go.Proofs Go.Eng.Rows Go.Eng.Trie Go.Eng.Srt
def iX : Option Int → PV
 | some r => .tup [.int .i32 r, .bool true]
 | none => .tup [.int .i32 0, .bool false]
theorem zri {a b : Int} (ha : -2147483648 ≤ a ∧ a ≤ 2147483647) (hb : -2147483648 ≤ b ∧ b ≤ 2147483647) : PCall Tryz.prog 122 [.int .i32 a, .int .i32 b] fun v => v = iX (cT a b) := by
 refine zre _ _ ?_; unfold zhe
 refine aH (fun hc => ?_) (fun hc => ?_)
 ·simp only [Bool.and_eq_true, decide_eq_true_eq, ge_iff_le] at hc
  have w1 : i32.wrap (a - 4352) = a - 4352 := cK (by omega) (by omega)
  have w2 : i32.wrap ((a - 4352) * 21) = (a - 4352) * 21 := cK (by omega) (by omega)
  have w3 : i32.wrap ((a - 4352) * 21 + b) = (a - 4352) * 21 + b := cK (by omega) (by omega)
  have w4 : i32.wrap ((a - 4352) * 21 + b - 4449) = (a - 4352) * 21 + b - 4449 := cK (by omega) (by omega)
  have w5 : i32.wrap (((a - 4352) * 21 + b - 4449) * 28) = ((a - 4352) * 21 + b - 4449) * 28 := cK (by omega) (by omega)
  have w6 : i32.wrap (44032 + ((a - 4352) * 21 + b - 4449) * 28) = 44032 + ((a - 4352) * 21 + b - 4449) * 28 := cK (by omega) (by omega)
  rw [w1, w2, w3, w4, w5, w6]
  unfold cT
  rw [if_pos (by omega)]
  simp only [iX]
  rw [show (a - 4352) * 21 + b - 4449 = (a - 4352) * 21 + (b - 4449) by omega]
 ·simp only [Bool.and_eq_true, decide_eq_true_eq, ge_iff_le] at hc
  refine (zf5 a).mono ?_
  rintro _ rfl
  refine ⟨_, rfl, ?_⟩
  have hn : ¬ ((4352 ≤ a ∧ a < 4371) ∧ 4449 ≤ b ∧ b < 4470) := by omega
  cases hs : aZ a with
  | false =>
    refine bN (by simp) ?_
    unfold cT; rw [if_neg hn, if_neg (by rw [hs]; simp)]; rfl
  | true =>
    have hr := hs
    simp only [aZ, Bool.and_eq_true, decide_eq_true_eq] at hr
    have w1 : i32.wrap (a - 44032) = a - 44032 := cK (by omega) (by omega)
    have e3 : (a - 44032).tmod 28 = (a - 44032) % 28 := Int.tmod_eq_emod_of_nonneg (by omega)
    rw [w1, e3]
    refine aH (fun h2 => ?_) (fun h2 => ?_)
    ·simp only [Bool.and_eq_true, decide_eq_true_eq, gt_iff_lt, beq_iff_eq, Bool.true_and] at h2
     have w2 : i32.wrap (a + b) = a + b := cK (by omega) (by omega)
     have w3 : i32.wrap (a + b - 4519) = a + b - 4519 := cK (by omega) (by omega)
     rw [w2, w3]
     unfold cT; rw [if_neg hn, if_pos ⟨⟨hs, h2.1.1⟩, h2.1.2, h2.2⟩]
     simp only [iX]
     rw [show a + b - 4519 = a + (b - 4519) by omega]
    ·simp only [Bool.and_eq_true, decide_eq_true_eq, gt_iff_lt, beq_iff_eq, Bool.true_and] at h2
     unfold cT; rw [if_neg hn, if_neg (by omega)]; rfl
section
variable {rows : List Row} {v : PV}
theorem zrj (hp : cA rows) (h1 : cY rows) (hv : gO rows v) {a b : Int} (ha : -2147483648 ≤ a ∧ a ≤ 2147483647) (hb : -2147483648 ≤ b ∧ b ≤ 2147483647) : PCall Tryz.prog 105 [v, .int .i32 a, .int .i32 b] fun x => x = iX (cU rows a b) := by
 obtain ⟨tc, tg, tj, tf, tp, made, sec, rfl, ht, hm⟩ := hv
 refine zrf _ _ _ _ _ _ _ _ _ ?_; unfold zhf
 refine (zri ha hb).mono ?_
 rintro _ rfl
 unfold cU
 cases cT a b with
 | some r =>
   exact ⟨_, rfl, rfl, _, rfl, _, rfl, _, rfl, _, rfl, bE rfl rfl⟩
 | none =>
   refine ⟨_, rfl, rfl, _, rfl, _, rfl, _, rfl, _, rfl, bN (by simp) ?_⟩
   refine (zo8 _ _ _ _ _ _ made a b).mono ?_
   rintro _ rfl
   rw [← zq4 hp h1 hm a b]
   unfold tP
   split
   ·exact ⟨_, rfl, rfl, _, rfl, _, rfl, _, rfl, _, rfl, rfl⟩
   ·cases bF (a, b) made with
    | none => exact ⟨_, rfl, rfl, _, rfl, _, rfl, _, rfl, _, rfl, rfl⟩
    | some r => exact ⟨_, rfl, rfl, _, rfl, _, rfl, _, rfl, _, rfl, rfl⟩
def cO (st : CSt) : Int := match st.s with | none => -1 | some _ => st.P.length
theorem zhi {d : List Int} : ∀ m ∈ (aT rows d).M, aB rows 1 m ≠ 0 := by
 induction d using d9 with
 | h0 => intro m hm; cases hm
 | h1 d r ih =>
   rw [dS]
   rcases kY rows (aT rows d) r with e | ⟨a, c, hs, hp, _, e⟩
   ·rw [e]
    unfold bR
    split
    ·intro m hm; cases hm
    ·rename_i h0
     intro m hm
     rcases List.mem_append.1 hm with hm | hm
     ·exact ih m hm
     ·rw [List.mem_singleton] at hm; subst hm; exact h0
   ·rw [e]; exact ih
def JC (rows : List Row) (L : List Int) (x6 x7 i : Int) (s : List (List PV)) : Prop := (0 ≤ i ∧ i ≤ L.length) ∧ s = aA (aT rows (L.take i.toNat)).out ∧ x6 = cO (aT rows (L.take i.toNat)) ∧ x7 = cV (aB rows 1) (aT rows (L.take i.toNat)).M
theorem JC.next {L : List Int} {i : Int} (h0 : 0 ≤ i) (hi : i.toNat < L.length) {st : CSt} (he : bM rows (aT rows (L.take i.toNat)) L[i.toNat] = st) : JC rows L (cO st) (cV (aB rows 1) st.M) (i + 1) (aA st.out) := by
 have e : aT rows (L.take (i + 1).toNat) = st := by
  rw [show (i + 1).toNat = i.toNat + 1 by omega, dB hi, dS, he]
 exact ⟨⟨by omega, by omega⟩, by rw [e], by rw [e], by rw [e]⟩
theorem zrk (hp : cA rows) (h1 : cY rows) (hv : gO rows v) (n f : Bool) (L : List Int) (hr : R32 L) (hL : L.length < 1000000000000) : PCall Tryz.prog 82 [v, .sl n f (aA L)] fun x => ∃ n f, x = .sl n f (aA (c5 rows L)) := by
 have hv' := hv
 obtain ⟨tc, tg, tj, tf, tp, made, sec, rfl, ht, hm⟩ := hv
 refine zrg _ _ _ _ _ _ _ _ _ _ (fun x6 x7 i _ s => JC rows L x6 x7 i s) (fun _ _ i _ _ => L.length - i.toNat) ?_
 unfold zhg
 refine ⟨⟨rfl, ⟨Int.le_refl _, by omega⟩, rfl, rfl, rfl⟩, ?_⟩
 rintro x6 x7 i n0 _ ⟨⟨i0, i1⟩, rfl, rfl, rfl⟩
 refine aH (fun hc => ?_) (fun hc => ?_)
 ·simp only [decide_eq_true_eq, bP] at hc
  have hi : i.toNat < L.length := by omega
  obtain ⟨g1, g2⟩ := eW i0 hi
  have hx := hr _ (List.getElem_mem hi)
  have hw : i64.wrap (i + 1) = i + 1 := aF (by omega) (by omega)
  refine ⟨g1, L[i.toNat], by rw [g2]; rfl, ?_⟩
  refine (nK _ _ ht hx).mono ?_
  rintro _ rfl
  refine ⟨_, rfl, ?_⟩
  rw [hw]
  have hlen := zY rows (L.take i.toNat)
  have hrng := zhb h1 (L.take i.toNat)
  have hnz := zhi (rows := rows) (d := L.take i.toNat)
  have hnP := nO (rows := rows) (d := L.take i.toNat)
  rw [List.length_take] at hlen
  unfold c5 at hlen hrng
  have next := fun st => JC.next (rows := rows) (st := st) i0 hi
  generalize aT rows (L.take i.toNat) = st at *
  have hmu : L.length - (i + 1).toNat < L.length - i.toNat := by omega
  have hsz : aP [[PV.int .i32 L[i.toNat]]] 1 ∧ ((aA st.out).length + 1) * 4 ≤ 140737488355328 := ⟨d8 [_], by rw [bP]; omega⟩
  have hout : aA st.out ++ [[PV.int .i32 L[i.toNat]]] = aA (st.out ++ [L[i.toNat]]) := by rw [iB]; rfl
  have hl : ((aA st.out).length : Int) = st.out.length := by rw [bP]
  have app0 : bM rows st L[i.toNat] = bR (aB rows 1) st L[i.toNat] → aB rows 1 L[i.toNat] = 0 → JC rows L (aA st.out).length (aB rows 1 L[i.toNat]) (i + 1) (aA st.out ++ [[PV.int .i32 L[i.toNat]]]) := fun he h0 => by
   have := next _ (he.trans (by unfold bR; rw [if_pos h0]))
   rw [hout, hl, h0]
   simpa [cO, cV, CSt.out] using this
  have app1 : bM rows st L[i.toNat] = bR (aB rows 1) st L[i.toNat] → aB rows 1 L[i.toNat] ≠ 0 → JC rows L (cO st) (aB rows 1 L[i.toNat]) (i + 1) (aA st.out ++ [[PV.int .i32 L[i.toNat]]]) := fun he h0 => by
   have := next _ (he.trans (by unfold bR; rw [if_neg h0]))
   rw [hout]
   simp only [jU] at this
   have e2 : st.out ++ [L[i.toNat]] = CSt.out ⟨st.P, st.s, st.M ++ [L[i.toNat]]⟩ := by simp [CSt.out]
   rw [e2]
   exact this
  refine aH (fun hf => ?_) (fun hf => ?_)
  ·simp only [Bool.and_eq_true, decide_eq_true_eq, Bool.or_eq_true, beq_iff_eq, bne_iff_ne, ne_eq, ge_iff_le] at hf
   obtain ⟨hf1, hf2⟩ := hf
   cases hs : st.s with
   | none => simp [cO, hs] at hf1
   | some a =>
     have hsi : cO st = st.P.length := by simp [cO, hs]
     have hol : st.out.length = st.P.length + 1 + st.M.length := by simp [CSt.out, hs]; omega
     have hw2 : i64.wrap ((aA st.out).length - 1) = st.out.length - 1 := by rw [hl]; exact aF (by omega) (by omega)
     have hfree : st.M = [] ∨ cV (aB rows 1) st.M < aB rows 1 L[i.toNat] := by
      rcases hf2 with h | h
      ·rw [hw2, hsi] at h
       exact .inl (List.eq_nil_of_length_eq_zero (by omega))
      ·exact .inr h.2
     have hat : st.out[st.P.length]'(by omega) = a := by simp [CSt.out, hs]
     obtain ⟨k1, k2⟩ := eW (l := st.out) (i := cO st) (by omega) (by omega)
     have hta : (cO st).toNat = st.P.length := by omega
     have k3 : (aA st.out).getD (cO st).toNat [] = [PV.int .i32 a] := by
      rw [k2]; simp only [hta, hat]
     have ha : -2147483648 ≤ a ∧ a ≤ 2147483647 := by
      rcases hrng a (by simp [CSt.out, hs]) with h | h
      ·exact hr a (List.mem_of_mem_take h)
      ·omega
     refine ⟨k1, a, by rw [k3]; rfl, ?_⟩
     refine (zrj hp h1 hv' ha hx).mono ?_
     rintro _ rfl
     cases hpc : cU rows a L[i.toNat] with
     | some c =>
       refine ⟨_, rfl, rfl, _, rfl, _, rfl, _, rfl, _, rfl, bE rfl ⟨k1, ⟨rfl, by rw [k3]; exact Nat.le_refl _⟩, rfl, ?_, by dsimp only; omega⟩⟩
       rw [k3, hta]
       have he : bM rows st L[i.toNat] = ⟨st.P, some c, st.M⟩ := by
        unfold bM; rw [hs]; simp only; rw [if_pos hfree, hpc]
       have := next _ he
       have e2 : (aA st.out).set st.P.length [PV.int .i32 c] = aA (CSt.out ⟨st.P, some c, st.M⟩) := by
        simp [CSt.out, hs, aA]
       have e3 : cO ⟨st.P, some c, st.M⟩ = cO st := by rw [hsi]; rfl
       rw [e3] at this
       show JC rows L (cO st) (cV (aB rows 1) st.M) (i + 1) ((aA st.out).set st.P.length [PV.int .i32 c])
       rw [e2]
       exact this
     | none =>
       have he : bM rows st L[i.toNat] = bR (aB rows 1) st L[i.toNat] := by
        unfold bM; rw [hs]; simp only; rw [if_pos hfree, hpc]
       refine ⟨_, rfl, rfl, _, rfl, _, rfl, _, rfl, _, rfl, bN (by simp) (aH (fun h0 => ?_) (fun h0 => ?_))⟩
       ·exact ⟨hsz, rfl, app0 he (by simpa using h0), by dsimp only; omega⟩
       ·exact ⟨hsz, rfl, app1 he (by simpa using h0), by dsimp only; omega⟩
  ·simp only [Bool.and_eq_true, decide_eq_true_eq, Bool.or_eq_true, beq_iff_eq, bne_iff_ne, ne_eq, ge_iff_le] at hf
   have he : bM rows st L[i.toNat] = bR (aB rows 1) st L[i.toNat] := by
    rcases kY rows st L[i.toNat] with e | ⟨a, c, hs, hpc, hfree, e⟩
    ·exact e
    ·have hsi : cO st = st.P.length := by simp [cO, hs]
     have hol : st.out.length = st.P.length + 1 + st.M.length := by simp [CSt.out, hs]; omega
     have hw2 : i64.wrap ((aA st.out).length - 1) = st.out.length - 1 := by rw [hl]; exact aF (by omega) (by omega)
     refine absurd ⟨by omega, ?_⟩ hf
     by_cases hM : st.M = []
     ·left; rw [hw2, hsi, hol, hM]; simp
     ·right
      obtain ⟨m, hm, e⟩ := z7 (key := aB rows 1) hM
      exact ⟨by rw [e]; exact hnz m hm, hfree.elim (fun e => absurd e hM) id⟩
   refine aH (fun h0 => ?_) (fun h0 => ?_)
   ·exact ⟨hsz, rfl, app0 he (by simpa using h0), by dsimp only; omega⟩
   ·exact ⟨hsz, rfl, app1 he (by simpa using h0), by dsimp only; omega⟩
 ·simp only [decide_eq_true_eq, bP] at hc
  rw [List.take_of_length_le (by omega)]
  exact ⟨_, _, rfl⟩
theorem zrl (hp : cA rows) (h1 : cY rows) (hk : fD rows) (hv : gO rows v) (n f : Bool) (L : List Int) (hr : R32 L) (hL : L.length < 1000000) : PCall Tryz.prog 48 [v, .sl n f (aA L)] fun x => ∃ n f, x = .sl n f (aA (jV rows L)) := by
 have hv' := hv
 obtain ⟨tc, tg, tj, tf, tp, made, sec, rfl, ht, hm⟩ := hv
 refine zrh _ _ _ _ _ _ _ _ _ _ ?_; unfold zhh
 refine (zq2 hp hk hv' n f L hr hL).mono ?_
 rintro _ ⟨n1, f1, rfl⟩
 refine ⟨_, _, _, rfl, ?_⟩
 refine (zrk hp h1 hv' _ _ _ (zgy hk hp hr) (zha hk hL)).mono ?_
 rintro _ ⟨n2, f2, rfl⟩
 exact ⟨_, _, _, rfl, _, _, rfl⟩
theorem zhj (hk : fD rows) (l : List Int) : (jV rows l).length ≤ 768 * l.length := Nat.le_trans (zY rows _) (zgz hk l)
end
end Go.Eng



namespace Go.Eng
open Go Go.Proofs Go.Eng.Rows Go.Eng.Trie Go.Eng.Srt
theorem v22 : Tryz.prog.underlying 22 = some (.slice 21) := by kernel_rfl
theorem v21 : Tryz.prog.underlying 21 = some (.int .i32) := by kernel_rfl
theorem zrm {v : PV} (h : nB Tryz.prog 8 22 v) : ∃ nl l, v = .sl nl false (aA l) ∧ R32 l := by
 obtain ⟨nl, l, e, hl, _, hr⟩ := zlh v22 v21 (zli (by kernel_rfl) h)
 cases e
 exact ⟨nl, l, rfl, hr⟩
end Go.Eng



namespace Go.Eng.Rows
open Go Go.Eng Go.Eng.Trie Go.Eng.Srt
def zhk (L : List Int) (a b : Nat) : List Int := (L.take b).drop a
def zrn (rows : List Row) (L want : List Int) (a b : Nat) : Bool := decide (eZ rows (zhk L a b) = want)
def fTo (p : Nat → Bool) (b : Nat) : Nat → Option Nat
 | 0 => none
 | k + 1 => if p b then some b else fTo p (b + 1) k
def zhl (rows : List Row) (L want : List Int) (a : Nat) : Nat → Option (Nat × Nat)
 | 0 => none
 | k + 1 => match fTo (zrn rows L want a) a (L.length + 1 - a) with
   | some b => some (a, b)
   | none => zhl rows L want (a + 1) k
def findL (rows : List Row) (L want : List Int) : Option (Nat × Nat) := zhl rows L want 0 (L.length + 1)
end Go.Eng.Rows



namespace Go.Eng
open Go Go.Proofs
end Go.Eng



namespace Go.Eng
open Go Go.Proofs Go.Eng.Rows Go.Eng.Trie Go.Eng.Srt
theorem zro {t : PV} (ht : gO tab t) (n f : Bool) (L : List Int) (hr : R32 L) (hL : L.length < 1000000) : PCall Tryz.prog 48 [t, .sl n f (aA L)] fun x => ∃ n f, x = .sl n f (aA (jV tab L)) := zrl iD iE qH ht n f L hr hL
theorem zrp (n f n2 f2 : Bool) (a b : List Int) (hl : a.length < 1000000000000) : PCall Tryz.prog 22 [.sl n f (aA a), .sl n2 f2 (aA b)] fun x => x = .bool (decide (a = b)) := zqx n f n2 f2 a b hl
theorem zrq (l : List Int) (k : Nat) : (l.take k).length ≤ k := by rw [List.length_take]; omega
theorem R32.sub {L : List Int} (h : R32 L) (i j : Nat) : R32 (zhk L i j) := fun x hx => h x (List.mem_of_mem_take (List.mem_of_mem_drop hx))
theorem w3 : Tryz.prog.underlying 3 = some (.int .i64) := by kernel_rfl
end Go.Eng



namespace Go.Eng.Srt
open Go Go.Eng
section
variable {key : Int → Int} (hk : ∀ x, 0 ≤ key x)
include hk
end
end Go.Eng.Srt
namespace Go.Eng.Rows
open Go Go.Eng Go.Eng.Trie Go.Eng.Srt
section
variable {rows : List Row}
def CSt.pre (Q : List Int) (st : CSt) : CSt := ⟨Q ++ st.P, st.s, st.M⟩
def mG (rows : List Row) (h : Int) : Prop := ∀ c, cU rows c h = none
theorem zhm {h : Int} (hn : mG rows h) (s : Option Int) (M : List Int) : eA rows s M h = none := by
 cases hd : eA rows s M h with
 | none => rfl
 | some c => obtain ⟨a, _, hp, _⟩ := qN hd; rw [hn a] at hp; cases hp
theorem uJ {h : Int} (h0 : aB rows 1 h = 0) (hn : mG rows h) (st : CSt) : bM rows st h = ⟨st.out, some h, []⟩ := by
 rw [e8, zhm hn]; simp [bR, h0]
theorem z8 (h1 : cY rows) (hp : cA rows) {h : Int} (ho : bY rows h = 0) : mG rows h := by
 unfold bY at ho
 split at ho
 ·cases ho
 ·split at ho
  ·cases ho
  ·rename_i h2 h3
   simp only [Bool.or_eq_true, not_or, Bool.not_eq_true] at h3
   obtain ⟨h3, h4⟩ := h3
   intro c
   unfold cU
   have : cT c h = none := by
    unfold cT
    simp only [kT, Bool.or_eq_false_iff, Bool.and_eq_false_imp, decide_eq_true_eq, decide_eq_false_iff_not] at h4
    split
    ·rename_i hc; exact absurd (by omega) (h4.1 (by omega))
    ·split
     ·rename_i hc; exact absurd (by omega) (h4.2 (by omega))
     ·rfl
   rw [this]
   simp only
   cases hc : iV rows c h with
   | none => rfl
   | some r =>
     obtain ⟨q1, q2, q3, _⟩ := qM h1 hc
     have : eV rows h = true := (y7 hp h1 h).2 ⟨r, ⟨by rw [q1]; intro e; exact q2 (Prod.mk.inj e).2, q3⟩, by rw [q1]⟩
     rw [this] at h3; cases h3
end
end Go.Eng.Rows



namespace Go.Eng.Rows
open Go Go.Eng Go.Eng.Trie Go.Eng.Srt
def uK (key : Int → Int) : List Int → Bool
 | x :: y :: r => (decide (key y = 0) || decide (key x ≤ key y)) && uK key (y :: r)
 | _ => true
theorem zhn {key : Int → Int} : ∀ {l : List Int}, uK key l = true → bG key l
 | [], _ => trivial
 | [a], _ => trivial
 | x :: y :: r, h => by
   simp only [uK, Bool.and_eq_true, Bool.or_eq_true, decide_eq_true_eq] at h
   exact ⟨fun h0 => h.1.elim (fun e => absurd e h0) id, zhn h.2⟩
structure nP (rows : List Row) : Prop where
 c : TabC rows
 pr : cA rows
 ks : ∀ r, aZ r = true → aB rows 1 r = 0
 kj : ∀ r, ((4352 ≤ r ∧ r < 4371) ∨ (4449 ≤ r ∧ r < 4470) ∨ (4519 < r ∧ r < 4547)) → aB rows 1 r = 0
 lead : ∀ r, (4352 ≤ r ∧ r < 4371) → eV rows r = false
 good : ∀ x ∈ rows, x.kind = 2 → bU rows x.fr = false → bD rows x.b = true ∧ bU rows x.a = false ∧ cU rows x.a x.b = some x.fr ∧ bG (aB rows 1) (aJ rows 8 x.fr) ∧ (eV rows (cG rows x.fr) = false ∧ kT (cG rows x.fr) = false ∧ bU rows (cG rows x.fr) = false) ∧ aB rows 1 (cG rows x.fr) = 0
section
variable {rows : List Row}
theorem uL {r : Int} (h : bU rows r = false) (hn : aD rows r ≠ (0, 0)) : (aD rows r).2 ≠ 0 ∧ aB rows 1 r = 0 ∧ aB rows 1 (aD rows r).1 = 0 := by
 unfold bU at h
 simp [hn] at h
 exact ⟨h.1, h.2.2.1, h.2.2.2⟩
theorem zho {r : Int} (h : bD rows r = true) : bU rows r = false := by
 simp only [bD, Bool.and_eq_true, decide_eq_true_eq] at h
 simp [bU, h.2]
theorem zrr (hc : TabC rows) {r : Int} (h : aZ r = true) : aD rows r = (0, 0) := by
 by_cases hn : aD rows r = (0, 0)
 ·exact hn
 ·obtain ⟨x, hx, hk, rfl, _⟩ := qL hc.one hn
  rw [hc.syl x hx hk] at h; cases h
theorem zrs (hc : TabC rows) {a b c : Int} (h : cU rows a b = some c) : bU rows c = false := by
 unfold cU at h
 split at h
 ·rename_i s hj; cases h; simp [bU, zrr hc (uH hj)]
 ·exact (qM hc.one h).2.2.1
theorem zhp (h1 : cY rows) (hks : ∀ r, aZ r = true → aB rows 1 r = 0) {a b c : Int} (h : cU rows a b = some c) : aB rows 1 c = 0 := by
 unfold cU at h
 split at h
 ·rename_i s hj; cases h; exact hks _ (uH hj)
 ·obtain ⟨q1, q2, q3, _⟩ := qM h1 h
  exact (uL q3 (by rw [q1]; intro e; exact q2 (Prod.mk.inj e).2)).2.1
theorem zrt (hc : TabC rows) {d : List Int} (hr : ∀ x ∈ d, bD rows x = true) : ∀ x ∈ c5 rows d, bU rows x = false := by
 unfold c5
 revert hr
 induction d using d9 with
 | h0 => intro _ x hx; simp [aT, CSt.out] at hx
 | h1 d r ih =>
   intro hr
   have ih := ih fun x hx => hr x (by simp [hx])
   rw [dS]
   rcases kY rows (aT rows d) r with e | ⟨a, c, hs, hp, _, e⟩
   ·rw [e, iW]
    intro x hx
    rcases List.mem_append.1 hx with hx | hx
    ·exact ih x hx
    ·rw [List.mem_singleton] at hx; subst hx; exact zho (hr x (by simp))
   ·rw [e]
    intro x hx
    simp only [CSt.out, Option.toList, List.mem_append, List.mem_cons, List.not_mem_nil, or_false] at hx ih
    rcases hx with hx | rfl | hx
    ·exact ih x (.inl hx)
    ·exact zrs hc hp
    ·exact ih x (.inr (.inr hx))
theorem zhq (h1 : cY rows) (hks : ∀ r, aZ r = true → aB rows 1 r = 0) (d : List Int) : ∀ a, (aT rows d).s = some a → aB rows 1 a = 0 := by
 induction d using d9 with
 | h0 => intro a h; cases h
 | h1 d r ih =>
   rw [dS]
   rcases kY rows (aT rows d) r with e | ⟨b, c, hs, hp, _, e⟩
   ·rw [e]
    unfold bR
    split
    ·rename_i h0; intro a h; cases h; exact h0
    ·exact ih
   ·rw [e]
    intro a h; cases h; exact zhp h1 hks hp
theorem zru (hq : nP rows) {d : List Int} (hr : ∀ x ∈ d, bD rows x = true) (hc : bG (aB rows 1) d) : bG (aB rows 1) (c5 rows d) := by
 unfold c5
 revert hr hc
 induction d using d9 with
 | h0 => intro _ _; trivial
 | h1 d r ih =>
   intro hr hc
   have hr1 : ∀ x ∈ d, bD rows x = true := fun x hx => hr x (by simp [hx])
   have hc1 := (fR.1 hc).1
   have ih := ih hr1 hc1
   have hinv := zZ hq.c hr1 hc1
   have hs0 := zhq hq.c.one hq.ks d
   have hP := nO (rows := rows) (d := d)
   rw [dS]
   rcases kY rows (aT rows d) r with e | ⟨b, c, hs, hp, _, e⟩
   ·rw [e, iW]
    refine fR.2 ⟨ih, fun z hz h0 => ?_⟩
    by_cases hM : (aT rows d).M = []
    ·cases hs : (aT rows d).s with
     | none => simp [CSt.out, hM, hs, hP hs] at hz
     | some a =>
       have := hs0 a hs
       simp [CSt.out, hM, hs] at hz
       rw [← hz, this]; exact hq.c.cls r
    ·obtain ⟨p', q, rfl, hle⟩ := hinv.q hM
     have h1 := uI hc h0
     obtain ⟨D, m, hDm⟩ := (List.eq_nil_or_concat _).resolve_left hM
     rw [hDm] at hle
     rw [List.concat_eq_append, jU] at hle
     simp [CSt.out, hDm] at hz
     rw [← hz]; omega
   ·rw [e]
    simp only [CSt.out, hs, Option.toList] at ih ⊢
    have h0 := zhp hq.c.one hq.ks hp
    obtain ⟨k1, k2, _⟩ := gQ.1 ih
    refine gQ.2 ⟨k1, ?_, fun z x _ hx hx0 => ?_⟩
    ·simp only [List.singleton_append] at k2 ⊢
     cases hM : (aT rows d).M with
     | nil => trivial
     | cons m M => rw [hM] at k2; exact ⟨fun _ => by rw [h0]; exact hq.c.cls m, k2.2⟩
    ·simp at hx; subst hx; exact absurd h0 hx0
theorem uM {P : List Int} {a b c : Int} (h : cU rows a b = some c) : bM rows ⟨P, some a, []⟩ b = ⟨P, some c, []⟩ := by
 rw [e8]; simp [eA, h]
theorem zaa {a b c : Int} (h : cT a b = some c) : cU rows a b = some c := by unfold cU; rw [h]
theorem zrv (hq : nP rows) : ∀ (n : Nat) (r : Int), bU rows r = false → aB rows 1 r = 0 → (∀ x ∈ aJ rows n r, bD rows x = true) → (∀ h, (aJ rows n r).head? = some h → aB rows 1 h = 0 ∧ mG rows h) →
 ∀ st, (aJ rows n r).foldl (bM rows) st = ⟨st.out, some r, []⟩ := by
 intro n
 induction n with
 | zero =>
   intro r ho hk hrest hh st
   by_cases hs : aZ r = true
   ·rw [dR hs] at hh ⊢
    simp only [aZ, Bool.and_eq_true, decide_eq_true_eq] at hs
    unfold dI at hh ⊢
    split
    ·rename_i h0
     rw [if_pos h0] at hh
     obtain ⟨k1, k2⟩ := hh _ rfl
     rw [List.foldl_cons, List.foldl_cons, List.foldl_nil, uJ k1 k2]
     refine uM (zaa ?_)
     unfold cT; rw [if_pos (by omega)]; exact congrArg some (by omega)
    ·rename_i h0
     rw [if_neg h0] at hh
     obtain ⟨k1, k2⟩ := hh _ rfl
     rw [List.foldl_cons, List.foldl_cons, List.foldl_cons, List.foldl_nil, uJ k1 k2]
     rw [uM (c := r - (r - 44032) % 28) (zaa ?_), uM (zaa ?_)]
     ·unfold cT; rw [if_neg (by omega), if_pos ?_]
      ·exact congrArg some (by omega)
      ·simp only [aZ, Bool.and_eq_true, decide_eq_true_eq]; omega
     ·unfold cT; rw [if_pos (by omega)]; exact congrArg some (by omega)
   ·simp only [Bool.not_eq_true] at hs
    have hf : aJ rows 0 r = [r] := by simp [aJ, hs]
    rw [hf] at hh ⊢
    obtain ⟨k1, k2⟩ := hh _ rfl
    rw [List.foldl_cons, List.foldl_nil, uJ k1 k2]
 | succ n ih =>
   intro r ho hk hrest hh st
   by_cases hs : aZ r = true
   ·rw [dR hs] at hh ⊢
    have := ih r ho hk (by rw [dR hs, ← dR (rows := rows) (d := n + 1) hs]; exact hrest) (by rw [dR hs]; exact hh) st
    rwa [dR hs] at this
   ·simp only [Bool.not_eq_true] at hs
    by_cases h0 : aD rows r = (0, 0)
    ·rw [jR hs h0] at hh ⊢
     obtain ⟨k1, k2⟩ := hh _ rfl
     rw [List.foldl_cons, List.foldl_nil, uJ k1 k2]
    ·obtain ⟨g1, g2, g3⟩ := uL ho h0
     obtain ⟨x, hx, hkx, rfl, hpx⟩ := qL hq.c.one h0
     obtain ⟨q1, q2, q3, _⟩ := hq.good x hx hkx ho
     rw [hpx] at g1 g3
     have hf : aJ rows (n + 1) x.fr = aJ rows n x.a ++ [x.b] := by
      rw [aJ, if_neg (by rw [hs]; simp), if_neg h0, hpx]
      simp only
      rw [if_neg g1, qI q1]
     rw [hf] at hrest hh ⊢
     have hne := qA rows n x.a
     rw [List.foldl_append, ih x.a q2 g3 (fun y hy => hrest y (List.mem_append.2 (.inl hy))) (fun h hy => hh h (by rw [List.head?_append, hy]; rfl)) st]
     exact uM q3
theorem zrw (key : Int → Int) (d : List Int) (b r : Int) : Srt.ins key (d ++ [b]) r = if dW key r b = true then Srt.ins key d r ++ [b] else d ++ [b] ++ [r] := by
 unfold Srt.ins
 rw [List.reverse_append]
 simp only [List.reverse_cons, List.reverse_nil, List.nil_append, List.singleton_append, nN]
 split <;> simp
theorem zrx (hk : fD rows) {r : Int} (h0 : aB rows 1 r ≠ 0) (hn : mG rows r) {d : List Int} (hM : (aT rows d).M = [] ∨ cV (aB rows 1) (aT rows d).M ≤ aB rows 1 r) :
 aT rows (Srt.ins (aB rows 1) d r) = ⟨(aT rows d).P, (aT rows d).s, (aT rows d).M ++ [r]⟩ := by
 revert hM
 induction d using d9 with
 | h0 =>
   intro _
   show bM rows ⟨[], none, []⟩ r = _
   rw [e8]
   simp [eA, bR, h0, aT]
 | h1 d b ih =>
   rw [zrw]
   split
   ·rename_i hp
    obtain ⟨_, hlt⟩ := kW.1 hp
    rw [dS, dS]
    rw [e8 (aT rows d) b]
    cases hd : eA rows (aT rows d).s (aT rows d).M b with
    | none =>
      simp only
      unfold bR
      have := hk r
      rw [if_neg (by omega)]
      simp only [jU]
      rintro (h | h)
      ·simp at h
      ·omega
    | some c =>
      simp only
      intro hM
      rw [ih hM]
      obtain ⟨a, hs, hpc, _⟩ := qN hd
      rw [e8]
      have : eA rows (aT rows d).s ((aT rows d).M ++ [r]) b = some c := by
       unfold eA; rw [hs]; simp only; rw [if_pos (.inr (by rw [jU]; exact hlt)), hpc]
      simp only [this]
   ·intro _
    rw [dS, e8, zhm hn]
    simp [bR, h0]
theorem zry {r : Int} (h : bY rows r = 0) : bU rows r = false := by
 unfold bY at h
 split at h
 ·cases h
 ·rename_i h1; simpa using h1
theorem zrz (hq : nP rows) {l : List Int} (hy : ∀ r ∈ l, bY rows r = 0) (hc : bG (aB rows 1) l) : Comp rows l := by
 revert hy hc
 induction l using d9 with
 | h0 => intro _ _; exact .nil
 | h1 l r ih =>
   intro hy hc
   obtain ⟨d, k1, k2, k3⟩ := ih (fun x hx => hy x (by simp [hx])) (fR.1 hc).1
   have hr := hy r (by simp)
   have ho := zry hr
   have hn := z8 hq.c.one hq.pr hr
   by_cases h0 : aB rows 1 r = 0
   ·have hfull : (∀ h, (aJ rows 8 r).head? = some h → aB rows 1 h = 0 ∧ mG rows h) ∧ bG (aB rows 1) (aJ rows 8 r) := by
     by_cases hs : aZ r = true
     ·rw [dR hs]
      simp only [aZ, Bool.and_eq_true, decide_eq_true_eq] at hs
      have hl : aB rows 1 (4352 + (r - 44032) / 588) = 0 ∧ mG rows (4352 + (r - 44032) / 588) := by
       refine ⟨hq.kj _ (.inl (by omega)), z8 hq.c.one hq.pr ?_⟩
       have e1 := hq.lead (4352 + (r - 44032) / 588) (by omega)
       have e2 : kT (4352 + (r - 44032) / 588) = false := by
        simp only [kT, Bool.or_eq_false_iff, Bool.and_eq_false_imp, decide_eq_true_eq, decide_eq_false_iff_not]; omega
       have e3 := zho (hq.c.lead (a := 4352 + (r - 44032) / 588) (by omega))
       simp [bY, e1, e2, e3]
      have hv : aB rows 1 (4449 + (r - 44032) / 28 % 21) = 0 := hq.kj _ (.inr (.inl (by omega)))
      unfold dI
      split
      ·exact ⟨fun h hh => (by simp at hh; subst hh; exact hl), fun h => absurd hv h, trivial⟩
      ·have ht : aB rows 1 (4519 + (r - 44032) % 28) = 0 := hq.kj _ (.inr (.inr (by omega)))
       exact ⟨fun h hh => (by simp at hh; subst hh; exact hl), fun h => absurd hv h, fun h => absurd ht h, trivial⟩
     ·simp only [Bool.not_eq_true] at hs
      by_cases hp : aD rows r = (0, 0)
      ·rw [jR hs hp]; exact ⟨fun h hh => (by simp at hh; subst hh; exact ⟨h0, hn⟩), trivial⟩
      ·obtain ⟨x, hx, hkx, rfl, hpx⟩ := qL hq.c.one hp
       obtain ⟨_, _, _, q4, ⟨q5, q6, q8⟩, q7⟩ := hq.good x hx hkx ho
       refine ⟨fun h hh => ?_, q4⟩
       have : cG rows x.fr = h := by
        unfold cG
        cases hf : aJ rows 8 x.fr with
        | nil => rw [hf] at hh; cases hh
        | cons y t => rw [hf] at hh; simpa using hh
       rw [this] at q5 q6 q7 q8
       exact ⟨q7, z8 hq.c.one hq.pr (by simp [bY, q5, q6, q8])⟩
    refine ⟨d ++ aJ rows 8 r, fun x hx => ?_, gQ.2 ⟨k2, hfull.2, fun z x _ hx hx0 => absurd (hfull.1 x hx).1 hx0⟩, ?_⟩
    ·rcases List.mem_append.1 hx with hx | hx
     ·exact k1 x hx
     ·exact hq.c.closed r x hx
    ·unfold c5 aT
     rw [List.foldl_append, zrv hq 8 r ho h0 (fun x hx => hq.c.closed r x hx) hfull.1]
     unfold c5 aT at k3
     rw [← k3]
     simp [CSt.out]
   ·have hrest : bD rows r = true := by
     unfold bD
     have hs : aZ r = false := by
      cases hs : aZ r with
      | false => rfl
      | true => exact absurd (hq.ks r hs) h0
     have hp : aD rows r = (0, 0) := by
      by_cases hp : aD rows r = (0, 0)
      ·exact hp
      ·exact absurd (uL ho hp).2.1 h0
     simp [hs, hp]
    have hM : (aT rows d).M = [] ∨ cV (aB rows 1) (aT rows d).M ≤ aB rows 1 r := by
     by_cases hM : (aT rows d).M = []
     ·exact .inl hM
     ·obtain ⟨D, m, hDm⟩ := (List.eq_nil_or_concat _).resolve_left hM
      refine .inr ?_
      rw [hDm, List.concat_eq_append, jU]
      refine (fR.1 hc).2 m ?_ h0
      rw [← k3]
      simp [c5, CSt.out, hDm]
    refine ⟨Srt.ins (aB rows 1) d r, fun x hx => ?_, zgj k2, ?_⟩
    ·have := (zgi hq.c.cls d r).mem.2 hx
     rcases List.mem_append.1 this with hx | hx
     ·exact k1 x hx
     ·rw [List.mem_singleton] at hx; subst hx; exact hrest
    ·unfold c5 at k3 ⊢
     rw [zrx hq.c.cls h0 hn hM, ← k3]
     simp [CSt.out]
theorem zhr : ∀ (l : List Int) (m : Bool) (last : Int), cZ rows m last l = 0 → m = false ∧ (∀ r ∈ l, bY rows r = 0) ∧ bG (aB rows 1) l ∧ ∀ x, l.head? = some x → aB rows 1 x ≠ 0 → last ≤ aB rows 1 x
 | [], m, last, h => by
   unfold cZ at h
   cases m with
   | false => exact ⟨rfl, fun r hr => (by cases hr), trivial, fun x hx => by cases hx⟩
   | true => cases h
 | r :: l, m, last, h => by
   unfold cZ at h
   split at h
   ·cases h
   ·rename_i hc
    simp only [Bool.or_eq_true, decide_eq_true_eq, Bool.and_eq_true, Bool.not_eq_true', decide_eq_false_iff_not, not_or, not_and, Int.not_lt] at hc
    obtain ⟨h1, h2, h3, h4⟩ := zhr l _ _ h
    simp only [Bool.or_eq_false_iff, decide_eq_false_iff_not] at h1
    have h0 : bY rows r = 0 := by rcases zqe rows r with e | e | e; exact e; exact absurd e hc.1; exact absurd e h1.2
    refine ⟨h1.1, fun x hx => by rcases List.mem_cons.1 hx with rfl | hx; exact h0; exact h2 x hx, ?_, fun x hx hx0 => by simp at hx; subst hx; exact hc.2 hx0⟩
    cases l with
    | nil => trivial
    | cons y l => exact ⟨fun hy => h4 y rfl hy, h3⟩
theorem zhs : ∀ (l : List Int) (m : Bool) (last : Int), (∀ r ∈ l, bU rows r = false) → bG (aB rows 1) l → (∀ x, l.head? = some x → aB rows 1 x ≠ 0 → last ≤ aB rows 1 x) → cZ rows m last l ≠ 1
 | [], m, last, _, _, _ => by unfold cZ; split <;> decide
 | r :: l, m, last, h1, h2, h3 => by
   unfold cZ
   rw [if_neg]
   ·refine zhs l _ _ (fun x hx => h1 x (List.mem_cons_of_mem _ hx)) ?_ fun x hx hx0 => ?_
    ·cases l with
     | nil => trivial
     | cons y l => exact h2.2
    ·cases l with
     | nil => cases hx
     | cons y l => simp at hx; subst hx; exact h2.1 hx0
   ·simp only [Bool.or_eq_true, decide_eq_true_eq, Bool.and_eq_true, Bool.not_eq_true', decide_eq_false_iff_not, not_or, not_and, Int.not_lt]
    refine ⟨?_, h3 r rfl⟩
    unfold bY
    rw [h1 r List.mem_cons_self]
    simp only [Bool.false_eq_true, if_false]
    split <;> decide
theorem zht (hq : nP rows) {l : List Int} (h : cZ rows false 0 l = 0) : jV rows l = l := by
 obtain ⟨_, h1, h2, _⟩ := zhr l _ _ h
 exact (zrz hq h1 h2).fix hq.c
theorem zhu (hq : nP rows) {l : List Int} (h : cZ rows false 0 l = 1) : jV rows l ≠ l := by
 intro e
 have hr := zql hq.c.cls hq.c.closed l
 have h1 := zrt hq.c hr
 have h2 := zru hq hr (zqm rows l)
 rw [show c5 rows (eZ rows l) = l from e] at h1 h2
 exact zhs l false 0 h1 h2 (fun x _ _ => hq.c.cls x) h
end
end Go.Eng.Rows



namespace Go.Eng
open Go Go.Proofs
def zhv (r : Int) (R : PV → Prop) : Prop :=
 R (Zb (decide (r ≥ 4449) && decide (r < 4470) || decide (r > 4519) && decide (r < 4547)))
theorem zr0 (r : Int) {R : PV → Prop} (h : zhv r R) : PCall Tryz.prog 81 [.int .i32 r] R :=
 PCall.of Tryz.func81 (by kernel_rfl) (by kernel_rfl) (Nat.le_of_ble_eq_true (by kernel_rfl)) (Eq.mpr (by kernel_rfl : aR Tryz.prog (fun _ => none) Tryz.f81 [0, 2] (fun _ => none) (Tryz.f81.body.getD .skip) [.int .i32 r] R = _) h)

def zhw (n f : Bool) (es : LL) (r : Int) (R : PV → Prop) : Prop :=
 PCall Tryz.prog 74 [PV.sl n f es, Z3 r] fun v ↦ ∃ vs, v = PV.tup vs ∧ vs.length = 3 ∧ ∃ x, vs.head? = some x ∧ ∃ n1, x = Z3 n1 ∧ ∃ x1, vs.tail.head? = some x1 ∧ ∃ n2, x1 = Z3 n2 ∧ ∃ (x2 :
 PV), vs.tail.tail.head? = some x2 ∧ ∃ b, x2 = Zb b ∧ if (!b) = true then R (Zb false) else if (n2 == 0) = true then R (Zb true) else PCall Tryz.prog 102 [PV.sl n f es, Z6 3, Z3 r] fun v1 ↦ ∃ n3, v1 = Z6 n3 ∧ if (n3
 == 1) = true then R (Zb true) else PCall Tryz.prog 102 [PV.sl n f es, Z6 1, Z3 r] fun v2 ↦ ∃ n4, v2 = Z6 n4 ∧ if (n4 != 0) = true then R (Zb true) else PCall Tryz.prog 102 [PV.sl n f es, Z6 1, Z3 n1] fun v3 ↦ ∃ (n5 :
 Int), v3 = Z6 n5 ∧ R (Zb (n5 != 0))
theorem zr1 (n f : Bool) (es : LL) (r : Int) {R : PV → Prop} (h : zhw n f es r R) : PCall Tryz.prog 121 [.sl n f es, .int .i32 r] R :=
 PCall.of Tryz.func121 (by kernel_rfl) (by kernel_rfl) (Nat.le_of_ble_eq_true (by kernel_rfl)) (Eq.mpr (by kernel_rfl : aR Tryz.prog (fun _ => none) Tryz.f121 [0, 1, 4, 5, 6, 7, 16] (fun _ => none) (Tryz.f121.body.getD .skip) [.sl n f es, .int .i32 r] R = _) h)

def zhx (tc tg tj tf tp : PV) (M S : List (PV × PV)) (r : Int) (R : PV → Prop) : Prop :=
 PCall Tryz.prog 38 [PV.ptr [tc, tg, tj, tf, tp, PV.mp M, PV.mp S], Z3 r] fun v ↦ ∃ b, v = Zb b ∧ if b = true then R (Z6 1) else PCall Tryz.prog 80 [PV.ptr [tc, tg, tj, tf, tp, PV.mp M, PV.mp S], Z3 r] fun v1 ↦ ∃ (b1 :
 Bool), v1 = Zb b1 ∧ if b1 = true then if b1 = true then R (Z6 2) else R (Z6 0) else PCall Tryz.prog 81 [Z3 r] fun v2 ↦ ∃ b2, v2 = Zb b2 ∧ if b2 = true then R (Z6 2) else R (Z6 0)
theorem zr2 (tc tg tj tf tp : PV) (M S : List (PV × PV)) (r : Int) {R : PV → Prop} (h : zhx tc tg tj tf tp M S r R) : PCall Tryz.prog 47 [.ptr [tc, tg, tj, tf, tp, .mp M, .mp S], .int .i32 r] R :=
 PCall.of Tryz.func47 (by kernel_rfl) (by kernel_rfl) (Nat.le_of_ble_eq_true (by kernel_rfl)) (Eq.mpr (by kernel_rfl : aR Tryz.prog (fun _ => none) Tryz.f47 [0, 1, 4, 5, 9] (fun _ => none) (Tryz.f47.body.getD .skip) [.ptr [tc, tg, tj, tf, tp, .mp M, .mp S], .int .i32 r] R = _) h)

def zab (tc tg tj tf tp : PV) (M S : List (PV × PV)) (r x13_0 x13_1 x14 : Int) : Env × Hp := ([(0, LV.pv (PV.ptr [tc, tg, tj, tf, tp, PV.mp M, PV.mp S])), (13, .pv (.agg [.int i32 x13_0, .int i32 x13_1])), (14, Y6 x14)], [])
def zhy (tc tg tj tf tp : PV) (M S : List (PV × PV)) (r : Int) (J : Int → Int → Int → Prop) (μ : Int → Int → Int → Nat) (R : PV → Prop) : Prop :=
 PCall Tryz.prog 40 [PV.ptr [tc, tg, tj, tf, tp, PV.mp M, PV.mp S], Z3 r] fun v ↦ ∃ n f es, v = PV.sl n f es ∧ aM es (0 : Int) 1 ∧ ∃ n1, (es.getD 0 []).head? = some (Z3 n1) ∧ (aC (zab tc
 tg tj tf tp M S r r n1 (0 : Int)) ∧ J r n1 (0 : Int)) ∧ ∀ (x13_0 x13_1 x14 : Int), J x13_0 x13_1 x14 → if decide (x14 < 2) = true then ((0 : Int) ≤ x14 ∧ x14 < (↑2 : Int) ∧ x14.toNat * 1 + 1 ≤ 2) ∧ ∃ n2, [Z3 x13_0, Z3 x13_1].getD
 x14.toNat PV.unit = Z3 n2 ∧ PCall Tryz.prog 46 [PV.ptr [tc, tg, tj, tf, tp, PV.mp M, PV.mp S], Z3 n2] fun v1 ↦ ∃ n3, v1 = Z6 n3 ∧ if (n3 != 0) = true then R (Zb false) else PCall Tryz.prog 47 [PV.ptr [tc, tg, tj, tf, tp,
 PV.mp M, PV.mp S], Z3 n2] fun v2 ↦ ∃ n4, v2 = Z6 n4 ∧ if (n4 != 0) = true then R (Zb false) else aC (zab tc tg tj tf tp M S r x13_0 x13_1 (i64.wrap (x14 + 1))) ∧ J x13_0 x13_1 (i64.wrap (x14 + 1)) ∧ μ
 x13_0 x13_1 (i64.wrap (x14 + 1)) < μ x13_0 x13_1 x14 else R (Zb true)
theorem zr3 (tc tg tj tf tp : PV) (M S : List (PV × PV)) (r : Int) (J : Int → Int → Int → Prop) (μ : Int → Int → Int → Nat) {R : PV → Prop} (h : zhy tc tg tj tf tp M S r J μ R) : PCall Tryz.prog 49 [.ptr [tc, tg, tj, tf, tp, .mp M, .mp S], .int .i32 r] R :=
 PCall.of Tryz.func49 (by kernel_rfl) (by kernel_rfl) (Nat.le_of_ble_eq_true (by kernel_rfl)) (Eq.mpr (by kernel_rfl : aR Tryz.prog (fun _ => none) Tryz.f49 [0, 1, 4, 6, 13, 14, 15, 26] (fun zz_ => match zz_ with | 2 => some ⟨Int × Int × Int, fun s => zab tc tg tj tf tp M S r s.1 s.2.1 s.2.2, fun _ s => J s.1 s.2.1 s.2.2, fun s => μ s.1 s.2.1 s.2.2, fun e h => (gC e 13 0, gC e 13 1, gI e 14), [], [0, 13, 14], [], fun p => ∀ (x13_0 x13_1 x14 : Int), p (x13_0, x13_1, x14), fun p h s => h s.1 s.2.1 s.2.2⟩ | _ => none) (Tryz.f49.body.getD .skip) [.ptr [tc, tg, tj, tf, tp, .mp M, .mp S], .int .i32 r] R = _) h)

def uN (tc tg tj tf tp : PV) (M S : List (PV × PV)) (n f : Bool) (es : LL) (x5 x6 x12 : Int) : Env × Hp := ([(0, LV.pv (PV.ptr [tc, tg, tj, tf, tp, PV.mp M, PV.mp S])), (5, Y6 x5), (6, Y6 x6), (10, LV.pv (PV.sl n f es)), (11, Y6 ↑es.length), (12, Y6 x12)], [])
def zhz (tc tg tj tf tp : PV) (M S : List (PV × PV)) (n f : Bool) (es : LL) (J : Int → Int → Int → Prop) (μ : Int → Int → Int → Nat) (R : PV → Prop) : Prop :=
 (aC (uN tc tg tj tf tp M S n f es (0 : Int) (0 : Int) (0 : Int)) ∧ J (0 : Int) (0 : Int) (0 : Int)) ∧ ∀ (x5 x6 x12 : Int), J x5 x6 x12 → if decide (x12 < (↑es.length : Int)) = true then aM es x12 1 ∧ ∃ n1, (es.getD
 x12.toNat []).head? = some (Z3 n1) ∧ PCall Tryz.prog 46 [PV.ptr [tc, tg, tj, tf, tp, PV.mp M, PV.mp S], Z3 n1] fun v ↦ ∃ n2, v = Z6 n2 ∧ if (n2 != 0 && decide (x6 > n2)) = true then R (Z6 1) else PCall Tryz.prog 47 [PV.ptr
 [tc, tg, tj, tf, tp, PV.mp M, PV.mp S], Z3 n1] fun v1 ↦ ∃ n3, v1 = Z6 n3 ∧ if (n3 == 1) = true then R (Z6 1) else if (n3 == 2) = true then aC (uN tc tg tj tf tp M S n f es (2 : Int) n2 (i64.wrap (x12 + 1))) ∧ J
 (2 : Int) n2 (i64.wrap (x12 + 1)) ∧ μ (2 : Int) n2 (i64.wrap (x12 + 1)) < μ x5 x6 x12 else aC (uN tc tg tj tf tp M S n f es x5 n2 (i64.wrap (x12 + 1))) ∧ J x5 n2 (i64.wrap (x12 + 1)) ∧ μ x5 n2
 (i64.wrap (x12 + 1)) < μ x5 x6 x12 else R (Z6 x5)
theorem zr4 (tc tg tj tf tp : PV) (M S : List (PV × PV)) (n f : Bool) (es : LL) (J : Int → Int → Int → Prop) (μ : Int → Int → Int → Nat) {R : PV → Prop} (h : zhz tc tg tj tf tp M S n f es J μ R) : PCall Tryz.prog 16 [.ptr [tc, tg, tj, tf, tp, .mp M, .mp S], .sl n f es] R :=
 PCall.of Tryz.func16 (by kernel_rfl) (by kernel_rfl) (Nat.le_of_ble_eq_true (by kernel_rfl)) (Eq.mpr (by kernel_rfl : aR Tryz.prog (fun _ => none) Tryz.f16 [0, 1, 4, 5, 6, 8, 9, 10, 11, 12, 13, 25, 29, 30, 32] (fun zz_ => match zz_ with | 3 => some ⟨Int × Int × Int, fun s => uN tc tg tj tf tp M S n f es s.1 s.2.1 s.2.2, fun _ s => J s.1 s.2.1 s.2.2, fun s => μ s.1 s.2.1 s.2.2, fun e h => (gI e 5, gI e 6, gI e 12), [], [0, 5, 6, 10, 11, 12], [], fun p => ∀ (x5 x6 x12 : Int), p (x5, x6, x12), fun p h s => h s.1 s.2.1 s.2.2⟩ | _ => none) (Tryz.f16.body.getD .skip) [.ptr [tc, tg, tj, tf, tp, .mp M, .mp S], .sl n f es] R = _) h)

end Go.Eng



namespace Go.Eng
open Go Go.Proofs
def zh0 (tc tg tj tf tp : PV) (M S : List (PV × PV)) (r : Int) (R : PV → Prop) : Prop :=
 (∃ (kvs : List (PV × PV)), some (PV.mp S) = some (PV.mp kvs) ∧ eP .i32 kvs ∧ (∀ (v : PV), bI (Z3 r) kvs = some v → ∃ b, v = Zb b ∧ R (Zb b)) ∧ (bI (Z3 r) kvs = none → R (Zb false))) ∨ some (PV.mp S) = some PV.nilm ∧
 eP .i32 [] ∧ (∀ (v : PV), bI (Z3 r) [] = some v → ∃ b, v = Zb b ∧ R (Zb b)) ∧ (bI (Z3 r) [] = none → R (Zb false))
theorem zr5 (tc tg tj tf tp : PV) (M S : List (PV × PV)) (r : Int) {R : PV → Prop} (h : zh0 tc tg tj tf tp M S r R) : PCall Tryz.prog 80 [.ptr [tc, tg, tj, tf, tp, .mp M, .mp S], .int .i32 r] R :=
 PCall.of Tryz.func80 (by kernel_rfl) (by kernel_rfl) (Nat.le_of_ble_eq_true (by kernel_rfl)) (Eq.mpr (by kernel_rfl : aR Tryz.prog (fun _ => none) Tryz.f80 [0, 1, 4] (fun _ => none) (Tryz.f80.body.getD .skip) [.ptr [tc, tg, tj, tf, tp, .mp M, .mp S], .int .i32 r] R = _) h)

end Go.Eng



namespace Go.Eng
open Go Go.Proofs Go.Eng.Rows Go.Eng.Trie
theorem zr6 (tc tg tj tf tp : PV) (M : List (PV × PV)) (sec : List (Int × Bool)) (r : Int) : PCall Tryz.prog 80 [.ptr [tc, tg, tj, tf, tp, .mp M, .mp (eH sec)], .int .i32 r] fun v => v = .bool (tO sec r) := by
 refine zr5 _ _ _ _ _ _ _ _ ?_
 unfold zh0
 have hg := kE (ek := fun n => PV.int .i32 n) (ev := fun b => PV.bool b) (nC .i32) r sec
 refine .inl ⟨_, rfl, kF sec, fun v hv => ?_, fun hv => ?_⟩
 ·rw [hg] at hv
  cases h : bF r sec with
  | none => rw [h] at hv; cases hv
  | some b => rw [h] at hv; cases hv; exact ⟨b, rfl, by simp [tO, h]⟩
 ·rw [hg] at hv
  cases h : bF r sec with
  | none => simp [tO, h]
  | some b => rw [h] at hv; cases hv
end Go.Eng



namespace Go.Eng
open Go Go.Proofs Go.Eng.Rows Go.Eng.Trie
theorem zr7 (r : Int) : PCall Tryz.prog 81 [.int .i32 r] fun v => v = .bool (kT r) := by
 refine zr0 _ ?_; unfold zhv
 unfold kT
 by_cases h1 : 4449 ≤ r <;> by_cases h2 : r ≤ 4469 <;> by_cases h3 : 4520 ≤ r <;> by_cases h4 : r ≤ 4546 <;> simp [h1, h2, h3, h4] <;> omega
section
variable {rows : List Row}
theorem zh1 (i : Int) : dO rows 3 i = decide (aB rows 3 i = 1) := by
 unfold dO aB
 cases bJ rows 3 i with
 | none => rfl
 | some p => rfl
theorem zr8 (hp : cA rows) (n f : Bool) (r : Int) (hl : rows.length < 1000000) (hr : -2147483648 ≤ r ∧ r ≤ 2147483647) : PCall Tryz.prog 121 [.sl n f (bC rows), .int .i32 r] fun v => v = .bool (bU rows r) := by
 refine zr1 _ _ _ _ ?_; unfold zhw
 refine (tV hp n f r hl hr).mono ?_
 rintro _ rfl
 have hrng := mB hp r
 refine ⟨_, rfl, rfl, _, rfl, _, rfl, _, rfl, _, rfl, _, rfl, _, rfl, ?_⟩
 refine aH (fun h1 => ?_) (fun h1 => aH (fun h2 => ?_) (fun h2 => ?_))
 ·simp only [Bool.not_not, decide_eq_true_eq] at h1
  unfold bU; simp [h1]
 ·simp only [Bool.not_not, decide_eq_true_eq] at h1
  simp only [beq_iff_eq] at h2
  unfold bU; simp [h1, h2]
 ·simp only [Bool.not_not, decide_eq_true_eq] at h1
  simp only [beq_iff_eq] at h2
  refine (tT n f 3 r hl hr).mono ?_
  rintro _ rfl
  refine ⟨_, rfl, ?_⟩
  refine aH (fun h4 => ?_) (fun h4 => ?_)
  ·simp only [beq_iff_eq] at h4
   unfold bU; rw [zh1]; simp [h1, h2, h4]
  ·simp only [beq_iff_eq] at h4
   refine (tT n f 1 r hl hr).mono ?_
   rintro _ rfl
   refine ⟨_, rfl, ?_⟩
   refine aH (fun h5 => ?_) (fun h5 => ?_)
   ·simp only [bne_iff_ne, ne_eq] at h5
    unfold bU; simp [h1, h2, h5]
   ·simp only [bne_iff_ne, ne_eq, Decidable.not_not] at h5
    refine (tT n f 1 _ hl (by omega)).mono ?_
    rintro _ rfl
    refine ⟨_, rfl, ?_⟩
    unfold bU; rw [zh1]
    simp only [h1, h2, h4, h5, decide_false, Bool.not_false, Bool.true_and, Bool.false_or, decide_true, Bool.not_true]
    rfl
end
end Go.Eng



namespace Go.Eng
open Go Go.Proofs
def zh2 (a b : Int) (R : PV → Prop) : Prop :=
 if (decide (a ≥ 4352) && decide (a ≤ 4370) && decide (b ≥ 4449) && decide (b ≤ 4469)) = true then R (PV.tup [Z3 (i32.wrap (i64.wrap (i64.wrap ((44032 : Int) + i64.wrap (i64.wrap (i64.wrap a -
 4352) * 588)) + i64.wrap (i64.wrap (i64.wrap b - 4449) * 28)))), Zb true]) else ACall Tryz.prog 73 [LV.pv (Z3 a)] [] fun (r : LV) (h' : Hp) ↦ (∃ (t : Bool × LL), (r = LV.own 0 ∧ h' = [Ob.sl (21, 1) true t.fst t.snd])
 ∧ True ∧ if ((↑t.snd.length : Int) == 2 && decide (b ≥ 4520) && decide (b ≤ 4546)) = true then R (PV.tup [Z3 (i32.wrap (a + i32.wrap (b - 4519))), Zb true]) else R (PV.tup [Z3 0, Zb false])) ∨ ∃ (t : Bool × LL), (r = LV.pv
 (PV.sl t.fst true t.snd) ∧ h' = []) ∧ True ∧ if ((↑t.snd.length : Int) == 2 && decide (b ≥ 4520) && decide (b ≤ 4546)) = true then R (PV.tup [Z3 (i32.wrap (a + i32.wrap (b - 4519))), Zb true]) else R (PV.tup [Z3 0, Zb
 false])
theorem zr9 (a b : Int) {R : PV → Prop} (h : zh2 a b R) : PCall Tryz.prog 103 [.int .i32 a, .int .i32 b] R :=
 PCall.of Tryz.func103 (by kernel_rfl) (by kernel_rfl) (Nat.le_of_ble_eq_true (by kernel_rfl)) (Eq.mpr (by kernel_rfl : aR Tryz.prog (fun zz_ => match zz_ with | 73 => some ⟨Bool × LL, fun _ hs t => (.own hs.length, hs ++ [.sl (21, 1) true t.1 t.2]), some ⟨Bool × LL, fun _ hs t => (.pv (.sl t.1 true t.2), hs)⟩⟩ | _ => none) Tryz.f103 [0, 1, 4, 5, 6, 20, 44] (fun _ => none) (Tryz.f103.body.getD .skip) [.int .i32 a, .int .i32 b] R = _) h)

def kZ (n f : Bool) (es : LL) (a b : Int) (x8 : Int) (x9 : Bool) (x10 : Int) : Env × Hp := ([(0, LV.pv (PV.sl n f es)), (1, LV.pv (PV.int i32 a)), (2, LV.pv (PV.int i32 b)), (8, .pv (.int i32 x8)), (9, .pv (.bool x9)), (10, Y6 x10)], [])
def zh3 (n f : Bool) (es : LL) (a b : Int) (J : Int → Bool → Int → Prop) (μ : Int → Bool → Int → Nat) (R : PV → Prop) : Prop :=
 (aC (kZ n f es a b (0 : Int) false (0 : Int)) ∧ J (0 : Int) false (0 : Int)) ∧ ∀ (x8 : Int) (x9 : Bool) (x10 : Int), J x8 x9 x10 → if decide (x10 < (↑es.length : Int)) = true then aM es x10 5 ∧ ∃ n1, (List.drop 0 (es.getD
 x10.toNat [])).head? = some (Z6 n1) ∧ if (n1 != 2) = true then aC (kZ n f es a b x8 x9 (i64.wrap (x10 + 1))) ∧ J x8 x9 (i64.wrap (x10 + 1)) ∧ μ x8 x9 (i64.wrap (x10 + 1)) < μ x8 x9 x10 else aM es x10 5 ∧ ∃
 (n2 : Int), (List.drop 3 (es.getD x10.toNat [])).head? = some (Z6 n2) ∧ if (n2 != i64.wrap a) = true then aC (kZ n f es a b x8 x9 (i64.wrap (x10 + 1))) ∧ J x8 x9 (i64.wrap (x10 + 1)) ∧ μ x8 x9
 (i64.wrap (x10 + 1)) < μ x8 x9 x10 else aM es x10 5 ∧ ∃ n3, (List.drop 4 (es.getD x10.toNat [])).head? = some (Z6 n3) ∧ if (n3 != i64.wrap b || b == 0) = true then aC (kZ n f es a b x8 x9 (i64.wrap
 (x10 + 1))) ∧ J x8 x9 (i64.wrap (x10 + 1)) ∧ μ x8 x9 (i64.wrap (x10 + 1)) < μ x8 x9 x10 else aM es x10 5 ∧ ∃ n4, (List.drop 1 (es.getD x10.toNat [])).head? = some (Z6 n4) ∧ PCall Tryz.prog 74 [PV.sl n f es, Z3
 (i32.wrap n4)] fun v ↦ ∃ vs, v = PV.tup vs ∧ vs.length = 3 ∧ ∃ x, vs.head? = some x ∧ ∃ n5, x = Z3 n5 ∧ ∃ x1, vs.tail.head? = some x1 ∧ ∃ n6, x1 = Z3 n6 ∧ ∃ (x2 : PV),
 vs.tail.tail.head? = some x2 ∧ ∃ b1, x2 = Zb b1 ∧ if (b1 && n5 == a && n6 == b) = true then PCall Tryz.prog 121 [PV.sl n f es, Z3 (i32.wrap n4)] fun v1 ↦ ∃ b2, v1 = Zb b2 ∧ if (!b2 && (!x9 || decide
 (i32.wrap n4 < x8))) = true then aC (kZ n f es a b (i32.wrap n4) true (i64.wrap (x10 + 1))) ∧ J (i32.wrap n4) true (i64.wrap (x10 + 1)) ∧ μ (i32.wrap n4) true (i64.wrap (x10 +
 1)) < μ x8 x9 x10 else aC (kZ n f es a b x8 x9 (i64.wrap (x10 + 1))) ∧ J x8 x9 (i64.wrap (x10 + 1)) ∧ μ x8 x9 (i64.wrap (x10 + 1)) < μ x8 x9 x10 else aC (kZ n f es a b x8 x9 (i64.wrap (x10 +
 1))) ∧ J x8 x9 (i64.wrap (x10 + 1)) ∧ μ x8 x9 (i64.wrap (x10 + 1)) < μ x8 x9 x10 else R (PV.tup [Z3 x8, Zb x9])
theorem zsa (n f : Bool) (es : LL) (a b : Int) (J : Int → Bool → Int → Prop) (μ : Int → Bool → Int → Nat) {R : PV → Prop} (h : zh3 n f es a b J μ R) : PCall Tryz.prog 104 [.sl n f es, .int .i32 a, .int .i32 b] R :=
 PCall.of Tryz.func104 (by kernel_rfl) (by kernel_rfl) (Nat.le_of_ble_eq_true (by kernel_rfl)) (Eq.mpr (by kernel_rfl : aR Tryz.prog (fun _ => none) Tryz.f104 [0, 1, 2, 6, 7, 8, 9, 10, 11, 12, 13, 14, 18, 50, 89] (fun zz_ => match zz_ with | 4 => some ⟨Int × Bool × Int, fun s => kZ n f es a b s.1 s.2.1 s.2.2, fun _ s => J s.1 s.2.1 s.2.2, fun s => μ s.1 s.2.1 s.2.2, fun e h => (gI e 8, gB e 9, gI e 10), [], [0, 1, 2, 8, 9, 10], [], fun p => ∀ (x8 : Int) (x9 : Bool) (x10 : Int), p (x8, x9, x10), fun p h s => h s.1 s.2.1 s.2.2⟩ | _ => none) (Tryz.f104.body.getD .skip) [.sl n f es, .int .i32 a, .int .i32 b] R = _) h)

def zh4 (n f : Bool) (es : LL) (a b : Int) (R : PV → Prop) : Prop :=
 PCall Tryz.prog 103 [Z3 a, Z3 b] fun v ↦ ∃ vs, v = PV.tup vs ∧ vs.length = 2 ∧ ∃ x, vs.head? = some x ∧ ∃ n1, x = Z3 n1 ∧ ∃ x1, vs.tail.head? = some x1 ∧ ∃ b1, x1 = Zb b1 ∧ if b1 = true then
 R (PV.tup [Z3 n1, Zb true]) else PCall Tryz.prog 104 [PV.sl n f es, Z3 a, Z3 b] fun v1 ↦ ∃ vs1, v1 = PV.tup vs1 ∧ vs1.length = 2 ∧ ∃ x2, vs1.head? = some x2 ∧ ∃ n2, x2 = Z3 n2 ∧ ∃ x3, vs1.tail.head?
 = some x3 ∧ ∃ b2, x3 = Zb b2 ∧ R (PV.tup [Z3 n2, Zb b2])
theorem zsb (n f : Bool) (es : LL) (a b : Int) {R : PV → Prop} (h : zh4 n f es a b R) : PCall Tryz.prog 78 [.sl n f es, .int .i32 a, .int .i32 b] R :=
 PCall.of Tryz.func78 (by kernel_rfl) (by kernel_rfl) (Nat.le_of_ble_eq_true (by kernel_rfl)) (Eq.mpr (by kernel_rfl : aR Tryz.prog (fun _ => none) Tryz.f78 [0, 1, 2, 6, 7, 8, 9, 16] (fun _ => none) (Tryz.f78.body.getD .skip) [.sl n f es, .int .i32 a, .int .i32 b] R = _) h)

def zac (n f : Bool) (es : LL) (n2 f2 : Bool) (ss : LL) (x5 : Int) : Env × Hp := ([(0, LV.pv (PV.sl n f es)), (1, LV.pv (PV.sl n2 f2 ss)), (5, Y6 x5)], [])
def zh5 (n f : Bool) (es : LL) (n2 f2 : Bool) (ss : LL) (J : Int → Prop) (μ : Int → Nat) (R : PV → Prop) : Prop :=
 (aC (zac n f es n2 f2 ss (i64.wrap ((↑ss.length : Int) - 1))) ∧ J (i64.wrap ((↑ss.length : Int) - 1))) ∧ ∀ (x5 : Int), J x5 → if decide (x5 ≥ 0) = true then aM ss x5 1 ∧ ∃ n1, (ss.getD x5.toNat []).head? =
 some (Z3 n1) ∧ PCall Tryz.prog 75 [PV.sl n f es, Z3 n1] fun v ↦ ∃ n3, v = Z6 n3 ∧ if (n3 == 0) = true then R (Z6 x5) else aC (zac n f es n2 f2 ss (i64.wrap (x5 - 1))) ∧ J (i64.wrap (x5 - 1)) ∧ μ
 (i64.wrap (x5 - 1)) < μ x5 else R (Z6 (-1 : Int))
theorem zsc (n f : Bool) (es : LL) (n2 f2 : Bool) (ss : LL) (J : Int → Prop) (μ : Int → Nat) {R : PV → Prop} (h : zh5 n f es n2 f2 ss J μ R) : PCall Tryz.prog 76 [.sl n f es, .sl n2 f2 ss] R :=
 PCall.of Tryz.func76 (by kernel_rfl) (by kernel_rfl) (Nat.le_of_ble_eq_true (by kernel_rfl)) (Eq.mpr (by kernel_rfl : aR Tryz.prog (fun _ => none) Tryz.f76 [0, 1, 4, 5, 10, 19] (fun zz_ => match zz_ with | 2 => some ⟨Int × Unit, fun s => zac n f es n2 f2 ss s.1, fun _ s => J s.1, fun s => μ s.1, fun e h => (((gI e 5), ())), [], [0, 1, 5], [], fun p => ∀ (x5 : Int), p (x5, ()), fun p h s => h s.1⟩ | _ => none) (Tryz.f76.body.getD .skip) [.sl n f es, .sl n2 f2 ss] R = _) h)

def zh6 (n f : Bool) (es : LL) (n2 f2 : Bool) (ss : LL) (k r : Int) (R : PV → Prop) : Prop :=
 if (k == i64.wrap ((↑ss.length : Int) - 1)) = true then R (Zb true) else aM ss (i64.wrap ((↑ss.length : Int) - 1)) 1 ∧ ∃ n1, (ss.getD (i64.wrap ((↑ss.length : Int) - 1)).toNat []).head? = some (Z3 n1) ∧
 PCall Tryz.prog 75 [PV.sl n f es, Z3 n1] fun v ↦ ∃ n3, v = Z6 n3 ∧ PCall Tryz.prog 75 [PV.sl n f es, Z3 r] fun v1 ↦ ∃ n4, v1 = Z6 n4 ∧ R (Zb (decide (n3 < n4)))
theorem zsd (n f : Bool) (es : LL) (n2 f2 : Bool) (ss : LL) (k r : Int) {R : PV → Prop} (h : zh6 n f es n2 f2 ss k r R) : PCall Tryz.prog 77 [.sl n f es, .sl n2 f2 ss, .int .i64 k, .int .i32 r] R :=
 PCall.of Tryz.func77 (by kernel_rfl) (by kernel_rfl) (Nat.le_of_ble_eq_true (by kernel_rfl)) (Eq.mpr (by kernel_rfl : aR Tryz.prog (fun _ => none) Tryz.f77 [0, 1, 2, 3, 8, 13] (fun _ => none) (Tryz.f77.body.getD .skip) [.sl n f es, .sl n2 f2 ss, .int .i64 k, .int .i32 r] R = _) h)

def nQ (n f : Bool) (es : LL) (n2 f2 : Bool) (ss : LL) (x6 : Int) (n_0 : Bool) (s_0 : LL) : Env × Hp := ([(0, LV.pv (PV.sl n f es)), (1, LV.pv (PV.sl n2 f2 ss)), (5, LV.own 0), (6, Y6 x6)], [.sl (21, 1) true n_0 s_0])
def zh7 (n f : Bool) (es : LL) (n2 f2 : Bool) (ss : LL) (J : Int → Bool → LL → Prop) (μ : Int → Bool → LL → Nat) (R : PV → Prop) : Prop :=
 (aC (nQ n f es n2 f2 ss (0 : Int) true []) ∧ J (0 : Int) true []) ∧ ∀ (x6 : Int) (n_0 : Bool) (s_0 : LL), J x6 n_0 s_0 → if decide (x6 < (↑ss.length : Int)) = true then PCall Tryz.prog 76 [PV.sl n f es, PV.sl n_0 false s_0] fun (v :
 PV) ↦ ∃ n1, v = Z6 n1 ∧ true = true ∧ if decide (n1 ≥ 0) = true then aM ss x6 1 ∧ ∃ n3, (ss.getD x6.toNat []).head? = some (Z3 n3) ∧ PCall Tryz.prog 77 [PV.sl n f es, PV.sl n_0 false s_0, Z6 n1, Z3 n3] fun v1 ↦ ∃
 (b : Bool), v1 = Zb b ∧ true = true ∧ if b = true then aM s_0 n1 1 ∧ ∃ n4, (List.drop 0 (s_0.getD n1.toNat [])).head? = some (Z3 n4) ∧ aM ss x6 1 ∧ ∃ n5, (ss.getD x6.toNat []).head? = some (Z3 n5) ∧ PCall Tryz.prog 78
 [PV.sl n f es, Z3 n4, Z3 n5] fun v2 ↦ ∃ vs, v2 = PV.tup vs ∧ vs.length = 2 ∧ ∃ x, vs.head? = some x ∧ ∃ n6, x = Z3 n6 ∧ ∃ x1, vs.tail.head? = some x1 ∧ ∃ b1, x1 = Zb b1 ∧ if b1 = true then
 aM s_0 n1 1 ∧ (1 = 1 ∧ 1 ≤ (s_0.getD n1.toNat []).length) ∧ aC (nQ n f es n2 f2 ss (i64.wrap (x6 + 1)) n_0 (s_0.set n1.toNat (Z3 n6 :: zq (List.drop 1 (s_0.getD n1.toNat []))))) ∧ J
 (i64.wrap (x6 + 1)) n_0 (s_0.set n1.toNat (Z3 n6 :: zq (List.drop 1 (s_0.getD n1.toNat [])))) ∧ μ (i64.wrap (x6 + 1)) n_0 (s_0.set n1.toNat (Z3 n6 :: zq (List.drop 1
 (s_0.getD n1.toNat [])))) < μ x6 n_0 s_0 else aM ss x6 1 ∧ ∃ n7, (ss.getD x6.toNat []).head? = some (Z3 n7) ∧ (aP [[Z3 n7]] 1 ∧ (s_0.length + 1) * 4 ≤ 140737488355328) ∧ aC (nQ n f es n2 f2 ss (i64.wrap (x6 + 1))
 (n_0 && false) (s_0 ++ [[Z3 n7]])) ∧ J (i64.wrap (x6 + 1)) (n_0 && false) (s_0 ++ [[Z3 n7]]) ∧ μ (i64.wrap (x6 + 1)) (n_0 && false) (s_0 ++ [[Z3 n7]]) < μ x6 n_0 s_0 else aM ss x6 1 ∧ ∃ n4, (ss.getD x6.toNat
 []).head? = some (Z3 n4) ∧ (aP [[Z3 n4]] 1 ∧ (s_0.length + 1) * 4 ≤ 140737488355328) ∧ aC (nQ n f es n2 f2 ss (i64.wrap (x6 + 1)) (n_0 && false) (s_0 ++ [[Z3 n4]])) ∧ J (i64.wrap (x6 + 1)) (n_0 && false) (s_0 ++ [[Z3
 n4]]) ∧ μ (i64.wrap (x6 + 1)) (n_0 && false) (s_0 ++ [[Z3 n4]]) < μ x6 n_0 s_0 else aM ss x6 1 ∧ ∃ n3, (ss.getD x6.toNat []).head? = some (Z3 n3) ∧ (aP [[Z3 n3]] 1 ∧ (s_0.length + 1) * 4 ≤ 140737488355328) ∧ aC
 (nQ n f es n2 f2 ss (i64.wrap (x6 + 1)) (n_0 && false) (s_0 ++ [[Z3 n3]])) ∧ J (i64.wrap (x6 + 1)) (n_0 && false) (s_0 ++ [[Z3 n3]]) ∧ μ (i64.wrap (x6 + 1)) (n_0 && false) (s_0 ++ [[Z3 n3]]) < μ x6 n_0 s_0 else R
 (PV.sl n_0 false s_0)
theorem zse (n f : Bool) (es : LL) (n2 f2 : Bool) (ss : LL) (J : Int → Bool → LL → Prop) (μ : Int → Bool → LL → Nat) {R : PV → Prop} (h : zh7 n f es n2 f2 ss J μ R) : PCall Tryz.prog 44 [.sl n f es, .sl n2 f2 ss] R :=
 PCall.of Tryz.func44 (by kernel_rfl) (by kernel_rfl) (Nat.le_of_ble_eq_true (by kernel_rfl)) (Eq.mpr (by kernel_rfl : aR Tryz.prog (fun _ => none) Tryz.f44 [0, 1, 4, 5, 6, 7, 8, 9, 13, 30, 44] (fun zz_ => match zz_ with | 3 => some ⟨Int × Bool × LL, fun s => nQ n f es n2 f2 ss s.1 s.2.1 s.2.2, fun _ s => J s.1 s.2.1 s.2.2, fun s => μ s.1 s.2.1 s.2.2, fun e h => (gI e 6, oN h 0, oS h 0), [(5, 21, 1)], [0, 1, 5, 6], [], fun p => ∀ (x6 : Int) (n_0 : Bool) (s_0 : LL), p (x6, n_0, s_0), fun p h s => h s.1 s.2.1 s.2.2⟩ | _ => none) (Tryz.f44.body.getD .skip) [.sl n f es, .sl n2 f2 ss] R = _) h)

def zh8 (n f : Bool) (es : LL) (n2 f2 : Bool) (ss : LL) (R : PV → Prop) : Prop :=
 PCall Tryz.prog 12 [PV.sl n f es, PV.sl n2 f2 ss] fun v ↦ ∃ n1 f1 es1, v = PV.sl n1 f1 es1 ∧ PCall Tryz.prog 44 [PV.sl n f es, PV.sl n1 f1 es1] fun v1 ↦ ∃ n3 f3, ∃ (es2 :
 LL), v1 = PV.sl n3 f3 es2 ∧ R (PV.sl n3 f3 es2)
theorem zsf (n f : Bool) (es : LL) (n2 f2 : Bool) (ss : LL) {R : PV → Prop} (h : zh8 n f es n2 f2 ss R) : PCall Tryz.prog 13 [.sl n f es, .sl n2 f2 ss] R :=
 PCall.of Tryz.func13 (by kernel_rfl) (by kernel_rfl) (Nat.le_of_ble_eq_true (by kernel_rfl)) (Eq.mpr (by kernel_rfl : aR Tryz.prog (fun _ => none) Tryz.f13 [0, 1, 4] (fun _ => none) (Tryz.f13.body.getD .skip) [.sl n f es, .sl n2 f2 ss] R = _) h)

end Go.Eng



namespace Go.Eng
open Go Go.Proofs Go.Eng.Rows Go.Eng.Trie Go.Eng.Srt
theorem zsg {r : Int} (hs : aZ r = false) : ACall Tryz.prog 73 [.pv (.int .i32 r)] [] fun r1 h' => r1 = .pv (.sl true true []) ∧ h' = [] := by
 refine zdm _ ?_; unfold xE
 refine (pIs r).mono ?_
 rintro _ rfl
 refine ⟨_, rfl, ?_⟩
 rw [hs]
 exact bE rfl ⟨rfl, rfl⟩
theorem zsh {a b : Int} (ha : -2147483648 ≤ a ∧ a ≤ 2147483647) (hb : -2147483648 ≤ b ∧ b ≤ 2147483647) : PCall Tryz.prog 103 [.int .i32 a, .int .i32 b] fun v => v = iX (cT a b) := by
 refine zr9 _ _ ?_; unfold zh2
 have wa : i64.wrap a = a := aF (by omega) (by omega)
 have wb : i64.wrap b = b := aF (by omega) (by omega)
 rw [wa, wb]
 refine aH (fun hc => ?_) (fun hc => ?_)
 ·simp only [Bool.and_eq_true, decide_eq_true_eq, ge_iff_le] at hc
  have w1 : i64.wrap (a - 4352) = a - 4352 := aF (by omega) (by omega)
  have w2 : i64.wrap ((a - 4352) * 588) = (a - 4352) * 588 := aF (by omega) (by omega)
  have w3 : i64.wrap (44032 + (a - 4352) * 588) = 44032 + (a - 4352) * 588 := aF (by omega) (by omega)
  have w4 : i64.wrap (b - 4449) = b - 4449 := aF (by omega) (by omega)
  have w5 : i64.wrap ((b - 4449) * 28) = (b - 4449) * 28 := aF (by omega) (by omega)
  rw [w1, w2, w3, w4, w5]
  have w6 : i64.wrap (44032 + (a - 4352) * 588 + (b - 4449) * 28) = 44032 + (a - 4352) * 588 + (b - 4449) * 28 := aF (by omega) (by omega)
  rw [w6]
  have w7 : i32.wrap (44032 + (a - 4352) * 588 + (b - 4449) * 28) = 44032 + (a - 4352) * 588 + (b - 4449) * 28 := cK (by omega) (by omega)
  rw [w7]
  unfold cT
  rw [if_pos (by omega)]
  simp only [iX]
  rw [show 44032 + (a - 4352) * 588 + (b - 4449) * 28 = 44032 + ((a - 4352) * 21 + (b - 4449)) * 28 by omega]
 ·simp only [Bool.and_eq_true, decide_eq_true_eq, ge_iff_le] at hc
  have hn : ¬ ((4352 ≤ a ∧ a < 4371) ∧ 4449 ≤ b ∧ b < 4470) := by omega
  have fin : ∀ (l : List (List PV)), (((l.length : Int) = 2 ↔ (aZ a = true ∧ (a - 44032) % 28 = 0))) → (if (((l.length : Int)) == 2 && decide (b ≥ 4520) && decide (b ≤ 4546)) = true then (PV.tup [.int .i32 (i32.wrap (a + i32.wrap (b - 4519))), .bool true] : PV) = iX (cT a b) else (PV.tup [.int .i32 0, .bool false] : PV) = iX (cT a b)) := fun l hl => by
   refine aH (fun h2 => ?_) (fun h2 => ?_)
   ·simp only [Bool.and_eq_true, decide_eq_true_eq, beq_iff_eq, ge_iff_le] at h2
    have hs := hl.1 h2.1.1
    have hr := hs.1
    simp only [aZ, Bool.and_eq_true, decide_eq_true_eq] at hr
    have w1 : i32.wrap (b - 4519) = b - 4519 := cK (by omega) (by omega)
    have w2 : i32.wrap (a + (b - 4519)) = a + (b - 4519) := cK (by omega) (by omega)
    rw [w1, w2]
    unfold cT; rw [if_neg hn, if_pos ⟨hs, by omega, by omega⟩]; rfl
   ·simp only [Bool.and_eq_true, decide_eq_true_eq, beq_iff_eq, ge_iff_le] at h2
    unfold cT; rw [if_neg hn, if_neg (fun h => h2 ⟨⟨hl.2 h.1, by omega⟩, by omega⟩)]; rfl
  cases hs : aZ a with
  | false =>
    refine (zsg hs).mono ?_
    rintro _ _ ⟨rfl, rfl⟩
    exact .inr ⟨(true, []), ⟨rfl, rfl⟩, trivial, fin [] (by rw [hs]; simp)⟩
  | true =>
    have hl : ((aA (dI a)).length : Int) = 2 ↔ (aZ a = true ∧ (a - 44032) % 28 = 0) := by
     rw [bP, hs]
     unfold dI
     split <;> simp [*]
    refine (y9 hs).mono ?_
    rintro r1 h' (⟨nl, rfl, rfl⟩ | ⟨rfl, rfl⟩)
    ·exact .inl ⟨(nl, _), ⟨rfl, rfl⟩, trivial, fin _ hl⟩
    ·exact .inr ⟨(false, _), ⟨rfl, rfl⟩, trivial, fin _ hl⟩
section
variable {rows : List Row}
def nR (o : Option Int) : Int := o.getD 0
theorem zsi (hp : cA rows) (h1 : cY rows) (n f : Bool) {a b : Int} (hl : rows.length < 1000000) (ha : -2147483648 ≤ a ∧ a ≤ 2147483647) (hb : -2147483648 ≤ b ∧ b ≤ 2147483647) :
 PCall Tryz.prog 104 [.sl n f (bC rows), .int .i32 a, .int .i32 b] fun v => v = iX (iV rows a b) := by
 refine zsa _ _ _ _ _ (fun x8 x9 i => (0 ≤ i ∧ i ≤ rows.length) ∧ x8 = nR ((rows.take i.toNat).foldl (Rows.cmpS rows a b) none) ∧ x9 = ((rows.take i.toNat).foldl (Rows.cmpS rows a b) none).isSome) (fun _ _ i => rows.length - i.toNat) ?_
 unfold zh3
 refine ⟨⟨rfl, ⟨Int.le_refl _, by omega⟩, rfl, rfl⟩, ?_⟩
 rintro x8 x9 i ⟨⟨i0, i1⟩, h8, h9⟩
 have wa : i64.wrap a = a := aF (by omega) (by omega)
 have wb : i64.wrap b = b := aF (by omega) (by omega)
 rw [wa, wb]
 refine aH (fun hc => ?_) (fun hc => ?_)
 ·simp only [decide_eq_true_eq, gK] at hc
  have hi : i.toNat < rows.length := by omega
  have hw : i64.wrap (i + 1) = i + 1 := aF (by omega) (by omega)
  have hg : (bC rows).getD i.toNat [] = lW rows[i.toNat] := cN hi
  have hix : aM (bC rows) i 5 := bW nG i0 (by omega)
  have hmem := List.getElem_mem hi
  have hst : (rows.take (i + 1).toNat).foldl (Rows.cmpS rows a b) none = Rows.cmpS rows a b ((rows.take i.toNat).foldl (Rows.cmpS rows a b) none) rows[i.toNat] := by
   rw [show (i + 1).toNat = i.toNat + 1 by omega, dB hi, List.foldl_append]; rfl
  rw [hw]
  generalize (rows.take i.toNat).foldl (Rows.cmpS rows a b) none = o at *
  generalize rows[i.toNat] = x at *
  have skip : dC rows a b x = false → (0 ≤ i + 1 ∧ i + 1 ≤ rows.length) ∧ x8 = nR ((rows.take (i + 1).toNat).foldl (Rows.cmpS rows a b) none) ∧ x9 = ((rows.take (i + 1).toNat).foldl (Rows.cmpS rows a b) none).isSome := fun h => by
   rw [hst]; unfold Rows.cmpS; rw [h]; exact ⟨⟨by omega, by omega⟩, h8, h9⟩
  have hmu : rows.length - (i + 1).toNat < rows.length - i.toNat := by omega
  refine ⟨hix, x.kind, by rw [hg]; rfl, aH (fun c1 => ?_) (fun c1 => ?_)⟩
  ·simp only [bne_iff_ne, ne_eq] at c1
   exact ⟨rfl, skip (by simp [dC, c1]), hmu⟩
  simp only [bne_iff_ne, ne_eq, Decidable.not_not] at c1
  refine ⟨hix, x.a, by rw [hg]; rfl, aH (fun c2 => ?_) (fun c2 => ?_)⟩
  ·simp only [bne_iff_ne, ne_eq] at c2
   exact ⟨rfl, skip (by simp [dC, c2]), hmu⟩
  simp only [bne_iff_ne, ne_eq, Decidable.not_not] at c2
  refine ⟨hix, x.b, by rw [hg]; rfl, aH (fun c3 => ?_) (fun c3 => ?_)⟩
  ·simp only [Bool.or_eq_true, bne_iff_ne, ne_eq, beq_iff_eq] at c3
   refine ⟨rfl, skip ?_, hmu⟩
   rcases c3 with c3 | c3
   ·simp [dC, c3]
   ·simp [dC, c3]
  simp only [Bool.or_eq_true, bne_iff_ne, ne_eq, beq_iff_eq, not_or, Decidable.not_not] at c3
  obtain ⟨hpx, hfr⟩ := qK h1 hmem c1
  have wf : i32.wrap x.fr = x.fr := cK (by omega) (by omega)
  refine ⟨hix, x.fr, by rw [hg]; rfl, ?_⟩
  rw [wf]
  refine (tV hp n f x.fr hl (by omega)).mono ?_
  rintro _ rfl
  rw [hpx, c2, c3.1]
  refine ⟨_, rfl, rfl, _, rfl, _, rfl, _, rfl, _, rfl, _, rfl, _, rfl, bE (by simp [c3.2]) ?_⟩
  refine (zr8 hp n f x.fr hl (by omega)).mono ?_
  rintro _ rfl
  refine ⟨_, rfl, ?_⟩
  cases ho : bU rows x.fr with
  | true => exact bN (by simp) ⟨rfl, skip (by simp [dC, ho]), hmu⟩
  | false =>
    have hcb : dC rows a b x = true := by simp [dC, c1, c2, c3.1, c3.2, ho]
    cases o with
    | none =>
      simp only [Option.isSome] at h9
      refine bE (by rw [h9]; rfl) ⟨rfl, ⟨⟨by omega, by omega⟩, ?_, ?_⟩, hmu⟩
      ·rw [hst]; simp [Rows.cmpS, hcb, nR]
      ·rw [hst]; simp [Rows.cmpS, hcb]
    | some r =>
      simp only [Option.isSome] at h9
      simp only [nR, Option.getD] at h8
      refine aH (fun c4 => ?_) (fun c4 => ?_)
      ·rw [h9, h8] at c4
       simp at c4
       refine ⟨rfl, ⟨⟨by omega, by omega⟩, ?_, ?_⟩, hmu⟩
       ·rw [hst]; simp [Rows.cmpS, hcb, nR, c4]
       ·rw [hst]; simp [Rows.cmpS, hcb, c4]
      ·rw [h9, h8] at c4
       simp at c4
       refine ⟨rfl, ⟨⟨by omega, by omega⟩, ?_, ?_⟩, hmu⟩
       ·have hlt : ¬ x.fr < r := by omega
        rw [hst, h8]; simp [Rows.cmpS, hcb, nR, hlt]
       ·rw [hst, h9]; simp [Rows.cmpS, hcb]; split <;> rfl
 ·simp only [decide_eq_true_eq, gK] at hc
  rw [List.take_of_length_le (by omega)] at h8 h9
  unfold iV
  rw [h8, h9]
  cases rows.foldl (Rows.cmpS rows a b) none <;> rfl
theorem zsj (hp : cA rows) (h1 : cY rows) (n f : Bool) {a b : Int} (hl : rows.length < 1000000) (ha : -2147483648 ≤ a ∧ a ≤ 2147483647) (hb : -2147483648 ≤ b ∧ b ≤ 2147483647) :
 PCall Tryz.prog 78 [.sl n f (bC rows), .int .i32 a, .int .i32 b] fun v => v = iX (cU rows a b) := by
 refine zsb _ _ _ _ _ ?_; unfold zh4
 refine (zsh ha hb).mono ?_
 rintro _ rfl
 unfold cU
 cases cT a b with
 | some r => exact ⟨_, rfl, rfl, _, rfl, _, rfl, _, rfl, _, rfl, bE rfl rfl⟩
 | none =>
   refine ⟨_, rfl, rfl, _, rfl, _, rfl, _, rfl, _, rfl, bN (by simp) ?_⟩
   refine (zsi hp h1 n f hl ha hb).mono ?_
   rintro _ rfl
   cases iV rows a b with
   | none => exact ⟨_, rfl, rfl, _, rfl, _, rfl, _, rfl, _, rfl, rfl⟩
   | some r => exact ⟨_, rfl, rfl, _, rfl, _, rfl, _, rfl, _, rfl, rfl⟩
theorem zsk {st : CSt} (h0 : st.s = none → st.P = []) (h1 : ∀ a, st.s = some a → aB rows 1 a = 0) (h2 : ∀ m ∈ st.M, aB rows 1 m ≠ 0) :
 (cO st = -1 ∧ ∀ k (h : k < st.out.length), aB rows 1 st.out[k] ≠ 0) ∨ (∃ k : Nat, cO st = (k : Int) ∧ ∃ h : k < st.out.length, aB rows 1 st.out[k] = 0 ∧ ∀ j (hj : j < st.out.length), k < j → aB rows 1 st.out[j] ≠ 0) := by
 cases hs : st.s with
 | none =>
   have hP := h0 hs
   have ho : st.out = st.M := by simp [CSt.out, hs, hP]
   refine .inl ⟨by simp [cO, hs], fun k hk => h2 _ ?_⟩
   have := List.getElem_mem hk
   rw [← ho]; exact this
 | some a =>
   have ho : st.out = st.P ++ a :: st.M := by simp [CSt.out, hs]
   refine .inr ⟨st.P.length, by simp [cO, hs], by rw [ho]; simp, ?_, fun j hj hlt => h2 _ ?_⟩
   ·simp only [ho, List.getElem_append_right (Nat.le_refl _), Nat.sub_self, List.getElem_cons_zero]; exact h1 a hs
   ·simp only [ho]
    rw [List.getElem_append_right (by omega), List.getElem_cons]
    rw [dif_neg (by omega)]
    exact List.getElem_mem _
theorem zsl (n f n2 f2 : Bool) (hl : rows.length < 1000000) (L : List Int) (hr : R32 L) (hL : L.length < 1000000000000) :
 PCall Tryz.prog 76 [.sl n f (bC rows), .sl n2 f2 (aA L)] fun v => ∃ x : Int, v = .int .i64 x ∧ ((x = -1 ∧ ∀ k (h : k < L.length), aB rows 1 L[k] ≠ 0) ∨ (∃ k : Nat, x = (k : Int) ∧ ∃ h : k < L.length, aB rows 1 L[k] = 0 ∧ ∀ j (hj : j < L.length), k < j → aB rows 1 L[j] ≠ 0)) := by
 refine zsc _ _ _ _ _ _ (fun x => (-1 ≤ x ∧ x < L.length) ∧ ∀ j (hj : j < L.length), x < j → aB rows 1 L[j] ≠ 0) (fun x => (x + 1).toNat) ?_
 unfold zh5
 have hw : i64.wrap ((aA L).length - 1) = L.length - 1 := by rw [bP]; exact aF (by omega) (by omega)
 rw [hw]
 refine ⟨⟨rfl, ⟨by omega, by omega⟩, fun j hj h => by omega⟩, ?_⟩
 rintro x ⟨⟨x0, x1⟩, hx⟩
 refine aH (fun hc => ?_) (fun hc => ?_)
 ·simp only [decide_eq_true_eq, ge_iff_le] at hc
  have hi : x.toNat < L.length := by omega
  obtain ⟨g1, g2⟩ := eW hc hi
  have hw1 : i64.wrap (x - 1) = x - 1 := aF (by omega) (by omega)
  refine ⟨g1, L[x.toNat], by rw [g2]; rfl, ?_⟩
  refine (tU n f _ hl (hr _ (List.getElem_mem hi))).mono ?_
  rintro _ rfl
  refine ⟨_, rfl, ?_⟩
  rw [hw1]
  refine aH (fun h0 => ?_) (fun h0 => ?_)
  ·simp only [beq_iff_eq] at h0
   exact ⟨x, rfl, .inr ⟨x.toNat, by omega, hi, h0, fun j hj hlt => hx j hj (by omega)⟩⟩
  ·simp only [beq_iff_eq] at h0
   refine ⟨rfl, ⟨⟨by omega, by omega⟩, fun j hj hlt => ?_⟩, by dsimp only; omega⟩
   by_cases he : j = x.toNat
   ·subst he; exact h0
   ·exact hx j hj (by omega)
 ·simp only [decide_eq_true_eq, ge_iff_le] at hc
  exact ⟨-1, rfl, .inl ⟨rfl, fun k hk => hx k hk (by omega)⟩⟩
theorem zsm (n f n2 f2 : Bool) (hl : rows.length < 1000000) (L : List Int) (hr : R32 L) (hL : L.length < 1000000000000) (h0 : 0 < L.length) (k : Int) {r : Int} (hx : -2147483648 ≤ r ∧ r ≤ 2147483647) :
 PCall Tryz.prog 77 [.sl n f (bC rows), .sl n2 f2 (aA L), .int .i64 k, .int .i32 r] fun v => v = .bool (decide (k = L.length - 1) || decide (cV (aB rows 1) L < aB rows 1 r)) := by
 refine zsd _ _ _ _ _ _ _ _ ?_; unfold zh6
 have hw : i64.wrap ((aA L).length - 1) = L.length - 1 := by rw [bP]; exact aF (by omega) (by omega)
 rw [hw]
 refine aH (fun hc => ?_) (fun hc => ?_)
 ·simp only [beq_iff_eq] at hc; simp [hc]
 ·simp only [beq_iff_eq] at hc
  have hi : ((L.length : Int) - 1).toNat < L.length := by omega
  obtain ⟨g1, g2⟩ := eW (l := L) (i := (L.length : Int) - 1) (by omega) hi
  refine ⟨g1, L[((L.length : Int) - 1).toNat], by rw [g2]; rfl, ?_⟩
  refine (tU n f _ hl (hr _ (List.getElem_mem hi))).mono ?_
  rintro _ rfl
  refine ⟨_, rfl, ?_⟩
  refine (tU n f _ hl hx).mono ?_
  rintro _ rfl
  refine ⟨_, rfl, ?_⟩
  have : cV (aB rows 1) L = aB rows 1 L[((L.length : Int) - 1).toNat] := by
   unfold cV
   rw [List.getLast?_eq_getElem?, List.getElem?_eq_getElem (by omega)]
   simp only
   congr 2
   omega
  rw [this]; simp [hc]
theorem zsn (hp : cA rows) (h1 : cY rows) (hs0 : ∀ (d : List Int) a, (aT rows d).s = some a → aB rows 1 a = 0) (n f n2 f2 : Bool) (hl : rows.length < 1000000) (L : List Int) (hr : R32 L) (hL : L.length < 1000000000000) :
 PCall Tryz.prog 44 [.sl n f (bC rows), .sl n2 f2 (aA L)] fun x => ∃ n f, x = .sl n f (aA (c5 rows L)) := by
 refine zse _ _ _ _ _ _ (fun i _ s => (0 ≤ i ∧ i ≤ L.length) ∧ s = aA (aT rows (L.take i.toNat)).out) (fun i _ _ => L.length - i.toNat) ?_
 unfold zh7
 refine ⟨⟨rfl, ⟨Int.le_refl _, by omega⟩, rfl⟩, ?_⟩
 rintro i n0 _ ⟨⟨i0, i1⟩, rfl⟩
 refine aH (fun hc => ?_) (fun hc => ?_)
 ·simp only [decide_eq_true_eq, bP] at hc
  have hi : i.toNat < L.length := by omega
  obtain ⟨g1, g2⟩ := eW i0 hi
  have hx := hr _ (List.getElem_mem hi)
  have hw : i64.wrap (i + 1) = i + 1 := aF (by omega) (by omega)
  rw [hw]
  have hlen := zY rows (L.take i.toNat)
  have hrng := zhb h1 (L.take i.toNat)
  have hnz := zhi (rows := rows) (d := L.take i.toNat)
  have hnP := nO (rows := rows) (d := L.take i.toNat)
  have hsk := hs0 (L.take i.toNat)
  rw [List.length_take] at hlen
  unfold c5 at hlen hrng
  have next : ∀ st2, bM rows (aT rows (L.take i.toNat)) L[i.toNat] = st2 → (0 ≤ i + 1 ∧ i + 1 ≤ L.length) ∧ aA st2.out = aA (aT rows (L.take (i + 1).toNat)).out := fun st2 he => by
   rw [show (i + 1).toNat = i.toNat + 1 by omega, dB hi, dS, he]; exact ⟨⟨by omega, by omega⟩, rfl⟩
  generalize aT rows (L.take i.toNat) = st at *
  have hmu : L.length - (i + 1).toNat < L.length - i.toNat := by omega
  have hr2 : R32 st.out := fun y hy => by
   rcases hrng y hy with h | h
   ·exact hr y (List.mem_of_mem_take h)
   ·omega
  have hsz : aP [[PV.int .i32 L[i.toNat]]] 1 ∧ ((aA st.out).length + 1) * 4 ≤ 140737488355328 := ⟨d8 [_], by rw [bP]; omega⟩
  have app : bM rows st L[i.toNat] = bR (aB rows 1) st L[i.toNat] → (0 ≤ i + 1 ∧ i + 1 ≤ L.length) ∧ aA st.out ++ [[PV.int .i32 L[i.toNat]]] = aA (aT rows (L.take (i + 1).toNat)).out := fun he => by
   obtain ⟨k1, k2⟩ := next _ he
   rw [iW, iB] at k2
   exact ⟨k1, k2⟩
  refine (zsl n f n0 false hl st.out hr2 (by omega)).mono ?_
  rintro _ ⟨x, rfl, hst⟩
  have hxs : x = cO st := by
   rcases zsk hnP hsk hnz with ⟨e, h⟩ | ⟨k, e, hk, h, h'⟩
   ·rcases hst with ⟨e2, _⟩ | ⟨k2, e2, hk2, q, _⟩
    ·omega
    ·exact absurd q (h k2 hk2)
   ·rcases hst with ⟨e2, q⟩ | ⟨k2, e2, hk2, q, q'⟩
    ·exact absurd h (q k hk)
    ·rcases Nat.lt_trichotomy k k2 with hlt | rfl | hlt
     ·exact absurd q (h' k2 hk2 hlt)
     ·omega
     ·exact absurd h (q' k hk hlt)
  clear hst
  subst hxs
  refine ⟨_, rfl, rfl, aH (fun hf => ?_) (fun hf => ?_)⟩
  ·simp only [decide_eq_true_eq, ge_iff_le] at hf
   cases hs : st.s with
   | none => simp [cO, hs] at hf
   | some a =>
     have hsi : cO st = st.P.length := by simp [cO, hs]
     have hol : st.out.length = st.P.length + 1 + st.M.length := by simp [CSt.out, hs]; omega
     refine ⟨g1, L[i.toNat], by rw [g2]; rfl, ?_⟩
     refine (zsm n f n0 false hl st.out hr2 (by omega) (by omega) (cO st) hx).mono ?_
     rintro _ rfl
     have hfree : (decide (cO st = st.out.length - 1) || decide (cV (aB rows 1) st.out < aB rows 1 L[i.toNat])) = true ↔ (st.M = [] ∨ cV (aB rows 1) st.M < aB rows 1 L[i.toNat]) := by
      simp only [Bool.or_eq_true, decide_eq_true_eq]
      by_cases hM : st.M = []
      ·refine ⟨fun _ => .inl hM, fun _ => .inl ?_⟩
       rw [hsi, hol, hM]; simp
      ·obtain ⟨D, m, hDm⟩ := (List.eq_nil_or_concat _).resolve_left hM
       have e : cV (aB rows 1) st.out = cV (aB rows 1) st.M := by
        have e2 : st.out = (st.P ++ a :: D) ++ [m] := by simp [CSt.out, hDm, hs]
        rw [e2, hDm, List.concat_eq_append, jU, jU]
       rw [e]
       refine or_congr ⟨fun h => ?_, fun h => absurd h hM⟩ Iff.rfl
       rw [hsi, hol] at h
       exact List.eq_nil_of_length_eq_zero (by omega)
     refine ⟨_, rfl, rfl, aH (fun hfr => ?_) (fun hfr => ?_)⟩
     ·have hfr := hfree.1 hfr
      have hat : st.out[st.P.length]'(by omega) = a := by simp [CSt.out, hs]
      obtain ⟨k1, k2⟩ := eW (l := st.out) (i := cO st) (by omega) (by omega)
      have hta : (cO st).toNat = st.P.length := by omega
      have k3 : (aA st.out).getD (cO st).toNat [] = [PV.int .i32 a] := by
       rw [k2]; simp only [hta, hat]
      have ha : -2147483648 ≤ a ∧ a ≤ 2147483647 := hr2 a (by simp [CSt.out, hs])
      refine ⟨k1, a, by rw [k3]; rfl, g1, L[i.toNat], by rw [g2]; rfl, ?_⟩
      refine (zsj hp h1 n f hl ha hx).mono ?_
      rintro _ rfl
      cases hpc : cU rows a L[i.toNat] with
      | some c =>
        refine ⟨_, rfl, rfl, _, rfl, _, rfl, _, rfl, _, rfl, bE rfl ⟨k1, ⟨rfl, by rw [k3]; exact Nat.le_refl _⟩, rfl, ?_, by dsimp only; omega⟩⟩
        rw [k3, hta]
        have he : bM rows st L[i.toNat] = ⟨st.P, some c, st.M⟩ := by
         unfold bM; rw [hs]; simp only; rw [if_pos hfr, hpc]
        have e2 : (aA st.out).set st.P.length [PV.int .i32 c] = aA (CSt.out ⟨st.P, some c, st.M⟩) := by
         simp [CSt.out, hs, aA]
        obtain ⟨q1, q2⟩ := next _ he
        exact ⟨q1, e2.trans q2⟩
      | none =>
        have he : bM rows st L[i.toNat] = bR (aB rows 1) st L[i.toNat] := by
         unfold bM; rw [hs]; simp only; rw [if_pos hfr, hpc]
        exact ⟨_, rfl, rfl, _, rfl, _, rfl, _, rfl, _, rfl, bN (by simp) ⟨g1, L[i.toNat], by rw [g2]; rfl, hsz, rfl, app he, by dsimp only; omega⟩⟩
     ·have hfr := fun h => hfr (hfree.2 h)
      have he : bM rows st L[i.toNat] = bR (aB rows 1) st L[i.toNat] := by
       unfold bM; rw [hs]; simp only; rw [if_neg hfr]
      exact ⟨g1, L[i.toNat], by rw [g2]; rfl, hsz, rfl, app he, by dsimp only; omega⟩
  ·simp only [decide_eq_true_eq, ge_iff_le] at hf
   have hs : st.s = none := by
    cases hs : st.s with
    | none => rfl
    | some a => exact absurd (by simp [cO, hs]) hf
   have he : bM rows st L[i.toNat] = bR (aB rows 1) st L[i.toNat] := by
    unfold bM; rw [hs]
   exact ⟨g1, L[i.toNat], by rw [g2]; rfl, hsz, rfl, app he, by dsimp only; omega⟩
 ·simp only [decide_eq_true_eq, bP] at hc
  rw [List.take_of_length_le (by omega)]
  exact ⟨_, _, rfl⟩
theorem zso (hp : cA rows) (h1 : cY rows) (hk : fD rows) (hs0 : ∀ (d : List Int) a, (aT rows d).s = some a → aB rows 1 a = 0) (n f n2 f2 : Bool) (hl : rows.length < 1000000) (L : List Int) (hr : R32 L) (hL : L.length < 1000000) :
 PCall Tryz.prog 13 [.sl n f (bC rows), .sl n2 f2 (aA L)] fun x => ∃ n f, x = .sl n f (aA (jV rows L)) := by
 refine zsf _ _ _ _ _ _ ?_; unfold zh8
 refine (zq3 hp hk n f n2 f2 hl L hr hL).mono ?_
 rintro _ ⟨n1, f1, rfl⟩
 refine ⟨_, _, _, rfl, ?_⟩
 refine (zsn hp h1 hs0 n f n1 f1 hl _ (zgy hk hp hr) (zha hk hL)).mono ?_
 rintro _ ⟨n3, f3, rfl⟩
 exact ⟨_, _, _, rfl, _, _, rfl⟩
end
end Go.Eng



namespace Go.Eng
open Go Go.Proofs Go.Eng.Rows Go.Eng.Trie
section
variable {rows : List Row} {v : PV}
theorem qOf (hp : cA rows) (h1 : cY rows) (hv : gO rows v) {r : Int} (hr : -2147483648 ≤ r ∧ r ≤ 2147483647) : PCall Tryz.prog 47 [v, .int .i32 r] fun x => x = .int .i64 (bY rows r) := by
 obtain ⟨tc, tg, tj, tf, tp, made, sec, rfl, ht, hm⟩ := hv
 refine zr2 _ _ _ _ _ _ _ _ ?_; unfold zhx
 refine (zf2 _ _ hp ht hr).mono ?_
 rintro _ rfl
 refine ⟨_, rfl, ?_⟩
 refine aH (fun ho => ?_) (fun ho => ?_)
 ·unfold bY; rw [if_pos ho]
 ·refine (zr6 tc tg tj tf tp _ sec r).mono ?_
  rintro _ rfl
  have hs : tO sec r = eV rows r := zpb hp h1 hm r
  rw [hs]
  refine ⟨_, rfl, ?_⟩
  refine aH (fun h2 => ?_) (fun h2 => ?_)
  ·refine bE h2 ?_
   unfold bY; rw [if_neg ho, if_pos (by simp [h2])]
  ·refine (zr7 r).mono ?_
   rintro _ rfl
   refine ⟨_, rfl, ?_⟩
   refine aH (fun h3 => ?_) (fun h3 => ?_)
   ·unfold bY; rw [if_neg ho, if_pos (by simp [h3])]
   ·unfold bY; rw [if_neg ho, if_neg (by simp only [Bool.not_eq_true] at h2 h3; simp [h2, h3])]
theorem zsp (hp : cA rows) {r : Int} (hr : -2147483648 ≤ r ∧ r ≤ 2147483647) : -2147483648 ≤ cG rows r ∧ cG rows r ≤ 2147483647 := by
 rcases qB hp 8 r _ (zpa rows r) with h | h
 ·rw [h]; exact hr
 ·omega
theorem zsq {l : List Int} (h : 0 < l.length) : l[0] = l.headD 0 := by
 cases l with
 | nil => simp at h
 | cons a l => rfl
theorem zsr (rows : List Row) (r : Int) : aM (aA (aJ rows 8 r)) 0 1 ∧ (aA (aJ rows 8 r)).getD 0 [] = [.int .i32 (cG rows r)] := by
 have hne := qA rows 8 r
 have hlen : 0 < (aJ rows 8 r).length := List.length_pos_iff.2 hne
 obtain ⟨h1, h2⟩ := eW (l := aJ rows 8 r) (i := 0) (Int.le_refl _) (by simpa using hlen)
 refine ⟨h1, h2.trans ?_⟩
 have : (aJ rows 8 r)[(0 : Int).toNat]'(by simpa using hlen) = cG rows r := zsq hlen
 rw [this]
theorem zad (hp : cA rows) (h1 : cY rows) (hv : gO rows v) {r : Int} (hr : -2147483648 ≤ r ∧ r ≤ 2147483647) : PCall Tryz.prog 49 [v, .int .i32 r] fun x => x = .bool (gP rows r) := by
 have hv' := hv
 obtain ⟨tc, tg, tj, tf, tp, made, sec, rfl, ht, hm⟩ := hv
 have hh := zsp hp hr
 refine zr3 _ _ _ _ _ _ _ _ (fun a b i => r = a ∧ cG rows r = b ∧ 0 ≤ i ∧ i ≤ 2 ∧ (1 ≤ i → aB rows 1 r = 0 ∧ bY rows r = 0) ∧ (2 ≤ i → aB rows 1 (cG rows r) = 0 ∧ bY rows (cG rows r) = 0)) (fun _ _ i => (2 - i).toNat) ?_
 unfold zhy
 refine (zpf _ _ hp ht hr).mono ?_
 rintro _ ⟨nl, rfl⟩
 obtain ⟨f1, f2⟩ := zsr rows r
 refine ⟨_, _, _, rfl, f1, cG rows r, by rw [f2]; rfl, ⟨rfl, rfl, rfl, Int.le_refl _, by omega, fun h => absurd h (by omega), fun h => absurd h (by omega)⟩, ?_⟩
 rintro _ _ i ⟨rfl, rfl, i0, i1, k1, k2⟩
 refine aH (fun hc => ?_) (fun hc => ?_)
 ·simp only [decide_eq_true_eq] at hc
  have hw : i64.wrap (i + 1) = i + 1 := aF (by omega) (by omega)
  have key : ∀ (x : Int), (-2147483648 ≤ x ∧ x ≤ 2147483647) → [PV.int .i32 r, .int .i32 (cG rows r)].getD i.toNat .unit = .int .i32 x →
   ((aB rows 1 x = 0 ∧ bY rows x = 0) → (1 ≤ i + 1 → aB rows 1 r = 0 ∧ bY rows r = 0) ∧ (2 ≤ i + 1 → aB rows 1 (cG rows r) = 0 ∧ bY rows (cG rows r) = 0)) → (¬ (aB rows 1 x = 0 ∧ bY rows x = 0) → gP rows r = false) →
   ∃ n2 : Int, [PV.int .i32 r, .int .i32 (cG rows r)].getD i.toNat .unit = .int .i32 n2 ∧ PCall Tryz.prog 46 [.ptr [tc, tg, tj, tf, tp, .mp (dH made), .mp (eH sec)], .int .i32 n2] fun v1 => ∃ n3 : Int, v1 = .int .i64 n3 ∧
    if (n3 != 0) = true then PV.bool false = PV.bool (gP rows r) else PCall Tryz.prog 47 [.ptr [tc, tg, tj, tf, tp, .mp (dH made), .mp (eH sec)], .int .i32 n2] fun v2 => ∃ n4 : Int, v2 = .int .i64 n4 ∧
     if (n4 != 0) = true then PV.bool false = PV.bool (gP rows r) else (1 ≤ i + 1 → aB rows 1 r = 0 ∧ bY rows r = 0) ∧ (2 ≤ i + 1 → aB rows 1 (cG rows r) = 0 ∧ bY rows (cG rows r) = 0) := fun x hx hg hyes hno => by
   refine ⟨x, hg, ?_⟩
   refine (nK _ _ ht hx).mono ?_
   rintro _ rfl
   refine ⟨_, rfl, ?_⟩
   refine aH (fun h4 => ?_) (fun h4 => ?_)
   ·simp only [bne_iff_ne, ne_eq] at h4
    rw [hno fun h => h4 h.1]
   ·simp only [bne_iff_ne, ne_eq, Decidable.not_not] at h4
    refine (qOf hp h1 hv' hx).mono ?_
    rintro _ rfl
    refine ⟨_, rfl, ?_⟩
    refine aH (fun h5 => ?_) (fun h5 => ?_)
    ·simp only [bne_iff_ne, ne_eq] at h5
     rw [hno fun h => h5 h.2]
    ·simp only [bne_iff_ne, ne_eq, Decidable.not_not] at h5
     exact hyes ⟨h4, h5⟩
  have hi : i = 0 ∨ i = 1 := by omega
  have hmu : (2 - (i + 1)).toNat < (2 - i).toNat := by omega
  have key2 : ∃ n2 : Int, [PV.int .i32 r, .int .i32 (cG rows r)].getD i.toNat .unit = .int .i32 n2 ∧ PCall Tryz.prog 46 [.ptr [tc, tg, tj, tf, tp, .mp (dH made), .mp (eH sec)], .int .i32 n2] fun v1 => ∃ n3 : Int, v1 = .int .i64 n3 ∧
   if (n3 != 0) = true then PV.bool false = PV.bool (gP rows r) else PCall Tryz.prog 47 [.ptr [tc, tg, tj, tf, tp, .mp (dH made), .mp (eH sec)], .int .i32 n2] fun v2 => ∃ n4 : Int, v2 = .int .i64 n4 ∧
    if (n4 != 0) = true then PV.bool false = PV.bool (gP rows r) else (1 ≤ i + 1 → aB rows 1 r = 0 ∧ bY rows r = 0) ∧ (2 ≤ i + 1 → aB rows 1 (cG rows r) = 0 ∧ bY rows (cG rows r) = 0) := by
   rcases hi with rfl | rfl
   ·refine key r hr rfl (fun h => ⟨fun _ => h, fun h2 => absurd h2 (by omega)⟩) fun h => ?_
    unfold gP
    by_cases e1 : aB rows 1 r = 0
    ·have e2 : bY rows r ≠ 0 := fun e2 => h ⟨e1, e2⟩
     simp [e2]
    ·simp [e1]
   ·refine key (cG rows r) hh rfl (fun h => ⟨fun _ => k1 (by omega), fun _ => h⟩) fun h => ?_
    unfold gP
    by_cases e1 : aB rows 1 (cG rows r) = 0
    ·have e2 : bY rows (cG rows r) ≠ 0 := fun e2 => h ⟨e1, e2⟩
     simp [e2]
    ·simp [e1]
  obtain ⟨n2, g1, g2⟩ := key2
  refine ⟨⟨i0, hc, by simp; omega⟩, n2, g1, g2.mono ?_⟩
  rintro v1 ⟨n3, rfl, hk⟩
  refine ⟨n3, rfl, aH (fun h => by rw [if_pos h] at hk; exact hk) (fun h => ?_)⟩
  rw [if_neg h] at hk
  refine hk.mono ?_
  rintro v2 ⟨n4, rfl, hk2⟩
  refine ⟨n4, rfl, aH (fun h => by rw [if_pos h] at hk2; exact hk2) (fun h => ?_)⟩
  rw [if_neg h] at hk2
  rw [hw]
  exact ⟨rfl, ⟨rfl, rfl, by omega, by omega, hk2⟩, hmu⟩
 ·simp only [decide_eq_true_eq] at hc
  obtain ⟨a1, a2⟩ := k1 (by omega)
  obtain ⟨a3, a4⟩ := k2 (by omega)
  unfold gP; simp [a1, a2, a3, a4]
end
end Go.Eng



namespace Go.Eng
open Go Go.Proofs Go.Eng.Rows Go.Eng.Trie
section
variable {rows : List Row} {v : PV}
theorem zss {l : List Int} {i : Nat} (h : i < l.length) : l.drop i = l[i] :: l.drop (i + 1) := List.drop_eq_getElem_cons h
theorem zae (hp : cA rows) (h1 : cY rows) (hv : gO rows v) (n f : Bool) (l : List Int) (hl : l.length < 1000000000) (hr : R32 l) : PCall Tryz.prog 16 [v, .sl n f (aA l)] fun x => x = .int .i64 (cZ rows false 0 l) := by
 have hv' := hv
 obtain ⟨tc, tg, tj, tf, tp, made, sec, rfl, ht, hm⟩ := hv
 refine zr4 _ _ _ _ _ _ _ _ _ _ (fun x last i => 0 ≤ i ∧ i ≤ l.length ∧ ∃ m : Bool, x = (if m then 2 else 0) ∧ cZ rows false 0 l = cZ rows m last (l.drop i.toNat)) (fun _ _ i => l.length - i.toNat) ?_
 unfold zhz
 refine ⟨⟨rfl, Int.le_refl _, by omega, false, rfl, rfl⟩, ?_⟩
 rintro _ last i ⟨i0, i1, m, rfl, he⟩
 refine aH (fun hc => ?_) (fun hc => ?_)
 ·simp only [decide_eq_true_eq, bP] at hc
  have hi : i.toNat < l.length := by omega
  have hw : i64.wrap (i + 1) = i + 1 := aF (by omega) (by omega)
  have hn : (i + 1).toNat = i.toNat + 1 := by omega
  obtain ⟨g1, g2⟩ := eW i0 hi
  have hx := hr _ (List.getElem_mem hi)
  rw [zss hi, cZ] at he
  rw [hw]
  refine ⟨g1, l[i.toNat], by rw [g2]; rfl, ?_⟩
  generalize l[i.toNat] = r at *
  refine (nK _ _ ht hx).mono ?_
  rintro _ rfl
  refine ⟨_, rfl, ?_⟩
  have hmu : l.length - (i + 1).toNat < l.length - i.toNat := by omega
  refine aH (fun h2 => ?_) (fun h2 => ?_)
  ·simp only [Bool.and_eq_true, bne_iff_ne, ne_eq, decide_eq_true_eq] at h2
   rw [he, if_pos (by simp [h2.1]; right; omega)]
  ·simp only [Bool.and_eq_true, bne_iff_ne, ne_eq, decide_eq_true_eq, not_and] at h2
   have h2' : (!decide (aB rows 1 r = 0) && decide (aB rows 1 r < last)) = false := by
    by_cases h0 : aB rows 1 r = 0
    ·simp [h0]
    ·have := h2 h0; simp [h0]; omega
   rw [h2', Bool.or_false] at he
   refine (qOf hp h1 hv' hx).mono ?_
   rintro _ rfl
   refine ⟨_, rfl, ?_⟩
   refine aH (fun h3 => ?_) (fun h3 => aH (fun h4 => ?_) (fun h4 => ?_))
   ·simp only [beq_iff_eq] at h3
    rw [he, if_pos (by simp [h3])]
   ·simp only [beq_iff_eq] at h3 h4
    rw [if_neg (by simp [h3]), h4] at he
    exact ⟨rfl, ⟨by omega, by omega, true, rfl, by rw [he, hn]; simp⟩, hmu⟩
   ·simp only [beq_iff_eq] at h3 h4
    rw [if_neg (by simp [h3])] at he
    exact ⟨rfl, ⟨by omega, by omega, m, rfl, by rw [he, hn]; simp [h4]⟩, hmu⟩
 ·simp only [decide_eq_true_eq, bP] at hc
  rw [List.drop_of_length_le (by omega)] at he
  rw [he, cZ]
end
end Go.Eng



namespace Go.Eng.Rows
open Go Go.Eng Go.Eng.Trie Go.Eng.Srt
def zst (rows : List Row) (a b : Int) : Bool := rows.all fun x => !decide (x.kind = 1) || (decide (x.to < a) || decide (b < x.fr))
theorem zh9 {rows : List Row} {a b r : Int} (h : zst rows a b = true) (h1 : a ≤ r) (h2 : r ≤ b) : aB rows 1 r = 0 := by
 unfold aB
 cases hf : bJ rows 1 r with
 | none => rfl
 | some p =>
   obtain ⟨x, hx, hk, _, _, f1, f2, _⟩ := jP hf
   have := List.all_eq_true.1 h x hx
   simp only [hk, decide_true, Bool.not_true, Bool.false_or, Bool.or_eq_true, decide_eq_true_eq] at this
   omega
def zsu (rows : List Row) : Bool := rows.all fun x => !decide (x.kind = 2) || (decide (x.b < 4352) || decide (4371 ≤ x.b))
end Go.Eng.Rows



namespace Go.Eng
open Go Go.Proofs Go.Eng.Rows Go.Eng.Trie
theorem zia : ∀ r, aZ r = true → aB tab 1 r = 0 := fun r hs => by
 simp only [aZ, Bool.and_eq_true, decide_eq_true_eq] at hs
 exact zh9 (a := 44032) (b := 55203) (by kernel_rfl) hs.1 hs.2
theorem zsv : ∀ (d : List Int) a, (aT tab d).s = some a → aB tab 1 a = 0 := zhq iE zia
end Go.Eng



namespace Go.Eng
open Go Go.Proofs Go.Eng.Rows Go.Eng.Trie Go.Eng.Srt
def outQ (r : Int) : Bool :=
 !decide (aD tab73 r = (0, 0)) && (decide ((aD tab73 r).2 = 0) || (dO lX 3 r || (!decide (aB iQ 1 r = 0) || !decide (aB iQ 1 (aD tab73 r).1 = 0))))
theorem qO : bU tab = outQ := funext fun r => by unfold bU outQ; rw [zU, zg4, zqp]
def zaf (h : Int) : Bool := tab73.any fun y => decide (y.b = h) && (!decide (h = 0) && !outQ y.fr)
def qP (x : Row) : Bool := outQ x.fr || (bD tab73 x.b && (!outQ x.a && (decide (cT x.a x.b = none) && (match aJ tab73 8 x.fr with
 | [] => false
 | h :: t => uK (aB iQ 1) (h :: t) && ((!zaf h && (!kT h && !outQ h)) && decide (aB iQ 1 h = 0))))))
def zsw : Bool := tab73.all fun x => tab73.all fun y => !decide (x.a = y.a) || (!decide (x.b = y.b) || (decide (x.fr = y.fr) || outQ y.fr))
theorem zsx : zsw = true := by kernel_rfl
theorem zsy : ((tab73.take 60).all qP) = true := by kernel_rfl
theorem zsz : (((tab73.drop 60).take 60).all qP) = true := by kernel_rfl
theorem zs0 : ((tab73.drop 120).all qP) = true := by kernel_rfl
theorem zs1 {x : Row} (hx : x ∈ tab73) : qP x = true := by
 rw [← List.take_append_drop 60 tab73] at hx
 rcases List.mem_append.1 hx with hx | hx
 ·exact List.all_eq_true.1 zsy x hx
 ·rw [← List.take_append_drop 60 (tab73.drop 60)] at hx
  rcases List.mem_append.1 hx with hx | hx
  ·exact List.all_eq_true.1 zsz x hx
  ·rw [List.drop_drop] at hx
   exact List.all_eq_true.1 zs0 x hx
theorem zs2 {h : Int} (hq : zaf h = false) : eV tab h = false := by
 cases hs : eV tab h with
 | false => rfl
 | true =>
   unfold eV at hs
   obtain ⟨x, hx, h1⟩ := List.any_eq_true.1 hs
   simp only [Bool.and_eq_true, decide_eq_true_eq] at h1
   have : zaf h = true := List.any_eq_true.2 ⟨x, mE hx h1.1, by rw [← qO]; simp [h1.2]⟩
   rw [hq] at this; cases this
theorem zs3 {x : Row} (hx : x ∈ tab) (hk : x.kind = 2) (ho : bU tab x.fr = false) (hj : cT x.a x.b = none) : cU tab x.a x.b = some x.fr := by
 unfold cU
 rw [hj]
 simp only
 have hpx := (qK iE hx hk).1
 have hne : aD tab x.fr ≠ (0, 0) := by
  rw [hpx]; intro e
  have := iD x hx hk
  have := (Prod.mk.inj e).1
  omega
 have hb0 : x.b ≠ 0 := by have := (uL ho hne).1; rw [hpx] at this; exact this
 have hcx : dC tab x.a x.b x = true := by simp [dC, hk, hb0, ho]
 have hc := zX tab x.a x.b tab
 unfold iV
 generalize tab.foldl (Rows.cmpS tab x.a x.b) none = o at hc ⊢
 cases o with
 | none => rw [hc x hx] at hcx; cases hcx
 | some r =>
   obtain ⟨⟨y, hy, hyb, rfl⟩, _⟩ := hc
   simp only [dC, Bool.and_eq_true, decide_eq_true_eq, Bool.not_eq_true', decide_eq_false_iff_not] at hyb
   obtain ⟨yk, ya, yb, _, yo⟩ := hyb
   have := List.all_eq_true.1 (List.all_eq_true.1 zsx x (mE hx hk)) y (mE hy yk)
   rw [qO] at yo
   simp only [ya, yb, decide_true, Bool.not_true, Bool.false_or, yo, Bool.or_false, decide_eq_true_eq] at this
   rw [this]
theorem uO : nP tab where
 c := zq8
 pr := iD
 ks := zia
 kj := fun r hr => zh9 (a := 4352) (b := 4546) (by kernel_rfl) (by omega) (by omega)
 lead := fun r hr => by
  cases hs : eV tab r with
  | false => rfl
  | true =>
    unfold eV at hs
    obtain ⟨x, hx, h⟩ := List.any_eq_true.1 hs
    simp only [Bool.and_eq_true, decide_eq_true_eq] at h
    have := List.all_eq_true.1 (by kernel_rfl : zsu tab73 = true) x (mE hx h.1)
    simp only [h.1, decide_true, Bool.not_true, Bool.false_or, Bool.or_eq_true, decide_eq_true_eq] at this
    omega
 good := fun x hx hk ho => by
  have hg := zs1 (mE hx hk)
  have ho' := ho
  rw [qO] at ho'
  have hh : cG tab x.fr = (aJ tab73 8 x.fr).headD 0 := by unfold cG; rw [qJ]
  rw [hh, zg5, qJ, zg4]
  unfold qP at hg
  cases hf : aJ tab73 8 x.fr with
  | nil => rw [hf, ho'] at hg; simp at hg
  | cons h t =>
    rw [hf] at hg
    simp only [ho', Bool.false_or, Bool.and_eq_true, Bool.not_eq_true', decide_eq_true_eq] at hg
    obtain ⟨k1, k2, k3, k4, ⟨k5, k6, k7⟩, k8⟩ := hg
    exact ⟨k1, by rw [qO]; exact k2, zs3 hx hk ho k3, zhn k4, ⟨zs2 k5, k6, by rw [qO]; exact k7⟩, k8⟩
end Go.Eng



namespace Go.Eng
open Go Go.Proofs
def zag  (R : PV → Prop) : Prop :=
 PCall Tryz.prog 9 [] fun v ↦ ∃ n f es, v = PV.sl n f es ∧ PCall Tryz.prog 10 [PV.sl n f es] fun v1 ↦ PCall Tryz.prog 16 [v1, PV.sl false true [[Z3 101], [Z3 769]]] fun v2 ↦ ∃ (n1 : Int),
 v2 = Z6 n1 ∧ if (n1 == 2) = true then PCall Tryz.prog 16 [v1, PV.sl false true [[Z3 233]]] fun v3 ↦ ∃ n2, v3 = Z6 n2 ∧ if (n2 == 0) = true then PCall Tryz.prog 16 [v1, PV.sl false true [[Z3 769], [Z3 807]]] fun v4 ↦ ∃
 (n3 : Int), v4 = Z6 n3 ∧ if (n3 == 1) = true then PCall Tryz.prog 16 [v1, PV.sl false true [[Z3 8491]]] fun v5 ↦ ∃ n4, v5 = Z6 n4 ∧ if (n4 == 1) = true then PCall Tryz.prog 49 [v1, Z3 101] fun v6 ↦ ∃ b, v6 =
 Zb b ∧ if b = true then PCall Tryz.prog 49 [v1, Z3 769] fun v7 ↦ ∃ b1, v7 = Zb b1 ∧ if (!b1) = true then PCall Tryz.prog 49 [v1, Z3 4449] fun v8 ↦ ∃ b2, v8 = Zb b2 ∧ R (Zb !b2) else R (Zb false) else R (Zb
 false) else R (Zb false) else R (Zb false) else R (Zb false) else R (Zb false)
theorem zs4  {R : PV → Prop} (h : zag  R) : PCall Tryz.prog 18 [] R :=
 PCall.of Tryz.func18 (by kernel_rfl) (by kernel_rfl) (Nat.le_of_ble_eq_true (by kernel_rfl)) (Eq.mpr (by kernel_rfl : aR Tryz.prog (fun _ => none) Tryz.f18 [0, 1] (fun _ => none) (Tryz.f18.body.getD .skip) [] R = zag  R) h)

def zib (n f : Bool) (es : LL) (n2 f2 : Bool) (ss : LL) (R : PV → Prop) : Prop :=
 PCall Tryz.prog 13 [PV.sl n f es, PV.sl n2 f2 ss] fun v ↦ ∃ n1 f1 es1, v = PV.sl n1 f1 es1 ∧ PCall Tryz.prog 22 [PV.sl n1 f1 es1, PV.sl n2 f2 ss] fun v1 ↦ ∃ b, v1 = Zb b ∧ R (Zb b)
theorem zs5 (n f : Bool) (es : LL) (n2 f2 : Bool) (ss : LL) {R : PV → Prop} (h : zib n f es n2 f2 ss R) : PCall Tryz.prog 15 [.sl n f es, .sl n2 f2 ss] R :=
 PCall.of Tryz.func15 (by kernel_rfl) (by kernel_rfl) (Nat.le_of_ble_eq_true (by kernel_rfl)) (Eq.mpr (by kernel_rfl : aR Tryz.prog (fun _ => none) Tryz.f15 [0, 1, 4] (fun _ => none) (Tryz.f15.body.getD .skip) [.sl n f es, .sl n2 f2 ss] R = _) h)

def zic (tc tg tj tf tp : PV) (M S : List (PV × PV)) (n f : Bool) (es : LL) (R : PV → Prop) : Prop :=
 PCall Tryz.prog 16 [PV.ptr [tc, tg, tj, tf, tp, PV.mp M, PV.mp S], PV.sl n f es] fun v ↦ ∃ n1, v = Z6 n1 ∧ if (n1 == 0) = true then R (Zb true) else if (n1 == 2) = true then PCall Tryz.prog 48 [PV.ptr [tc, tg, tj, tf, tp,
 PV.mp M, PV.mp S], PV.sl n f es] fun v1 ↦ ∃ n2 f1 es1, v1 = PV.sl n2 f1 es1 ∧ PCall Tryz.prog 41 [PV.sl n2 f1 es1, PV.sl n f es] fun v2 ↦ ∃ b, v2 = Zb b ∧ R (Zb b) else R (Zb false)
theorem zs6 (tc tg tj tf tp : PV) (M S : List (PV × PV)) (n f : Bool) (es : LL) {R : PV → Prop} (h : zic tc tg tj tf tp M S n f es R) : PCall Tryz.prog 17 [.ptr [tc, tg, tj, tf, tp, .mp M, .mp S], .sl n f es] R :=
 PCall.of Tryz.func17 (by kernel_rfl) (by kernel_rfl) (Nat.le_of_ble_eq_true (by kernel_rfl)) (Eq.mpr (by kernel_rfl : aR Tryz.prog (fun _ => none) Tryz.f17 [0, 1, 4, 7, 8, 10] (fun _ => none) (Tryz.f17.body.getD .skip) [.ptr [tc, tg, tj, tf, tp, .mp M, .mp S], .sl n f es] R = _) h)

def zid (n f : Bool) (es : LL) (R : PV → Prop) : Prop :=
 PCall Tryz.prog 8 [PV.sl n f es, Z6 150] fun v ↦ ∃ n1 f1 es1, v = PV.sl n1 f1 es1 ∧ PCall Tryz.prog 9 [] fun v1 ↦ ∃ n2 f2 es2, v1 = PV.sl n2 f2 es2 ∧ PCall
 Tryz.prog 10 [PV.sl n2 f2 es2] fun v2 ↦ PCall Tryz.prog 15 [PV.sl n2 f2 es2, PV.sl n1 f1 es1] fun v3 ↦ ∃ b, v3 = Zb b ∧ PCall Tryz.prog 16 [v2, PV.sl n1 f1 es1] fun v4 ↦ ∃ n3, v4 = Z6 n3 ∧ PCall
 Tryz.prog 17 [v2, PV.sl n1 f1 es1] fun v5 ↦ ∃ b1, v5 = Zb b1 ∧ if (b1 == b && (n3 != 0 || b) && (n3 != 1 || !b)) = true then PCall Tryz.prog 18 [] fun v6 ↦ ∃ b2, v6 = Zb b2 ∧ R (Zb b2) else R (Zb false)
theorem zs7 (n f : Bool) (es : LL) {R : PV → Prop} (h : zid n f es R) : PCall Tryz.prog 4 [.sl n f es] R :=
 PCall.of Tryz.func4 (by kernel_rfl) (by kernel_rfl) (Nat.le_of_ble_eq_true (by kernel_rfl)) (Eq.mpr (by kernel_rfl : aR Tryz.prog (fun _ => none) Tryz.f4 [0, 2, 3, 4, 5, 6] (fun _ => none) (Tryz.f4.body.getD .skip) [.sl n f es] R = _) h)

end Go.Eng



namespace Go.Eng
open Go Go.Proofs Go.Eng.Rows Go.Eng.Trie Go.Eng.Srt
theorem awake8 : PCall Tryz.prog 18 [] fun v => v = .bool true := by
 refine zs4 ?_; unfold zag
 refine p42.mono ?_
 rintro _ ⟨n, f, rfl⟩
 refine ⟨_, _, _, rfl, ?_⟩
 refine (zg7 n f).mono fun t ht => ?_
 have chk : ∀ (l : List Int), l.length < 10 → R32 l → PCall Tryz.prog 16 [t, .sl false true (aA l)] fun x => x = .int .i64 (cZ tab false 0 l) := fun l h1 h2 => zae iD iE ht _ _ l (by omega) h2
 refine (chk [101, 769] (by simp) (fun x hx => by simp at hx; omega)).mono ?_
 rintro _ rfl
 refine ⟨_, rfl, bE (by rw [q1]; rfl) ?_⟩
 refine (chk [233] (by simp) (fun x hx => by simp at hx; omega)).mono ?_
 rintro _ rfl
 refine ⟨_, rfl, bE (by rw [q2]; rfl) ?_⟩
 refine (chk [769, 807] (by simp) (fun x hx => by simp at hx; omega)).mono ?_
 rintro _ rfl
 refine ⟨_, rfl, bE (by rw [q3]; rfl) ?_⟩
 refine (chk [8491] (by simp) (fun x hx => by simp at hx; omega)).mono ?_
 rintro _ rfl
 refine ⟨_, rfl, bE (by rw [q4]; rfl) ?_⟩
 refine (zad iD iE ht (r := 101) (by omega)).mono ?_
 rintro _ rfl
 refine ⟨_, rfl, bE q5 ?_⟩
 refine (zad iD iE ht (r := 769) (by omega)).mono ?_
 rintro _ rfl
 refine ⟨_, rfl, bE (by rw [q6]; rfl) ?_⟩
 refine (zad iD iE ht (r := 4449) (by omega)).mono ?_
 rintro _ rfl
 exact ⟨_, rfl, by rw [q7]; rfl⟩
end Go.Eng


