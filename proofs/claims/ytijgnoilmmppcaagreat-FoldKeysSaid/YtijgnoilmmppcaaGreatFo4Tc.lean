/- States run over the code: what each function gives, and what follows. -/
import Derived.Test.YtijgnoilmmppcaaGreatFo4Tb
open Go.IntKind (i64 i32)
set_option linter.unusedVariables false
set_option linter.unusedSimpArgs false
set_option maxRecDepth 100000
set_option linter.constructorNameAsVariable false
namespace Go.Eng
open Go Go.Proofs Go.Eng.Rows Go.Eng.Srt
section
variable {key : Int -> Int} {T : PV} (lo hi : Nat) (nl : Bool)
abbrev iW (nl : Bool) (T : PV) (t : List (List PV)) : Hp := [.sl (21, 1) false nl t, .box [.pv T]]
abbrev zF (nl : Bool) (T : PV) (t : List (List PV)) (K : List (List PV) -> Prop) : LV -> Hp -> Prop := fun r h' => ∃ t1, (r = .tup [] /\ h' = iW nl T t1) /\ (True /\ ((21, 1) = (21, 1) /\ nl = nl /\ t.length = t1.length) /\ True) /\ K t1
def tK (T : PV) (mid e b : Int) (Q : LV -> Hp -> Prop) (t : List (List PV)) : Prop :=
 if (decide (mid < e) && decide (e < b)) = true then ACall Tryz.prog 175 [.sub 0 lo hi, .pv (.int .i64 mid), .pv (.int .i64 e), .pv (.int .i64 b), .fn 145 [.box 1 0]] (iW nl T t) (zF nl T t fun t1 => Q (.tup []) (iW nl T t1)) else Q (.tup []) (iW nl T t)
def tL (T : PV) (a s mid e b : Int) (Q : LV -> Hp -> Prop) (t : List (List PV)) : Prop :=
 if (decide (a < s) && decide (s < mid)) = true then ACall Tryz.prog 175 [.sub 0 lo hi, .pv (.int .i64 a), .pv (.int .i64 s), .pv (.int .i64 mid), .fn 145 [.box 1 0]] (iW nl T t) (zF nl T t (tK lo hi nl T mid e b Q)) else tK lo hi nl T mid e b Q t
def zG (T : PV) (a s m mid e b : Int) (Q : LV -> Hp -> Prop) (t : List (List PV)) : Prop :=
 if (decide (s < m) && decide (m < e)) = true then ACall Tryz.prog 177 [.sub 0 lo hi, .pv (.int .i64 s), .pv (.int .i64 m), .pv (.int .i64 e), .fn 145 [.box 1 0]] (iW nl T t) (zF nl T t (tL lo hi nl T a s mid e b Q)) else tL lo hi nl T a s mid e b Q t
theorem R32.of {l m : List Int} (h : R32 l) (hm : ∀ x ∈ m, x ∈ l) : R32 m := fun x hx => h x (hm x hx)
def zg7 (T : PV) (key : Int -> Int) (N : Int) : Prop := ∀ (P X Y R : List Int) (a m b : Int), 0 <= a -> P.length = lo + a.toNat -> m = a + X.length -> b = m + Y.length -> X ≠ [] -> Y ≠ [] -> (lo : Int) + b <= hi -> R32 (P ++ (X ++ (Y ++ R))) -> Srtd key X -> Srtd key Y -> b - a < N ->
 ACall Tryz.prog 175 [.sub 0 lo hi, .pv (.int .i64 a), .pv (.int .i64 m), .pv (.int .i64 b), .fn 145 [.box 1 0]] (iW nl T (aA (P ++ (X ++ (Y ++ R))))) (iV key nl T P (X ++ Y) R)
theorem zqu {N : Int} (ih : zg7 lo hi nl T key N) (hlen : hi < 1000000000000) (P X1 X2 Y1 Y2 R : List Int) (a s m mid e b : Int) (ha : 0 <= a) (hP : P.length = lo + a.toNat) (h1 : s = a + X1.length) (h2 : m = s + X2.length) (h3 : e = m + Y1.length) (h4 : b = e + Y2.length) (h5 : mid = s + Y1.length)
 (hhi : (lo : Int) + b <= hi) (hr : R32 (P ++ (X1 ++ (X2 ++ (Y1 ++ (Y2 ++ R)))))) (hX : Srtd key (X1 ++ X2)) (hY : Srtd key (Y1 ++ Y2)) (f1 : ∀ x ∈ X2, ∀ y ∈ Y1, key y < key x) (f2 : ∀ x ∈ X1, ∀ y ∈ Y2, key x <= key y) (n1 : mid - a < N) (n2 : b - mid < N) :
 zG lo hi nl T a s m mid e b (iV key nl T P ((X1 ++ X2) ++ (Y1 ++ Y2)) R) (aA (P ++ (X1 ++ (X2 ++ (Y1 ++ (Y2 ++ R)))))) := by
 have hl1 : ∀ {u v : List Int}, u.length = v.length -> (aA u).length = (aA v).length := fun h => by simp [h]
 obtain ⟨x1, x2, x3⟩ := iC.1 hX
 obtain ⟨y1, y2, y3⟩ := iC.1 hY
 have t3 : ∀ S1 : List Int, Srtd key S1 -> Stab key (X1 ++ Y1) S1 -> tK lo hi nl T mid e b (iV key nl T P ((X1 ++ X2) ++ (Y1 ++ Y2)) R) (aA (P ++ (S1 ++ (X2 ++ (Y2 ++ R))))) := fun S1 s1 k1 => by
  have kl := k1.len
  rw [List.length_append] at kl
  have fin : ∀ S2 : List Int, Srtd key S2 -> Stab key (X2 ++ Y2) S2 -> iV key nl T P ((X1 ++ X2) ++ (Y1 ++ Y2)) R (.tup []) (iW nl T (aA (P ++ (S1 ++ (S2 ++ R))))) := fun S2 s2 k2 => by
   obtain ⟨c1, c2⟩ := zqr hX hY f1 f2 s1 k1 s2 k2
   exact ⟨S1 ++ S2, rfl, by simp, c1, c2⟩
  unfold tK
  refine aD (fun hc => ?_) (fun hc => ?_)
  ·simp only [Bool.and_eq_true, decide_eq_true_eq] at hc
   have nx : X2 ≠ [] := fun h => by subst h; simp at h2; omega
   have ny : Y2 ≠ [] := fun h => by subst h; simp at h4; omega
   have := ih (P ++ S1) X2 Y2 R mid e b (by omega) (by rw [List.length_append]; omega) (by omega) h4 nx ny hhi (hr.of fun x hx => by
    simp only [List.mem_append] at hx ⊢
    rcases hx with (hx | hx) | hx | hx | hx
    ·exact .inl hx
    ·rcases List.mem_append.1 (k1.mem.2 hx) with hx | hx
     ·exact .inr (.inl hx)
     ·exact .inr (.inr (.inr (.inl hx)))
    ·exact .inr (.inr (.inl hx))
    ·exact .inr (.inr (.inr (.inr (.inl hx))))
    ·exact .inr (.inr (.inr (.inr (.inr hx))))) x2 y2 n2
   rw [show P ++ (S1 ++ (X2 ++ (Y2 ++ R))) = (P ++ S1) ++ (X2 ++ (Y2 ++ R)) by simp]
   refine this.mono ?_
   rintro r h' ⟨S2, rfl, rfl, s2, k2⟩
   refine ⟨_, ⟨rfl, rfl⟩, ⟨trivial, ⟨rfl, rfl, hl1 ?_⟩, trivial⟩, ?_⟩
   ·have := k2.len
    simp only [List.length_append] at this ⊢; omega
   ·have := fin S2 s2 k2
    rw [<- List.append_assoc P] at this
    exact this
  ·simp only [Bool.and_eq_true, decide_eq_true_eq] at hc
   have hz : X2 = [] ∨ Y2 = [] := by
    rcases Nat.eq_zero_or_pos X2.length with h | h
    ·exact .inl (List.length_eq_zero_iff.1 h)
    ·exact .inr (List.length_eq_zero_iff.1 (by omega))
   have s2 : Srtd key (X2 ++ Y2) := by
    rcases hz with h | h
    ·subst h; exact y2
    ·subst h; simpa using x2
   have := fin (X2 ++ Y2) s2 (.refl _)
   rw [List.append_assoc X2 Y2] at this
   exact this
 have t2 : tL lo hi nl T a s mid e b (iV key nl T P ((X1 ++ X2) ++ (Y1 ++ Y2)) R) (aA (P ++ (X1 ++ (Y1 ++ (X2 ++ (Y2 ++ R)))))) := by
  unfold tL
  refine aD (fun hc => ?_) (fun hc => ?_)
  ·simp only [Bool.and_eq_true, decide_eq_true_eq] at hc
   have nx : X1 ≠ [] := fun h => by subst h; simp at h1; omega
   have ny : Y1 ≠ [] := fun h => by subst h; simp at h5; omega
   refine (ih P X1 Y1 (X2 ++ (Y2 ++ R)) a s mid ha hP h1 h5 nx ny (by omega) (hr.of fun x hx => by
    simp only [List.mem_append] at hx ⊢
    rcases hx with hx | hx | hx | hx | hx | hx
    ·exact .inl hx
    ·exact .inr (.inl hx)
    ·exact .inr (.inr (.inr (.inl hx)))
    ·exact .inr (.inr (.inl hx))
    ·exact .inr (.inr (.inr (.inr (.inl hx))))
    ·exact .inr (.inr (.inr (.inr (.inr hx))))) x1 y1 n1).mono ?_
   rintro r h' ⟨S1, rfl, rfl, s1, k1⟩
   refine ⟨_, ⟨rfl, rfl⟩, ⟨trivial, ⟨rfl, rfl, hl1 ?_⟩, trivial⟩, t3 S1 s1 k1⟩
   have := k1.len
   simp only [List.length_append] at this ⊢; omega
  ·simp only [Bool.and_eq_true, decide_eq_true_eq] at hc
   have hz : X1 = [] ∨ Y1 = [] := by
    rcases Nat.eq_zero_or_pos X1.length with h | h
    ·exact .inl (List.length_eq_zero_iff.1 h)
    ·exact .inr (List.length_eq_zero_iff.1 (by omega))
   have s2 : Srtd key (X1 ++ Y1) := by
    rcases hz with h | h
    ·subst h; exact y1
    ·subst h; simpa using x1
   have := t3 (X1 ++ Y1) s2 (.refl _)
   rw [List.append_assoc X1 Y1] at this
   exact this
 unfold zG
 refine aD (fun hc => ?_) (fun hc => ?_)
 ·simp only [Bool.and_eq_true, decide_eq_true_eq] at hc
  have nx : X2 ≠ [] := fun h => by subst h; simp at h2; omega
  have ny : Y1 ≠ [] := fun h => by subst h; simp at h3; omega
  have := zqq (T := T) lo hi nl (P ++ X1) X2 Y1 (Y2 ++ R) s m e (by omega) (by rw [List.length_append]; omega) h2 h3 nx ny (by omega) hlen
  rw [show P ++ (X1 ++ (X2 ++ (Y1 ++ (Y2 ++ R)))) = (P ++ X1) ++ (X2 ++ (Y1 ++ (Y2 ++ R))) by simp]
  refine this.mono ?_
  rintro r h' ⟨rfl, rfl⟩
  refine ⟨_, ⟨rfl, rfl⟩, ⟨trivial, ⟨rfl, rfl, hl1 ?_⟩, trivial⟩, ?_⟩
  ·simp only [List.length_append]; omega
  ·rw [List.append_assoc P]; exact t2
 ·simp only [Bool.and_eq_true, decide_eq_true_eq] at hc
  have hz : X2 = [] ∨ Y1 = [] := by
   rcases Nat.eq_zero_or_pos X2.length with h | h
   ·exact .inl (List.length_eq_zero_iff.1 h)
   ·exact .inr (List.length_eq_zero_iff.1 (by omega))
  have e : P ++ (X1 ++ (X2 ++ (Y1 ++ (Y2 ++ R)))) = P ++ (X1 ++ (Y1 ++ (X2 ++ (Y2 ++ R)))) := by
   rcases hz with h | h <;> subst h <;> simp
  rw [e]; exact t2
end
end Go.Eng



namespace Go.Eng
open Go Go.Proofs Go.Eng.Rows Go.Eng.Srt
section
variable {key : Int -> Int} {T : PV}
theorem zg8 (hc : iU T key) (lo hi : Nat) (nl : Bool) (hlen : hi < 1000000000000) : ∀ N : Nat, zg7 lo hi nl T key N := by
 intro N
 induction N with
 | zero =>
   intro P X Y R a m b ha hP hm hb hx hy hhi hr hX hY hN
   omega
 | succ N ih =>
   intro P X Y R a m b ha hP hm hb hx hy hhi hr hX hY hN
   have hxl := List.length_pos_iff.2 hx
   have hyl := List.length_pos_iff.2 hy
   by_cases hx1 : X.length = 1
   ·obtain ⟨x, rfl⟩ := List.length_eq_one_iff.1 hx1
    exact zqs hc lo hi nl P Y R x a m b ha hP (by simpa using hm) hb hhi hr hlen hY
   by_cases hy1 : Y.length = 1
   ·obtain ⟨y, rfl⟩ := List.length_eq_one_iff.1 hy1
    exact zqt hc lo hi nl P X R y a m b ha hP hm hx1 (by simpa using hb) hhi hr hlen hX
   obtain ⟨mid, hmid⟩ : ∃ mid, mid = (a + b) / 2 := ⟨_, rfl⟩
   have hat : ∀ h : Int, a <= h -> h < m -> (P ++ (X ++ (Y ++ R)))[lo + h.toNat]? = some (X.getD (h - a).toNat 0) := fun h h1 h2 => by
    rw [List.getElem?_append_right (by omega), show lo + h.toNat - P.length = (h - a).toNat by omega, List.getElem?_append_left (by omega)]
    exact qE (by omega)
   have hbt : ∀ h : Int, m <= h -> h < b -> (P ++ (X ++ (Y ++ R)))[lo + h.toNat]? = some (Y.getD (h - m).toNat 0) := fun h h1 h2 => by
    rw [<- List.append_assoc, List.getElem?_append_right (by rw [List.length_append]; omega), show lo + h.toNat - (P ++ X).length = (h - m).toNat by rw [List.length_append]; omega, List.getElem?_append_left (by omega)]
    exact qE (by omega)
   obtain ⟨s0, hs0⟩ : ∃ s0, s0 = if m > mid then mid + m - b else a := ⟨_, rfl⟩
   obtain ⟨r0, hr0⟩ : ∃ r0, r0 = if m > mid then mid else m := ⟨_, rfl⟩
   have rng : a <= s0 /\ s0 <= r0 /\ r0 <= m /\ mid + m - s0 <= b /\ m <= mid + m - r0 := by
    rw [hs0, hr0]; split <;> omega
   refine wY _ _ _ _ _ _ _ _
    (fun _ _ _ => True) (fun _ _ _ => 0) (fun _ _ _ => True) (fun _ _ _ => 0) (fun _ _ _ => True) (fun _ _ _ => 0) (fun _ _ _ => True) (fun _ _ _ => 0)
    (fun i j s => s = aA (P ++ (X ++ (Y ++ R))) /\ s0 <= i /\ i <= j /\ j <= r0 /\ (∀ c, s0 <= c -> c < i -> ¬ key (Y.getD (mid - 1 - c).toNat 0) < key (X.getD (c - a).toNat 0)) /\ (∀ c, j <= c -> c < r0 -> key (Y.getD (mid - 1 - c).toNat 0) < key (X.getD (c - a).toNat 0))) (fun i j _ => (j - i).toNat) ?_
   unfold sR
   have w1 : i64.wrap (m - a) = X.length := by rw [aC (by omega) (by omega)]; omega
   have w2 : i64.wrap (b - m) = Y.length := by rw [aC (by omega) (by omega)]; omega
   have w3 : i64.wrap (mid + m) = mid + m := aC (by omega) (by omega)
   have w4 : i64.wrap (mid + m - b) = mid + m - b := aC (by omega) (by omega)
   have w5 : i64.wrap (mid + m - 1) = mid + m - 1 := aC (by omega) (by omega)
   rw [w1, w2, qF ha (by omega) (by omega), <- hmid, w3, w4, w5]
   -- what the loop is, and what follows it
   have body : ∀ (x20 x21 : Int) (s : List (List PV)), (s = aA (P ++ (X ++ (Y ++ R))) /\ s0 <= x20 /\ x20 <= x21 /\ x21 <= r0 /\ (∀ c, s0 <= c -> c < x20 -> ¬ key (Y.getD (mid - 1 - c).toNat 0) < key (X.getD (c - a).toNat 0)) /\ (∀ c, x21 <= c -> c < r0 -> key (Y.getD (mid - 1 - c).toNat 0) < key (X.getD (c - a).toNat 0))) ->
    (x20 < x21 -> ∃ h, h = (x20 + x21) / 2 /\ i64.wrap (mid + m - 1 - h) = mid + m - 1 - h /\ i64.wrap (h + 1) = h + 1 /\ (0 <= mid + m - 1 - h /\ mid + m - 1 - h < (hi : Int) - lo /\ (s.getD (lo + (mid + m - 1 - h).toNat) []).length = 1) /\ (0 <= h /\ h < (hi : Int) - lo /\ (s.getD (lo + h.toNat) []).length = 1) /\
     ∃ n n1, (List.drop 0 (s.getD (lo + (mid + m - 1 - h).toNat) [])).head? = some (PV.int .i32 n) /\ (List.drop 0 (s.getD (lo + h.toNat) [])).head? = some (PV.int .i32 n1) /\ (-2147483648 <= n /\ n <= 2147483647) /\ (-2147483648 <= n1 /\ n1 <= 2147483647) /\
     (¬ key n < key n1 -> (s = aA (P ++ (X ++ (Y ++ R))) /\ s0 <= h + 1 /\ h + 1 <= x21 /\ x21 <= r0 /\ (∀ c, s0 <= c -> c < h + 1 -> ¬ key (Y.getD (mid - 1 - c).toNat 0) < key (X.getD (c - a).toNat 0)) /\ (∀ c, x21 <= c -> c < r0 -> key (Y.getD (mid - 1 - c).toNat 0) < key (X.getD (c - a).toNat 0))) /\ (x21 - (h + 1)).toNat < (x21 - x20).toNat) /\
     (key n < key n1 -> (s = aA (P ++ (X ++ (Y ++ R))) /\ s0 <= x20 /\ x20 <= h /\ h <= r0 /\ (∀ c, s0 <= c -> c < x20 -> ¬ key (Y.getD (mid - 1 - c).toNat 0) < key (X.getD (c - a).toNat 0)) /\ (∀ c, h <= c -> c < r0 -> key (Y.getD (mid - 1 - c).toNat 0) < key (X.getD (c - a).toNat 0))) /\ (h - x20).toNat < (x21 - x20).toNat)) /\
    (¬ x20 < x21 -> i64.wrap (mid + m - x20) = mid + m - x20 /\ zG lo hi nl T a x20 m mid (mid + m - x20) b (iV key nl T P (X ++ Y) R) s) := by
    rintro i j _ ⟨rfl, i0, hij, hjr, hge, hlt⟩
    refine ⟨fun hc1 => ?_, fun hc1 => ?_⟩
    ·obtain ⟨h, hh⟩ : ∃ h, h = (i + j) / 2 := ⟨_, rfl⟩
     have b1 : i <= h /\ h < j := by omega
     have gx := hat h (by omega) (by omega)
     have gy := hbt (mid + m - 1 - h) (by omega) (by omega)
     rw [show (mid + m - 1 - h - m).toNat = (mid - 1 - h).toNat by omega] at gy
     refine ⟨h, hh, aC (by omega) (by omega), aC (by omega) (by omega), ⟨by omega, by omega, by rw [cW gy]; rfl⟩, ⟨by omega, by omega, by rw [cW gx]; rfl⟩, _, _, by rw [cW gy]; rfl, by rw [cW gx]; rfl, kS hr gy, kS hr gx, fun hk => ?_, fun hk => ?_⟩
     ·refine ⟨⟨rfl, by omega, by omega, hjr, fun c c1 c2 => ?_, hlt⟩, by omega⟩
      have u := hX.get (i := (c - a).toNat) (j := (h - a).toNat) (by omega) (by omega)
      have v := hY.get (i := (mid - 1 - h).toNat) (j := (mid - 1 - c).toNat) (by omega) (by omega)
      omega
     ·refine ⟨⟨rfl, i0, by omega, by omega, hge, fun c c1 c2 => ?_⟩, by omega⟩
      have u := hX.get (i := (h - a).toNat) (j := (c - a).toNat) (by omega) (by omega)
      have v := hY.get (i := (mid - 1 - c).toNat) (j := (mid - 1 - h).toNat) (by omega) (by omega)
      omega
    ·have hij2 : i = j := by omega
     subst hij2
     refine ⟨aC (by omega) (by omega), ?_⟩
     have l1 : (X.take (i - a).toNat).length = (i - a).toNat := by rw [List.length_take]; omega
     have l2 : (X.drop (i - a).toNat).length = X.length - (i - a).toNat := List.length_drop
     have l3 : (Y.take (mid - i).toNat).length = (mid - i).toNat := by rw [List.length_take]; omega
     have l4 : (Y.drop (mid - i).toNat).length = Y.length - (mid - i).toNat := List.length_drop
     have eX : X.take (i - a).toNat ++ X.drop (i - a).toNat = X := List.take_append_drop _ _
     have eY : Y.take (mid - i).toNat ++ Y.drop (mid - i).toNat = Y := List.take_append_drop _ _
     have tk : ∀ (L : List Int) (k q : Nat), q < k -> (L.take k).getD q 0 = L.getD q 0 := fun L k q h => by simp only [List.getD]; rw [List.getElem?_take_of_lt h]
     have dk : ∀ (L : List Int) (k q : Nat), (L.drop k).getD q 0 = L.getD (k + q) 0 := fun L k q => by simp only [List.getD, List.getElem?_drop]
     have f1 : ∀ x ∈ X.drop (i - a).toNat, ∀ y ∈ Y.take (mid - i).toNat, key y < key x := fun x hx y hy => by
      obtain ⟨q, hq, rfl⟩ := kT hx
      obtain ⟨p, hp, rfl⟩ := kT hy
      rw [l2] at hq
      rw [l3] at hp
      rw [tk _ _ _ hp, dk]
      have hir : i < r0 := by rw [hr0]; split <;> omega
      have k0 := hlt i (Int.le_refl _) hir
      have u := hX.get (i := (i - a).toNat) (j := (i - a).toNat + q) (by omega) (by omega)
      have v := hY.get (i := p) (j := (mid - 1 - i).toNat) (by omega) (by omega)
      omega
     have f2 : ∀ x ∈ X.take (i - a).toNat, ∀ y ∈ Y.drop (mid - i).toNat, key x <= key y := fun x hx y hy => by
      obtain ⟨q, hq, rfl⟩ := kT hx
      obtain ⟨p, hp, rfl⟩ := kT hy
      rw [l1] at hq
      rw [l4] at hp
      rw [tk _ _ _ hq, dk]
      have his : s0 <= i - 1 := by rw [hs0]; split <;> omega
      have k0 := hge (i - 1) his (by omega)
      rw [show (mid - 1 - (i - 1)).toNat = (mid - i).toNat by omega] at k0
      have u := hX.get (i := q) (j := (i - 1 - a).toNat) (by omega) (by omega)
      have v := hY.get (i := (mid - i).toNat) (j := (mid - i).toNat + p) (by omega) (by omega)
      omega
     have := zqu lo hi nl (N := N) ih hlen P (X.take (i - a).toNat) (X.drop (i - a).toNat) (Y.take (mid - i).toNat) (Y.drop (mid - i).toNat) R a i m mid (mid + m - i) b ha hP (by omega) (by omega) (by omega) (by omega) (by omega) hhi
      (by rw [<- List.append_assoc (Y.take _), eY, <- List.append_assoc (X.take _), eX]; exact hr) (by rw [eX]; exact hX) (by rw [eY]; exact hY) f1 f2 (by omega) (by omega)
     rw [<- List.append_assoc (Y.take _) _ R, eY, <- List.append_assoc (X.take _) _ (Y ++ R), eX] at this
     exact this
   refine bL (by simp; omega) (bL (by simp; omega) ?_)
   refine aD (fun hm2 => ?_) (fun hm2 => ?_)
   ·simp only [decide_eq_true_eq] at hm2
    rw [if_pos hm2] at hs0 hr0
    refine ⟨⟨rfl, rfl, by omega, by omega, by omega, fun c c1 c2 => by omega, fun c c1 c2 => by omega⟩, ?_⟩
    rintro i j s hJ
    obtain ⟨b1, b2⟩ := body i j s hJ
    refine aD (fun hc1 => ?_) (fun hc1 => ?_)
    ·simp only [decide_eq_true_eq] at hc1
     obtain ⟨h, hh, e1, e2, e3, e4, n, n1, g1, g2, r1, r2, k1, k2⟩ := b1 hc1
     rw [qF (by omega) (by omega) (by omega), <- hh, e1, e2]
     refine ⟨e3, n, g1, e4, n1, g2, ?_⟩
     refine (hc n n1 r1 r2).mono ?_
     rintro _ ⟨n2, rfl, hn2⟩
     refine ⟨n2, rfl, rfl, aD (fun hl => ?_) (fun hl => ?_)⟩
     ·simp only [Bool.not_eq_true', decide_eq_false_iff_not] at hl
      obtain ⟨q1, q2⟩ := k1 fun h => hl (hn2.2 h)
      exact ⟨rfl, q1, q2⟩
     ·simp only [Bool.not_eq_true', decide_eq_false_iff_not, Decidable.not_not] at hl
      obtain ⟨q1, q2⟩ := k2 (hn2.1 hl)
      exact ⟨rfl, q1, q2⟩
    ·simp only [decide_eq_true_eq] at hc1
     obtain ⟨e1, e2⟩ := b2 hc1
     rw [e1]
     exact e2
   ·simp only [decide_eq_true_eq] at hm2
    rw [if_neg hm2] at hs0 hr0
    refine ⟨⟨rfl, rfl, by omega, by omega, by omega, fun c c1 c2 => by omega, fun c c1 c2 => by omega⟩, ?_⟩
    rintro i j s hJ
    obtain ⟨b1, b2⟩ := body i j s hJ
    refine aD (fun hc1 => ?_) (fun hc1 => ?_)
    ·simp only [decide_eq_true_eq] at hc1
     obtain ⟨h, hh, e1, e2, e3, e4, n, n1, g1, g2, r1, r2, k1, k2⟩ := b1 hc1
     rw [qF (by omega) (by omega) (by omega), <- hh, e1, e2]
     refine ⟨e3, n, g1, e4, n1, g2, ?_⟩
     refine (hc n n1 r1 r2).mono ?_
     rintro _ ⟨n2, rfl, hn2⟩
     refine ⟨n2, rfl, rfl, aD (fun hl => ?_) (fun hl => ?_)⟩
     ·simp only [Bool.not_eq_true', decide_eq_false_iff_not] at hl
      obtain ⟨q1, q2⟩ := k1 fun h => hl (hn2.2 h)
      exact ⟨rfl, q1, q2⟩
     ·simp only [Bool.not_eq_true', decide_eq_false_iff_not, Decidable.not_not] at hl
      obtain ⟨q1, q2⟩ := k2 (hn2.1 hl)
      exact ⟨rfl, q1, q2⟩
    ·simp only [decide_eq_true_eq] at hc1
     obtain ⟨e1, e2⟩ := b2 hc1
     rw [e1]
     exact e2
end
end Go.Eng



namespace Go.Eng
open Go Go.Proofs Go.Eng.Rows Go.Eng.Srt
section
variable {key : Int -> Int} {T : PV}
def l5 (key : Int -> Int) (k : Nat) (Bs : List (List Int)) : Prop := ∀ B ∈ Bs, B.length = k /\ Srtd key B
theorem zH {k : Nat} : ∀ {Bs : List (List Int)}, l5 key k Bs -> Bs.flatten.length = k * Bs.length
 | [], _ => by simp
 | B :: Bs, h => by
   rw [List.flatten_cons, List.length_append, (h B List.mem_cons_self).1, zH (Bs := Bs) fun C hC => h C (List.mem_cons_of_mem _ hC), List.length_cons, Nat.mul_add]; omega
theorem tM (Bs : List (List Int)) : Bs = [] ∨ (∃ X, Bs = [X]) ∨ ∃ X Y Bs', Bs = X :: Y :: Bs' := by
 match Bs with
 | [] => exact .inl rfl
 | [X] => exact .inr (.inl ⟨X, rfl⟩)
 | X :: Y :: Bs' => exact .inr (.inr ⟨X, Y, Bs', rfl⟩)
theorem zg9 {k : Nat} {Bs : List (List Int)} {B : List Int} (h : l5 key k Bs) (hl : B.length = k) (hs : Srtd key B) : l5 key k (Bs ++ [B]) := fun C hC => by
 rcases List.mem_append.1 hC with hC | hC
 ·exact h C hC
 ·simp only [List.mem_singleton] at hC; subst hC; exact ⟨hl, hs⟩
theorem zI {P S R S' : List Int} (h : R32 (P ++ (S ++ R))) (k : Stab key S S') : R32 (P ++ (S' ++ R)) := h.of fun x hx => by
 simp only [List.mem_append] at hx ⊢
 rcases hx with hx | hx | hx
 ·exact .inl hx
 ·exact .inr (.inl (k.mem.2 hx))
 ·exact .inr (.inr hx)
theorem zqv (hc : iU T key) (lo hi : Nat) (nl : Bool) (P S R : List Int) (hP : P.length = lo) (hS : hi = lo + S.length) (hr : R32 (P ++ (S ++ R))) (hlen : hi < 1000000000000) :
 ACall Tryz.prog 162 [.sub 0 lo hi, .pv (.int .i64 ((hi - lo : Nat) : Int)), .fn 145 [.box 1 0]] (iW nl T (aA (P ++ (S ++ R)))) (iV key nl T P S R) := by
 have hl1 : ∀ {u v : List Int}, u.length = v.length -> (aA u).length = (aA v).length := fun h => by simp [h]
 obtain ⟨n, hn⟩ : ∃ n : Int, n = ((hi - lo : Nat) : Int) := ⟨_, rfl⟩
 rw [<- hn]
 have hnS : n = S.length := by omega
 refine zm2 _ _ _ _ _ _
  (fun a b s => b = a + 20 /\ 0 <= a /\ ∃ Bs C, s = aA (P ++ (Bs.flatten ++ C ++ R)) /\ l5 key 20 Bs /\ (Bs.flatten.length : Int) = a /\ Stab key S (Bs.flatten ++ C)) (fun a _ _ => (n + 1 - a).toNat)
  (fun k s => 0 < k /\ ∃ Bs C, s = aA (P ++ (Bs.flatten ++ C ++ R)) /\ l5 key k.toNat Bs /\ Srtd key C /\ (C.length : Int) < k /\ Stab key S (Bs.flatten ++ C)) (fun k _ => (n - k).toNat)
  (fun k _ _ _ k' a b s => k = k' /\ b = a + 2 * k /\ 0 <= a /\ ∃ B2 Bs C, s = aA (P ++ (B2.flatten ++ (Bs.flatten ++ C) ++ R)) /\ l5 key (2 * k).toNat B2 /\ l5 key k.toNat Bs /\ Srtd key C /\ (C.length : Int) < k /\ (B2.flatten.length : Int) = a /\ Stab key S (B2.flatten ++ (Bs.flatten ++ C))) (fun k a _ _ => (n + 1 - a).toNat) ?_
 unfold zd2
 refine ⟨⟨rfl, rfl, Int.le_refl _, [], S, by simp, fun B hB => (by cases hB), rfl, by simpa using Stab.refl S⟩, ?_⟩
 rintro a b _ ⟨rfl, a0, Bs, C, rfl, hBs, hBl, hst⟩
 have hsl := hst.len
 rw [List.length_append] at hsl
 refine aD (fun hc1 => ?_) (fun hc1 => ?_)
 ·simp only [decide_eq_true_eq] at hc1
  have wa : i64.wrap (a + 20 + 20) = a + 20 + 20 := aC (by omega) (by omega)
  rw [wa]
  have hC : C.take 20 ++ C.drop 20 = C := List.take_append_drop _ _
  have hCl : (C.take 20).length = 20 := by rw [List.length_take]; omega
  have e1 : P ++ (Bs.flatten ++ C ++ R) = (P ++ Bs.flatten) ++ C.take 20 ++ (C.drop 20 ++ R) := by
   rw [show Bs.flatten ++ C ++ R = Bs.flatten ++ ((C.take 20 ++ C.drop 20) ++ R) by rw [hC]; simp]
   simp only [List.append_assoc]
  have := zg5 hc lo hi nl (P ++ Bs.flatten) (C.take 20) (C.drop 20 ++ R) a (a + 20) a0 (by rw [List.length_append]; omega) (by omega) (by omega) (by rw [<- e1]; exact zI hr hst) hlen
  rw [e1]
  refine this.mono ?_
  rintro r h' ⟨S1, rfl, rfl, s1, k1⟩
  have k1l := k1.len
  refine ⟨_, ⟨rfl, rfl⟩, ⟨trivial, ⟨rfl, rfl, hl1 (by simp only [List.length_append]; omega)⟩, trivial⟩, rfl, ⟨rfl, by omega, Bs ++ [S1], C.drop 20, by simp, zg9 hBs (by omega) s1, by simp only [List.flatten_append, List.flatten_cons, List.flatten_nil, List.append_nil, List.length_append]; omega, ?_⟩, by dsimp only; omega⟩
  refine hst.trans ?_
  have := (Stab.refl (key := key) Bs.flatten).app (k1.app (Stab.refl (C.drop 20)))
  rw [hC] at this
  simpa using this
 ·simp only [decide_eq_true_eq] at hc1
  have e1 : P ++ (Bs.flatten ++ C ++ R) = (P ++ Bs.flatten) ++ C ++ R := by simp
  have := zg5 hc lo hi nl (P ++ Bs.flatten) C R a n a0 (by rw [List.length_append]; omega) (by omega) (by omega) (by rw [<- e1]; exact zI hr hst) hlen
  rw [e1]
  refine this.mono ?_
  rintro r h' ⟨C1, rfl, rfl, s1, k1⟩
  have k1l := k1.len
  refine ⟨_, ⟨rfl, rfl⟩, ⟨trivial, ⟨rfl, rfl, hl1 (by simp only [List.length_append]; omega)⟩, trivial⟩, ⟨rfl, by omega, Bs, C1, by simp, hBs, s1, by omega, hst.trans ((Stab.refl _).app k1)⟩, ?_⟩
  clear hBs hBl hst hsl hc1 e1 this s1 k1 k1l
  rintro k _ ⟨k0, Bs, C, rfl, hBs, hCs, hCk, hst⟩
  have hsl := hst.len
  rw [List.length_append] at hsl
  have hbl := zH hBs
  refine aD (fun hc2 => ?_) (fun hc2 => ?_)
  ·simp only [decide_eq_true_eq] at hc2
   have w2 : i64.wrap (2 * k) = 2 * k := aC (by omega) (by omega)
   have w3 : i64.wrap (k * 2) = 2 * k := by rw [aC (by omega) (by omega)]; omega
   rw [w2]
   refine ⟨⟨rfl, rfl, by omega, Int.le_refl _, [], Bs, C, by simp, fun B hB => (by cases hB), hBs, hCs, hCk, rfl, by simpa using hst⟩, ?_⟩
   clear hBs hCs hCk hst hsl hbl
   rintro _ a b _ ⟨rfl, rfl, a0, B2, Bs, C, rfl, hB2, hBs, hCs, hCk, hBl, hst⟩
   have hsl := hst.len
   rw [List.length_append, List.length_append] at hsl
   have hbl := zH hBs
   have hRs : R32 (P ++ (B2.flatten ++ (Bs.flatten ++ C) ++ R)) := zI hr hst
   rw [w2, w3]
   have hkn : (k.toNat : Int) = k := by omega
   refine aD (fun hc3 => ?_) (fun hc3 => ?_)
   ·simp only [decide_eq_true_eq] at hc3
    have w4 : i64.wrap (a + k) = a + k := aC (by omega) (by omega)
    have w5 : i64.wrap (a + 2 * k + 2 * k) = a + 2 * k + 2 * k := aC (by omega) (by omega)
    rw [w4, w5]
    obtain ⟨X, Y, Bs', rfl⟩ : ∃ X Y Bs', Bs = X :: Y :: Bs' := by
     rcases tM Bs with rfl | ⟨X, rfl⟩ | h
     ·simp only [List.flatten_nil, List.length_nil] at hsl; omega
     ·have h1 := (hBs X (by simp)).1
      simp only [List.flatten_cons, List.flatten_nil, List.append_nil] at hsl; omega
     ·exact h
    obtain ⟨hXl, hXs⟩ := hBs X (by simp)
    obtain ⟨hYl, hYs⟩ := hBs Y (by simp)
    have nx : X ≠ [] := fun h => by subst h; simp at hXl; omega
    have ny : Y ≠ [] := fun h => by subst h; simp at hYl; omega
    have e1 : P ++ (B2.flatten ++ ((X :: Y :: Bs').flatten ++ C) ++ R) = (P ++ B2.flatten) ++ (X ++ (Y ++ (Bs'.flatten ++ C ++ R))) := by simp
    have := zg8 hc lo hi nl hlen (2 * k + 1).toNat (P ++ B2.flatten) X Y (Bs'.flatten ++ C ++ R) a (a + k) (a + 2 * k) a0 (by rw [List.length_append]; omega) (by omega) (by omega) nx ny (by omega) (by rw [<- e1]; exact hRs) hXs hYs (by omega)
    rw [e1]
    refine this.mono ?_
    rintro r h' ⟨S1, rfl, rfl, s1, k1⟩
    have k1l := k1.len
    rw [List.length_append] at k1l
    refine ⟨_, ⟨rfl, rfl⟩, ⟨trivial, ⟨rfl, rfl, hl1 (by simp only [List.length_append]; omega)⟩, trivial⟩, rfl, ⟨rfl, rfl, by omega, B2 ++ [S1], Bs', C, by simp, zg9 hB2 (by omega) s1, fun B hB => hBs B (by simp [hB]), hCs, hCk, by simp only [List.flatten_append, List.flatten_cons, List.flatten_nil, List.append_nil, List.length_append]; omega, ?_⟩, by dsimp only; omega⟩
    refine hst.trans ?_
    have := (Stab.refl (key := key) B2.flatten).app (k1.app (Stab.refl (Bs'.flatten ++ C)))
    simpa using this
   ·simp only [decide_eq_true_eq] at hc3
    have w4 : i64.wrap (a + k) = a + k := aC (by omega) (by omega)
    rw [w4]
    refine aD (fun hc4 => ?_) (fun hc4 => ?_)
    ·simp only [decide_eq_true_eq] at hc4
     obtain ⟨X, rfl⟩ : ∃ X, Bs = [X] := by
      rcases tM Bs with rfl | h | ⟨X, Y, Bs', rfl⟩
      ·simp only [List.flatten_nil, List.length_nil] at hsl; omega
      ·exact h
      ·have h1 := (hBs X (by simp)).1
       have h2 := (hBs Y (by simp)).1
       simp only [List.flatten_cons, List.length_append] at hsl
       omega
     obtain ⟨hXl, hXs⟩ := hBs X (by simp)
     have nx : X ≠ [] := fun h => by subst h; simp at hXl; omega
     simp only [List.flatten_cons, List.flatten_nil, List.append_nil] at hsl hst
     have ny : C ≠ [] := fun h => by subst h; simp only [List.length_nil] at hsl; omega
     have e1 : P ++ (B2.flatten ++ ([X].flatten ++ C) ++ R) = (P ++ B2.flatten) ++ (X ++ (C ++ R)) := by simp
     have := zg8 hc lo hi nl hlen (2 * k + 1).toNat (P ++ B2.flatten) X C R a (a + k) n a0 (by rw [List.length_append]; omega) (by omega) (by omega) nx ny (by omega) (by rw [<- e1]; exact hRs) hXs hCs (by omega)
     rw [e1]
     refine this.mono ?_
     rintro r h' ⟨S1, rfl, rfl, s1, k1⟩
     have k1l := k1.len
     rw [List.length_append] at k1l
     exact ⟨_, ⟨rfl, rfl⟩, ⟨trivial, ⟨rfl, rfl, hl1 (by simp only [List.length_append]; omega)⟩, trivial⟩, rfl, ⟨by omega, B2, S1, by simp, hB2, s1, by omega, hst.trans ((Stab.refl _).app k1)⟩, by dsimp only; omega⟩
    ·simp only [decide_eq_true_eq] at hc4
     have hCs2 : Srtd key (Bs.flatten ++ C) /\ ((Bs.flatten ++ C).length : Int) < 2 * k := by
      rcases tM Bs with rfl | ⟨X, rfl⟩ | ⟨X, Y, Bs', rfl⟩
      ·exact ⟨by simpa using hCs, by simp; omega⟩
      ·have h1 := hBs X (by simp)
       simp only [List.flatten_cons, List.flatten_nil, List.append_nil] at hsl ⊢
       have hC0 : C = [] := List.length_eq_zero_iff.1 (by omega)
       subst hC0
       exact ⟨by simpa using h1.2, by simp; omega⟩
      ·exfalso
       have h1 := (hBs X (by simp)).1
       have h2 := (hBs Y (by simp)).1
       simp only [List.flatten_cons, List.length_append] at hsl
       omega
     exact ⟨rfl, ⟨by omega, B2, Bs.flatten ++ C, by simp, hB2, hCs2.1, hCs2.2, hst⟩, by dsimp only; omega⟩
  ·simp only [decide_eq_true_eq] at hc2
   have hz : Srtd key (Bs.flatten ++ C) := by
    rcases tM Bs with rfl | ⟨X, rfl⟩ | ⟨X, Y, Bs', rfl⟩
    ·simpa using hCs
    ·have h1 := hBs X (by simp)
     simp only [List.flatten_cons, List.flatten_nil, List.append_nil] at hsl ⊢
     have hC0 : C = [] := List.length_eq_zero_iff.1 (by omega)
     subst hC0
     simpa using h1.2
    ·exfalso
     have h1 := (hBs X (by simp)).1
     have h2 := (hBs Y (by simp)).1
     simp only [List.flatten_cons, List.length_append] at hsl
     omega
   exact ⟨Bs.flatten ++ C, rfl, rfl, hz, hst⟩
theorem zqw (hc : iU T key) (lo hi : Nat) (nl : Bool) (P S R : List Int) (hP : P.length = lo) (hS : hi = lo + S.length) (hr : R32 (P ++ (S ++ R))) (hlen : hi < 1000000000000) :
 ACall Tryz.prog 144 [.sub 0 lo hi, .fn 145 [.box 1 0]] (iW nl T (aA (P ++ (S ++ R)))) (iV key nl T P S R) := by
 refine zm3 _ _ _ _ _ ?_
 unfold zd3
 refine (zqv hc lo hi nl P S R hP hS hr hlen).mono ?_
 rintro r h' ⟨S1, rfl, rfl, s1, k1⟩
 exact ⟨_, ⟨rfl, rfl⟩, ⟨trivial, ⟨rfl, rfl, by have := k1.len; simp; omega⟩, trivial⟩, S1, rfl, rfl, s1, k1⟩
end
end Go.Eng



namespace Go.Eng
open Go Go.Proofs Go.Eng.Rows Go.Eng.Srt
section
variable {Z : World -> (Nat -> Prop) -> (Nat -> Pl) -> Hp -> Prop} {key : Int -> Int} {nl : Bool} {T : PV} {l : Nat}
def YQ (key : Int -> Int) (L : List Int) (f i : Nat) (L' : List Int) : Prop := ∃ S', L' = L.take f ++ (S' ++ L.drop i) /\ Srtd key S' /\ Stab key ((L.take i).drop f) S'
def zJ (Z : World -> (Nat -> Prop) -> (Nat -> Pl) -> Hp -> Prop) (key : Int -> Int) (nl : Bool) (T : PV) (l N0 : Nat) : Prop :=
 ∀ (w : World) (I : Nat -> Prop) (G : Nat -> Pl) (L : List Int) (f i : Nat), HRel w I G (aM nl T (aA L)) -> Z w I G (aM nl T (aA L)) -> f + 1 < i -> i <= L.length -> R32 L -> L.length < 1000000000000 -> L.length = N0 ->
  ∃ fn tmps assign body, (Instr.yield l #[.int .i64 f, .int .i64 i]).run Tryz.prog w = .ok (.round l fn tmps assign body) w /\ RoundIn Fence.wide 0 Tryz.prog l fn tmps assign body w fun e w' =>
   e = .returned (.bool true) /\ ∃ L' I' G', YQ key L f i L' /\ HRel w' I' G' (aM nl T (aA L')) /\ Keeps w I w' I' /\ Like G G' (aM nl T (aA L)) (aM nl T (aA L')) /\ Z w' I' G' (aM nl T (aA L'))
def o8 (ops : Array Oper) : Oper := ops.toList.getD 8 default
theorem e6a (y : Value) (es : List (List PV)) (i f : Int) (K : Env -> Hp -> Prop) : bS Tryz.prog (fun _ => none) 39 (bY (dC Tryz.f161)).toList ((bY (dC Tryz.f161)).toList.take 8) (eM y i f) (aM nl T es) K =
 K ((35, LV.spec 32 true (.pv (.int .i64 i))) :: (34, LV.spec 32 true (.pv (.int .i64 f))) :: (33, LV.spec 32 true (.pv (.raw y))) :: (32, .pv (.bool (decide (i64.wrap (i - f) > (1 : Int))))) :: (31, .pv (.bool (decide (i64.wrap (i - f) > (1 : Int))))) ::
  (30, .pv (.int .i64 (i64.wrap (i - f)))) :: (29, .pv (.int .i64 f)) :: (28, .pv (.int .i64 i)) :: eM y i f) (aM nl T es) := by kernel_rfl
theorem e6b (y : Value) (es : List (List PV)) (i f : Int) (K : Env -> Hp -> Prop) : bS Tryz.prog (fun _ => none) 39 (bY (dC Tryz.f161)).toList ((bY (dC Tryz.f161)).toList.drop 9) ((36, .pv (.bool true)) :: (32, .pv (.bool true)) :: eM y i f) (aM nl T es) K =
 K ((38, .pv (.bool false)) :: (37, .spec 32 true (.pv (.bool false))) :: (36, .pv (.bool true)) :: (32, .pv (.bool true)) :: eM y i f) (aM nl T es) := by kernel_rfl
theorem e6c (y : Value) (es : List (List PV)) (i f : Int) (K : Env -> Hp -> Prop) : bS Tryz.prog (fun _ => none) 39 (bY (dC Tryz.f161)).toList ((bY (dC Tryz.f161)).toList.drop 9) ((32, .pv (.bool false)) :: eM y i f) (aM nl T es) K =
 K ((38, .pv (.bool false)) :: (37, .pv .unit) :: (32, .pv (.bool false)) :: (32, .pv (.bool false)) :: eM y i f) (aM nl T es) := by kernel_rfl
theorem zqx : dC Tryz.f161 = .region 6 (bY (dC Tryz.f161)) false := by kernel_rfl
theorem zqy : (bY (dC Tryz.f161)).size = 11 /\ iQ (bY (dC Tryz.f161)).toList = true /\ (bY (dC Tryz.f161)).toList.length = 11 /\ (bY (dC Tryz.f161))[8]? = some (o8 (bY (dC Tryz.f161))) /\
 (o8 (bY (dC Tryz.f161))).dst = some 36 /\ (o8 (bY (dC Tryz.f161))).guard = some (4, true) /\ (o8 (bY (dC Tryz.f161))).op = .call { callee := .value (.tmp 33), args := #[.tmp 34, .tmp 35], argTypes := #[3, 3] } /\
 ((bY (dC Tryz.f161))[4]?).bind (·.dst) = some 32 :=
 ⟨by kernel_rfl, by kernel_rfl, by kernel_rfl, by kernel_rfl, by kernel_rfl, by kernel_rfl, by kernel_rfl, by kernel_rfl⟩
theorem zqz {F : Fence} {n : Nat} {P : Program} {ops : Array Oper} {Q : Exit -> Act -> World -> Prop} {i : Nat} {rest : List Nat} {a : Act} {w : World} {o : Oper} (ho : ops[i]? = some o)
 (h : if Region.wanted o (yielded ops a.tmps) then o.wpIn F n P a w (wpOpsIn F n P ops Q rest) Q else (∀ f, o.about P w a.eval = some f -> F.fn f) /\ wpOpsIn F n P ops Q rest (a.put o.dst undef) w) : wpOpsIn F n P ops Q (i :: rest) a w := by
 simp only [wpOpsIn, ho]; exact h
theorem zq0 {w : World} {I : Nat -> Prop} {G : Nat -> Pl} {h : Hp} {tm : Array Value} {s : Nat} {b : Bool} (hr : LRel w I G h (.pv (.bool b)) (tm.getD s undef)) : tm[s]? = some (.bool b) := by
 have := hr.bool_eq
 rw [Array.getD_eq_getD_getElem?] at this
 cases hx : tm[s]? with
 | none => rw [hx] at this; simp [undef] at this
 | some v => rw [hx] at this; simpa using this
theorem LRel.raw_eq {w : World} {I : Nat -> Prop} {G : Nat -> Pl} {h : Hp} {v cv : Value} (hr : LRel w I G h (.pv (.raw v)) cv) : cv = v := by cases hr with | pv _ _ h1 => cases h1; rfl
theorem zq1 {N0 : Nat} (hY : zJ Z key nl T l N0) (hZ : ∀ w I G h w' I' G' h', Z w I G h -> HRel w I G h -> HRel w' I' G' h' -> TrN 5 w I G h w' I' G' h' -> Z w' I' G' h') (L : List Int) (f i : Nat) (hf : f <= i) (hi : i <= L.length) (hr : R32 L) (hL : L.length < 1000000000000) (hN : L.length = N0) :
 CodeZ Z Tryz.prog 39 (dC Tryz.f161) (eM (.func (.yield l) #[] #[]) i f) (aM nl T (aA L)) fun x e h => ∃ L', x = .normal /\ (if f + 1 < i then YQ key L f i L' else L' = L) /\ e = (38, .pv (.bool false)) :: eM (.func (.yield l) #[] #[]) i f /\ h = aM nl T (aA L') := by
 intro w I G a Qx hs hz hq
 obtain ⟨q1, q2, q3, q4, q5, q6, q7, q8⟩ := zqy
 rw [zqx]
 have ea := e6a (nl := nl) (T := T) (.func (.yield l) #[] #[]) (aA L) i f
 have eb := fun es => e6b (nl := nl) (T := T) (.func (.yield l) #[] #[]) es i f
 have ec := e6c (nl := nl) (T := T) (.func (.yield l) #[] #[]) (aA L) i f
 generalize bY (dC Tryz.f161) = O at *
 generalize o8 O = o at *
 have ww : i64.wrap ((i : Int) - f) = (i : Int) - f := aC (by omega) (by omega)
 rw [ww] at ea
 refine wp_mono (Q := fun x a' w' => x = .normal /\ ∃ L' I' G', (if f + 1 < i then YQ key L f i L' else L' = L) /\ SRel w' I' G' ((38, .pv (.bool false)) :: eM (.func (.yield l) #[] #[]) i f) (aM nl T (aA L')) 39 a' /\ a'.defers = a.defers /\ Z w' I' G' (aM nl T (aA L'))) ((wpIn_wide (n := 0)).1 (wpIn_region (F := wd none) ?_)) ?_
 rotate_left
 ·rintro x a' w' ⟨rfl, L', I', G', h1, h2, h3, h4⟩
  exact hq .normal _ _ w' I' G' a' ⟨L', rfl, h1, rfl, rfl⟩ h2 h3 h4
 rw [q1, show List.range 11 = List.range' 0 8 ++ (8 :: List.range' 9 2) from rfl]
 refine sL ?_
 rw [show (8 : Nat) = (O.toList.take 8).length by simp [q3]]
 have hsuf : ∀ j, j < (O.toList.drop 9).length -> (O.toList.drop 9)[j]? = O[9 + j]? := fun j _ => by rw [List.getElem?_drop]; simp
 have hl2 : (O.toList.drop 9).length = 2 := by simp [q3]
 refine wT (ro := none) q2 (fun j hj => ?_) (by rw [ea]; exact ⟨rfl, rfl⟩ : bS Tryz.prog (fun _ => none) 39 O.toList (O.toList.take 8) _ _ (fun e' h' => e' = _ /\ h' = aM nl T (aA L))) hs (fun a w h => nomatch h.1) ?_
 ·rw [List.getElem?_take, if_pos (by simp only [List.length_take] at hj; omega)]; simp
 rintro _ _ w1 I1 G1 a1 ⟨rfl, rfl⟩ hs1 hd1 ht1
 rw [show (O.toList.take 8).length = 8 by simp [q3]]
 have hz1 := hZ _ _ _ _ _ _ _ _ hz hs.hh hs1.hh ht1.toN
 have h32 := zq0 (hs1.he 32 _ rfl)
 have hyl : yielded O a1.tmps 4 = some (decide ((i : Int) - f > 1)) := by
  unfold yielded
  rw [q8]; simp [h32]
 have hwd : Region.wanted o (yielded O a1.tmps) = decide ((i : Int) - f > 1) := by unfold Region.wanted; rw [q6]; simp [hyl]
 show wpOpsIn (wd none) 0 Tryz.prog O _ (8 :: List.range' 9 2) a1 w1
 refine zqz q4 ?_
 rw [hwd]
 have hdst : g9 39 o = true := by unfold g9; rw [q5]; rfl
 by_cases hc : f + 1 < i
 ·have hd' : decide ((i : Int) - f > 1) = true := by simp; omega
  rw [hd'] at hs1 h32 ⊢
  rw [if_pos rfl]
  refine ⟨fun _ _ => trivial, ?_⟩
  have h32' : a1.tmps.getD 32 undef = .bool true := (hs1.he 32 _ rfl).bool_eq
  have v33 := ((hs1.he 33 _ rfl).1 h32').raw_eq
  have v34 := ((hs1.he 34 _ rfl).1 h32').int_eq
  have v35 := ((hs1.he 35 _ rfl).1 h32').int_eq
  obtain ⟨fn, tmps, assign, body, hy, hR⟩ := hY w1 I1 G1 L f i hs1.hh hz1 hc hi hr hL hN
  have hrun : (o.semAt none a1.eval).run Tryz.prog w1 = .ok (.round l fn tmps assign body) w1 := by
   rw [Oper.semAt_none]
   unfold execOp
   rw [q7]
   have e33 : a1.eval (.tmp 33) = .func (.yield l) #[] #[] := v33
   have e34 : a1.eval (.tmp 34) = .int .i64 f := v34
   have e35 : a1.eval (.tmp 35) = .int .i64 i := v35
   have hres : resolve a1.eval { callee := .value (.tmp 33), args := #[.tmp 34, .tmp 35], argTypes := #[3, 3] } o.type = pure { target := .fn (.yield l) #[], args := #[.int .i64 f, .int .i64 i] } := by
    simp [resolve, e33, e34, e35, Deferred.ofValue]
   simp only [hres, pure_bind]
   exact hy
  rw [hrun]
  refine ⟨(fun x => by cases x), hR.mono ?_⟩
  rintro e w2 ⟨rfl, L', I2, G2, y1, y2, y3, y4, y5⟩
  have hs2 : SRel w2 I2 G2 ((36, .pv (.bool true)) :: (32, .pv (.bool true)) :: eM (.func (.yield l) #[] #[]) i f) (aM nl T (aA L')) 39 (a1.put o.dst (.bool true)) := by
   have s1 : SRel w1 I1 G1 ((32, .pv (.bool true)) :: eM (.func (.yield l) #[] #[]) i f) (aM nl T (aA L)) 39 a1 := hs1.le (LeE.le ⟨rfl, rfl, rfl, rfl, rfl, rfl, trivial⟩)
   obtain ⟨p1, p2⟩ := kD (v := .pv (.bool true)) hdst s1.hn y2 (s1.he.mono y3 y4) (.pv _ _ (.bool true))
   have : put o (.pv (.bool true)) ((32, .pv (.bool true)) :: eM (.func (.yield l) #[] #[]) i f) = (36, .pv (.bool true)) :: (32, .pv (.bool true)) :: eM (.func (.yield l) #[] #[]) i f := by unfold put; rw [q5]; rfl
   rwa [this] at p1
  have := wT (ro := none) (n := 0) (k := 9) q2 hsuf (by rw [eb]; exact ⟨rfl, rfl⟩ : bS Tryz.prog (fun _ => none) 39 O.toList (O.toList.drop 9) _ _ (fun e' h' => e' = _ /\ h' = aM nl T (aA L'))) hs2 (Q := fun x a' w' => x = .normal /\ ∃ L' I' G', (if f + 1 < i then YQ key L f i L' else L' = L) /\ SRel w' I' G' ((38, .pv (.bool false)) :: eM (.func (.yield l) #[] #[]) i f) (aM nl T (aA L')) 39 a' /\ a'.defers = a.defers /\ Z w' I' G' (aM nl T (aA L'))) (fun a w h => nomatch h.1) (by
   rintro _ _ w3 I3 G3 a3 ⟨rfl, rfl⟩ hs3 hd3 ht3
   refine ⟨rfl, L', I3, G3, by rw [if_pos hc]; exact y1, hs3.le (LeE.le ⟨rfl, rfl, rfl, rfl, rfl, rfl, trivial⟩), hd3.trans ((by unfold Act.put; cases o.dst <;> rfl : (a1.put o.dst (.bool true)).defers = a1.defers).trans hd1), hZ _ _ _ _ _ _ _ _ y5 hs2.hh hs3.hh ht3.toN⟩)
  rw [hl2] at this
  exact this
 ·have hd' : decide ((i : Int) - f > 1) = false := by simp; omega
  rw [hd'] at hs1 h32 ⊢
  rw [if_neg (by simp)]
  refine ⟨fun _ _ => trivial, ?_⟩
  have hlt : 36 < a1.tmps.size := by rw [hs1.hn]; omega
  have hs2 : SRel w1 I1 G1 ((32, .pv (.bool false)) :: eM (.func (.yield l) #[] #[]) i f) (aM nl T (aA L)) 39 (a1.put o.dst undef) := by
   have s1 : SRel w1 I1 G1 ((32, .pv (.bool false)) :: eM (.func (.yield l) #[] #[]) i f) (aM nl T (aA L)) 39 a1 := hs1.le (LeE.le ⟨rfl, rfl, rfl, rfl, rfl, rfl, trivial⟩)
   obtain ⟨p1, p2⟩ := kD (v := .bot) (cv := undef) hdst s1.hn s1.hh s1.he (.bot _)
   have : put o .bot ((32, .pv (.bool false)) :: eM (.func (.yield l) #[] #[]) i f) = (36, .bot) :: (32, .pv (.bool false)) :: eM (.func (.yield l) #[] #[]) i f := by unfold put; rw [q5]; rfl
   rw [this] at p1
   exact p1.le (LeE.le ⟨rfl, rfl, rfl, rfl, rfl, rfl, trivial⟩)
  have := wT (ro := none) (n := 0) (k := 9) q2 hsuf (by rw [ec]; exact ⟨rfl, rfl⟩ : bS Tryz.prog (fun _ => none) 39 O.toList (O.toList.drop 9) _ _ (fun e' h' => e' = _ /\ h' = aM nl T (aA L))) hs2 (Q := fun x a' w' => x = .normal /\ ∃ L' I' G', (if f + 1 < i then YQ key L f i L' else L' = L) /\ SRel w' I' G' ((38, .pv (.bool false)) :: eM (.func (.yield l) #[] #[]) i f) (aM nl T (aA L')) 39 a' /\ a'.defers = a.defers /\ Z w' I' G' (aM nl T (aA L'))) (fun a w h => nomatch h.1) (by
   rintro _ _ w3 I3 G3 a3 ⟨rfl, rfl⟩ hs3 hd3 ht3
   exact ⟨rfl, L, I3, G3, by rw [if_neg hc], hs3.le (LeE.le ⟨rfl, rfl, rfl, rfl, rfl, rfl, trivial⟩), hd3.trans ((by unfold Act.put; cases o.dst <;> rfl : (a1.put o.dst undef).defers = a1.defers).trans hd1), hZ _ _ _ _ _ _ _ _ hz1 hs2.hh hs3.hh ht3.toN⟩)
  rw [hl2] at this
  exact this
end
end Go.Eng



namespace Go.Eng.Srt
open Go Go.Eng
section
variable (key : Int -> Int)
def d9 (x y : Int) : Bool := decide (key x ≠ 0) && decide (key x < key y)
def qG (x : Int) : List Int -> List Int
 | [] => [x]
 | y :: r => if d9 key x y = true then y :: qG x r else x :: y :: r
def ins (l : List Int) (x : Int) : List Int := (qG key x l.reverse).reverse
def bZ (l : List Int) : List Int := l.foldl (ins key) []
inductive Eqv : List Int -> List Int -> Prop
 | refl (a : List Int) : Eqv a a
 | swap (u v w : List Int) (x y : Int) (hx : key x ≠ 0) (hy : key y ≠ 0) (hxy : key x ≠ key y) (h : Eqv (u ++ y :: x :: v) w) : Eqv (u ++ x :: y :: v) w
def cD : List Int -> Prop
 | x :: y :: r => (key y ≠ 0 -> key x <= key y) /\ cD (y :: r)
 | _ => True
end
variable {key : Int -> Int}
theorem nH {x y : Int} : d9 key x y = true ↔ key x ≠ 0 /\ key x < key y := by simp [d9]
theorem tN {x y : Int} : d9 key x y = false ↔ key x = 0 ∨ key y <= key x := by
 simp only [d9, Bool.and_eq_false_imp, decide_eq_true_eq, decide_eq_false_iff_not]
 constructor
 ·intro h; by_cases h0 : key x = 0
  ·exact .inl h0
  ·exact .inr (by have := h h0; omega)
 ·rintro (h | h) h0
  ·exact absurd h h0
  ·omega
theorem zha {x : Int} : ∀ {B A : List Int}, (∀ y ∈ B, d9 key x y = true) -> (A = [] ∨ ∃ z A', A = z :: A' /\ d9 key x z = false) -> qG key x (B ++ A) = B ++ x :: A
 | [], A, _, h => by
   rcases h with rfl | ⟨z, A', rfl, h⟩
   ·rfl
   ·simp [qG, h]
 | y :: B, A, hB, h => by
   rw [List.cons_append, qG, if_pos (hB y List.mem_cons_self), zha (fun z hz => hB z (List.mem_cons_of_mem _ hz)) h]; rfl
theorem l6 {x : Int} {A B : List Int} (h1 : ∀ y ∈ B, d9 key x y = true) (h2 : A = [] ∨ ∃ A' z, A = A' ++ [z] /\ d9 key x z = false) : ins key (A ++ B) x = A ++ x :: B := by
 unfold ins
 rw [List.reverse_append, zha (fun y hy => h1 y (List.mem_reverse.1 hy)) (h2.elim (fun e => .inl (by rw [e]; rfl)) fun ⟨A', z, e, h⟩ => .inr ⟨z, A'.reverse, by rw [e]; simp, h⟩)]
 simp
theorem zK (l : List Int) (x : Int) : ∃ A B, l = A ++ B /\ (∀ y ∈ B, d9 key x y = true) /\ (A = [] ∨ ∃ A' z, A = A' ++ [z] /\ d9 key x z = false) := by
 have : ∀ r : List Int, ∃ B A, r = B ++ A /\ (∀ y ∈ B, d9 key x y = true) /\ (A = [] ∨ ∃ z A', A = z :: A' /\ d9 key x z = false) := by
  intro r
  induction r with
  | nil => exact ⟨[], [], rfl, (fun y hy => by cases hy), .inl rfl⟩
  | cons y r ih =>
    cases hp : d9 key x y with
    | true =>
      obtain ⟨B, A, e, h1, h2⟩ := ih
      exact ⟨y :: B, A, by rw [e]; rfl, fun z hz => by rcases List.mem_cons.1 hz with rfl | hz; exact hp; exact h1 z hz, h2⟩
    | false => exact ⟨[], y :: r, rfl, (fun y hy => by cases hy), .inr ⟨y, r, rfl, hp⟩⟩
 obtain ⟨B, A, e, h1, h2⟩ := this l.reverse
 refine ⟨A.reverse, B.reverse, by rw [<- List.reverse_append, <- e]; simp, fun y hy => h1 y (List.mem_reverse.1 hy), h2.elim (fun e => .inl (by rw [e]; rfl)) fun ⟨z, A', e, h⟩ => .inr ⟨A'.reverse, z, by rw [e]; simp, h⟩⟩
theorem zhb {l : List Int} {x y : Int} (hx : key x ≠ 0) (hxy : key x < key y) : ins key (ins key l y) x = ins key (ins key l x) y := by
 obtain ⟨B1, B2, rfl, b1, b2⟩ := zK (key := key) l y
 obtain ⟨C1, C2, rfl, c1, c2⟩ := zK (key := key) B1 x
 have px : ∀ z ∈ B2, d9 key x z = true := fun z hz => nH.2 ⟨hx, by have := (nH.1 (b1 z hz)).2; omega⟩
 rw [l6 b1 b2]
 have e1 : C1 ++ C2 ++ y :: B2 = C1 ++ (C2 ++ y :: B2) := by simp
 have e2 : C1 ++ C2 ++ B2 = C1 ++ (C2 ++ B2) := by simp
 rw [e1, l6 (B := C2 ++ y :: B2) (fun z hz => ?_) c2, e2, l6 (B := C2 ++ B2) (fun z hz => ?_) c2]
 ·have e3 : C1 ++ x :: (C2 ++ B2) = (C1 ++ x :: C2) ++ B2 := by simp
  rw [e3, l6 b1 (.inr ?_)]
  ·simp
  ·rcases C2.eq_nil_or_concat with rfl | ⟨D, z, rfl⟩
   ·exact ⟨C1, x, rfl, tN.2 (.inr (by omega))⟩
   ·refine ⟨C1 ++ x :: D, z, by simp, ?_⟩
    rcases b2 with e | ⟨A', z', e, h⟩
    ·simp at e
    ·have : z = z' := by
      have := congrArg List.getLast? e
      simp at this; exact this
     rw [this]; exact h
 ·rcases List.mem_append.1 hz with hz | hz
  ·exact c1 z hz
  ·exact px z hz
 ·rcases List.mem_append.1 hz with hz | hz
  ·exact c1 z hz
  ·rcases List.mem_cons.1 hz with rfl | hz
   ·exact nH.2 ⟨hx, hxy⟩
   ·exact px z hz
theorem zq2 {l : List Int} {x y : Int} (hx : key x ≠ 0) (hy : key y ≠ 0) (hxy : key x ≠ key y) : ins key (ins key l x) y = ins key (ins key l y) x := by
 rcases Int.lt_or_gt_of_ne hxy with h | h
 ·exact (zhb hx h).symm
 ·exact zhb hy h
theorem zL (l : List Int) (x : Int) : bZ key (l ++ [x]) = ins key (bZ key l) x := by simp [bZ]
theorem Eqv.trans {a b c : List Int} (h : Eqv key a b) (k : Eqv key b c) : Eqv key a c := by
 induction h with
 | refl a => exact k
 | swap u v w x y hx hy hxy h ih => exact .swap u v c x y hx hy hxy (ih k)
theorem Eqv.app {a b : List Int} (h : Eqv key a b) (p q : List Int) : Eqv key (p ++ (a ++ q)) (p ++ (b ++ q)) := by
 induction h with
 | refl a => exact .refl _
 | swap u v w x y hx hy hxy h ih =>
   have := Eqv.swap (p ++ u) (v ++ q) _ x y hx hy hxy (by simpa using ih)
   simpa using this
theorem Eqv.symm {a b : List Int} (h : Eqv key a b) : Eqv key b a := by
 induction h with
 | refl a => exact .refl _
 | swap u v w x y hx hy hxy h ih => exact ih.trans (.swap u v _ y x hy hx (Ne.symm hxy) (.refl _))
theorem zq3 {a b : List Int} (h : Eqv key a b) : bZ key a = bZ key b := by
 induction h with
 | refl a => rfl
 | swap u v w x y hx hy hxy h ih =>
   rw [<- ih]
   simp only [bZ, List.foldl_append, List.foldl_cons]
   rw [zq2 hx hy hxy]
theorem Eqv.len {a b : List Int} (h : Eqv key a b) : a.length = b.length := by
 induction h with
 | refl a => rfl
 | swap u v w x y hx hy hxy h ih => rw [<- ih]; simp
theorem Eqv.mem {a b : List Int} (h : Eqv key a b) {z : Int} : z ∈ a ↔ z ∈ b := by
 induction h with
 | refl a => exact Iff.rfl
 | swap u v w x y hx hy hxy h ih => rw [<- ih]; simp only [List.mem_append, List.mem_cons]; exact or_congr_right ⟨fun h => h.elim (fun e => .inr (.inl e)) (fun h => h.elim .inl fun h => .inr (.inr h)), fun h => h.elim (fun e => .inr (.inl e)) (fun h => h.elim .inl fun h => .inr (.inr h))⟩
theorem Eqv.ahead {x : Int} (hx : key x ≠ 0) : ∀ {B : List Int} (q : List Int), (∀ y ∈ B, key y ≠ 0 /\ key y ≠ key x) -> Eqv key (B ++ x :: q) (x :: (B ++ q))
 | [], q, _ => .refl _
 | y :: B, q, h => by
   have h1 := Eqv.ahead hx (B := B) q fun z hz => h z (List.mem_cons_of_mem _ hz)
   have h2 := h1.app [y] []
   simp only [List.append_nil, List.cons_append, List.nil_append] at h2
   obtain ⟨hy, hyx⟩ := h y List.mem_cons_self
   exact h2.trans (.swap [] (B ++ q) _ y x hy hx hyx (.refl _))
theorem zq4 (hk : ∀ x, 0 <= key x) (l : List Int) (x : Int) : Eqv key (l ++ [x]) (ins key l x) := by
 obtain ⟨A, B, rfl, h1, h2⟩ := zK (key := key) l x
 rw [l6 h1 h2]
 by_cases hB : B = []
 ·subst hB; simp; exact .refl _
 ·obtain ⟨y, hy⟩ := List.exists_mem_of_ne_nil B hB
  have hx := (nH.1 (h1 y hy)).1
  have := (Eqv.ahead hx (B := B) [] fun z hz => by have := (nH.1 (h1 z hz)).2; have := hk x; omega).app A []
  simpa using this
theorem kU {p : List Int -> Prop} (h0 : p []) (h1 : ∀ l x, p l -> p (l ++ [x])) (l : List Int) : p l := by
 have : ∀ r : List Int, p r.reverse := by
  intro r
  induction r with
  | nil => exact h0
  | cons x r ih => rw [List.reverse_cons]; exact h1 _ _ ih
 have := this l.reverse
 rwa [List.reverse_reverse] at this
theorem tO (hk : ∀ x, 0 <= key x) (l : List Int) : Eqv key l (bZ key l) := by
 induction l using kU with
 | h0 => exact .refl _
 | h1 l x ih =>
   rw [zL]
   have := ih.app [] [x]
   exact Eqv.trans (by simpa using this) (zq4 hk _ x)
theorem l7 : ∀ {A B : List Int}, cD key (A ++ B) ↔ cD key A /\ cD key B /\ (∀ z x, A.getLast? = some z -> B.head? = some x -> key x ≠ 0 -> key z <= key x)
 | [], B => by simp [cD]
 | [a], [] => by simp [cD]
 | [a], b :: B => by simp [cD, and_comm]
 | a :: c :: A, B => by
   have := l7 (A := c :: A) (B := B)
   simp only [List.cons_append, cD] at this ⊢
   rw [this, List.getLast?_cons_cons, and_assoc]
theorem zq5 {l : List Int} (h : cD key l) : bZ key l = l := by
 revert h
 induction l using kU with
 | h0 => exact fun _ => rfl
 | h1 l x ih =>
   intro h
   obtain ⟨q1, q2, q3⟩ := l7.1 h
   rw [zL, ih q1]
   have := l6 (key := key) (x := x) (A := l) (B := []) (fun y hy => by cases hy) (by
    rcases l.eq_nil_or_concat with rfl | ⟨D, z, rfl⟩
    ·exact .inl rfl
    ·refine .inr ⟨D, z, by simp, tN.2 ?_⟩
     by_cases hx : key x = 0
     ·exact .inl hx
     ·exact .inr (q3 z x (by simp) rfl hx))
   simpa using this
theorem zhc : ∀ {S' S : List Int}, Stab key S S' -> (∀ x ∈ S, key x ≠ 0) -> Eqv key S S'
 | [], S, h, _ => by have := h.len; cases S with | nil => exact .refl _ | cons => simp at this
 | y :: r, S, h, h0 => by
   have hf := h.2 (key y)
   rw [List.filter_cons, if_pos (by simp)] at hf
   obtain ⟨A, B, rfl, hA, hB⟩ := List.filter_eq_cons_iff.1 hf
   have hy : key y ≠ 0 := h0 y (by simp)
   have hA' : ∀ z ∈ A, key z ≠ key y := fun z hz => by have := hA z hz; simpa using this
   have e1 := Eqv.ahead hy (B := A) B fun z hz => ⟨h0 z (by simp [hz]), hA' z hz⟩
   have hs : Stab key (A ++ B) r := by
    refine ⟨(List.perm_cons y).1 ((List.perm_middle.symm).trans h.1), fun c => ?_⟩
    have := h.2 c
    rw [List.filter_append, List.filter_cons, List.filter_cons] at this
    rw [List.filter_append]
    by_cases hc : key y = c
    ·have hn : A.filter (fun x => decide (key x = c)) = [] := List.filter_eq_nil_iff.2 fun z hz => by simp only [decide_eq_true_eq]; intro e; exact hA' z hz (e.trans hc.symm)
     rw [hn] at this ⊢
     simp only [hc, decide_true, if_true, List.nil_append, List.cons.injEq, true_and] at this
     exact this
    ·simp only [hc, decide_false, Bool.false_eq_true, if_false] at this
     exact this
   have e2 := (zhc hs fun z hz => h0 z (by rcases List.mem_append.1 hz with hz | hz <;> simp [hz])).app [y] []
   simp only [List.append_nil, List.cons_append, List.nil_append] at e2
   exact e1.trans e2
theorem zhd : ∀ {S : List Int}, Srtd key S -> cD key S
 | [], _ => trivial
 | [a], _ => trivial
 | a :: b :: S, h => ⟨fun _ => (List.pairwise_cons.1 h).1 b List.mem_cons_self, zhd (List.pairwise_cons.1 h).2⟩
theorem tP (L : List Int) {i j : Nat} (hij : i <= j) (hj : j <= L.length) : L = L.take i ++ ((L.take j).drop i ++ L.drop j) /\ (L.take i).length = i /\ ((L.take j).drop i).length = j - i := by
 refine ⟨?_, by rw [List.length_take]; omega, by rw [List.length_drop, List.length_take]; omega⟩
 have h1 : L = L.take j ++ L.drop j := (List.take_append_drop j L).symm
 have h2 : L.take j = (L.take j).take i ++ (L.take j).drop i := (List.take_append_drop i _).symm
 rw [List.take_take, Nat.min_eq_left hij] at h2
 rw [<- List.append_assoc, <- h2]; exact h1
theorem zq6 (hk : ∀ x, 0 <= key x) {L : List Int} {i j : Nat} (hij : i <= j) (hj : j <= L.length) (hb : i = 0 ∨ key (L.getD (i - 1) 0) = 0) (hnz : ∀ k, i <= k -> k < j -> key (L.getD k 0) ≠ 0) (hend : j = L.length ∨ key (L.getD j 0) = 0)
 (hc : cD key (L.take i)) {S' : List Int} (hs : Srtd key S') (hst : Stab key ((L.take j).drop i) S') :
 Eqv key L (L.take i ++ (S' ++ L.drop j)) /\ cD key ((L.take i ++ (S' ++ L.drop j)).take (j + 1)) /\ (j < L.length -> key ((L.take i ++ (S' ++ L.drop j)).getD j 0) = 0) := by
 obtain ⟨c1, c2, c3⟩ := tP L hij hj
 have hl : S'.length = j - i := by rw [<- hst.len]; exact c3
 refine ⟨?_, ?_, fun hlt => ?_⟩
 ·have hm : ∀ x ∈ (L.take j).drop i, key x ≠ 0 := fun x hx => by
   obtain ⟨k, hk1, hk2⟩ := List.getElem_of_mem hx
   have := hnz (i + k) (by omega) (by omega)
   rw [List.getElem_drop, List.getElem_take] at hk2
   have hl2 : i + k < L.length := by omega
   simp only [List.getD, List.getElem?_eq_getElem hl2, Option.getD_some, hk2] at this
   exact this
  have := (zhc hst hm).app (L.take i) (L.drop j)
  rwa [<- c1] at this
 ·rw [List.take_append, c2, List.take_of_length_le (by omega), List.take_append, hl, List.take_of_length_le (by omega : S'.length <= j + 1 - i), show j + 1 - i - (j - i) = 1 by omega]
  have hR : ∀ x, ((L.drop j).take 1).head? = some x -> key x = 0 := fun x hx => by
   rcases hend with e | e
   ·rw [List.drop_eq_nil_of_le (by omega)] at hx; cases hx
   ·rcases Nat.lt_or_ge j L.length with h' | h'
    ·rw [List.drop_eq_getElem_cons h'] at hx
     simp only [List.take_succ_cons, List.head?_cons, Option.some.injEq] at hx
     rw [<- hx]
     simpa [List.getD, List.getElem?_eq_getElem h'] using e
    ·rw [List.drop_eq_nil_of_le h'] at hx; cases hx
  refine l7.2 ⟨hc, l7.2 ⟨zhd hs, ?_, fun z x _ hx h0 => absurd (hR x hx) h0⟩, fun z x hz hx h0 => ?_⟩
  ·cases L.drop j with
   | nil => trivial
   | cons a r => trivial
  ·have : key z = 0 := by
    rcases hb with rfl | hb
    ·simp at hz
    ·rw [List.getLast?_eq_getElem?, c2] at hz
     by_cases h0 : i = 0
     ·subst h0; simp at hz
     ·rw [List.getElem?_take, if_pos (by omega)] at hz
      simpa [List.getD, hz] using hb
   rw [this]; exact hk x
 ·rcases hend with e | e
  ·omega
  ·rw [<- List.append_assoc]
   simp only [List.getD] at e ⊢
   rw [List.getElem?_append_right (by simp only [List.length_append]; omega), List.length_append, c2, hl, List.getElem?_drop, show j + (j - (i + (j - i))) = j by omega]
   exact e
theorem zq7 {S : List Int} (h : S.length <= 1) : Srtd key S := by
 match S, h with
 | [], _ => exact List.Pairwise.nil
 | [a], _ => exact List.pairwise_singleton _ _
end Go.Eng.Srt



namespace Go.Eng
open Go Go.Proofs Go.Eng.Rows Go.Eng.Srt
section
variable {Z : World -> (Nat -> Prop) -> (Nat -> Pl) -> Hp -> Prop} {key : Int -> Int} {nl : Bool} {T : PV} {l : Nat} {y : Value} {es : List (List PV)}
theorem eI0 (Q : Qt) : dB Tryz.prog (fun _ => none) 5 39 lM (fun _ => none) (dH (cM Tryz.f161)) (fA [.pv (.raw y), .box 4 0, .box 3 0] 0) (aM nl T es) Q = Q .normal (eN y 0) (aM nl T es) := by kernel_rfl
theorem eI1 (i : Int) (Q : Qt) : dB Tryz.prog (fun _ => none) 5 39 lM (fun _ => none) (dH (cL Tryz.f161)) (eN y i) (aM nl T es) Q =
 if decide (i < (es.length : Int)) = true then Q .normal [(0, .pv (.raw y)), (1, .box 4 0), (2, .box 3 0), (4, .pv (.int .i64 i)), (9, .pv (.bool (decide (i < (es.length : Int)))))] (aM nl T es)
 else Q (.exit 0) [(0, .pv (.raw y)), (1, .box 4 0), (2, .box 3 0), (4, .pv (.int .i64 i)), (9, .pv (.bool (decide (i < (es.length : Int)))))] (aM nl T es) := by kernel_rfl
theorem eI3 (i : Int) (Q : Qt) : dB Tryz.prog (fun _ => none) 5 39 lM (fun _ => none) (dH (cB Tryz.f161)) (eN y i) (aM nl T es) Q = Q .normal (eM y i i) (aM nl T es) := by kernel_rfl
theorem eI2 (i : Int) (Q : Qt) : dB Tryz.prog (fun _ => none) 5 39 lM (fun _ => none) (cN (cN (cL Tryz.f161))) (eN y i) (aM nl T es) Q = Q .normal (eN y (i64.wrap (i + 1))) (aM nl T es) := by kernel_rfl
def zM (y : Value) (i f : Int) (b : Bool) : Env := [(0, .pv (.raw y)), (1, .box 4 0), (2, .box 3 0), (4, .pv (.int .i64 i)), (5, .pv (.int .i64 f)), (25, .pv (.bool b))]
theorem eI4 (i f : Int) (J : Int -> Prop) (μ : Int -> Nat) (Q : Qt) : dB Tryz.prog (fun _ => none) 5 39 lM (fun zz_ => match zz_ with | 4 => some ⟨Int × Unit, fun s => (eM y s.1 f, aM nl T es), fun _ s => J s.1, fun s => μ s.1, fun e h => (gI e 4, ()), [], [0, 1, 2, 4, 5], [], fun p => ∀ (x4 : Int), p (x4, ()), fun p h s => h s.1⟩ | _ => none) (dH (cN (cB Tryz.f161))) (eM y i f) (aM nl T es) Q =
 ((SameSt (eM y i f, aM nl T es) (eM y i f, aM nl T es) /\ J i) /\ ∀ (x4 : Int), J x4 -> if decide (x4 < (es.length : Int)) = true then aL es x4 1 /\ ∃ (n : Int), (List.drop 0 (es.getD x4.toNat [])).head? = some (.int .i32 n) /\ PCall Tryz.prog 80 [T, .int .i32 n] fun (v : PV) => ∃ (n1 : Int), v = .int .i64 n1 /\
  if (n1 != (0 : Int)) = true then SameSt (eM y (i64.wrap (x4 + 1)) f, aM nl T es) (eM y (i64.wrap (x4 + 1)) f, aM nl T es) /\ J (i64.wrap (x4 + 1)) /\ μ (i64.wrap (x4 + 1)) < μ x4
  else Q .normal (zM y x4 f (n1 != (0 : Int))) (aM nl T es)
   else Q .normal (zM y x4 f false) (aM nl T es)) := by kernel_rfl
theorem zN : cM Tryz.f161 = .seq (dH (cM Tryz.f161)) (.block 0 (.loop (cL Tryz.f161))) /\
 cL Tryz.f161 = .seq (dH (cL Tryz.f161)) (.seq (.block 1 (cB Tryz.f161)) (cN (cN (cL Tryz.f161)))) /\
 cB Tryz.f161 = .seq (dH (cB Tryz.f161)) (.seq (dH (cN (cB Tryz.f161))) (.seq (dC Tryz.f161) (.cond (.tmp 38) .ret .skip))) := ⟨by kernel_rfl, by kernel_rfl, by kernel_rfl⟩
theorem CodeZ.le {P : Program} {N : Nat} {c : Code} {e e' : Env} {h : Hp} {Q : Qt} (hl : LeE e' e) (hK : CodeZ Z P N c e' h Q) : CodeZ Z P N c e h Q :=
 fun w I G a Qx hs hz hq => hK w I G a Qx (hs.le hl.le) hz hq
theorem zq8 (hk : ∀ x, 0 <= key x) (hT : ∀ r : Int, (-2147483648 <= r /\ r <= 2147483647) -> PCall Tryz.prog 80 [T, .int .i32 r] fun v => v = .int .i64 (key r)) 
 (hZ : ∀ w I G h w' I' G' h', Z w I G h -> HRel w I G h -> HRel w' I' G' h' -> TrN 5 w I G h w' I' G' h' -> Z w' I' G' h') (L0 : List Int) (hY : zJ Z key nl T l L0.length) (hr : R32 L0) (hL : L0.length < 1000000000000) :
 CodeZ Z Tryz.prog 39 (cM Tryz.f161) (fA [.pv (.raw (.func (.yield l) #[] #[])), .box 4 0, .box 3 0] 0) (aM nl T (aA L0)) fun x e h => x = .normal /\ h = aM nl T (aA (bZ key L0)) := by
 obtain ⟨y, hy⟩ : ∃ y : Value, y = .func (.yield l) #[] #[] := ⟨_, rfl⟩
 rw [zN.1, <- hy]
 refine CodeZ.seq (CodeZ.of (n0 := 5) hZ (gE (Eq.mpr (eI0 _) ?_)))
 show CodeZ Z Tryz.prog 39 (.block 0 (.loop (cL Tryz.f161))) (eN y 0) (aM nl T (aA L0)) _
 refine CodeZ.block (CodeZ.loop (σ := Nat × List Int) (fun s => (eN y s.1, aM nl T (aA s.2))) (fun s => s.1 <= L0.length + 1 /\ Eqv key L0 s.2 /\ cD key (s.2.take s.1) /\ (s.1 = 0 ∨ L0.length < s.1 ∨ key (s.2.getD (s.1 - 1) 0) = 0)) (fun s => L0.length + 1 - s.1) (0, L0) (LeE.le ⟨rfl, rfl, rfl, rfl, trivial⟩) rfl ⟨by omega, .refl _, by simp [cD], .inl rfl⟩ ?_)
 rintro ⟨i, L⟩ ⟨hi, hq, hc, hb⟩
 have hlen := hq.len
 have hr' : R32 L := fun x hx => hr x (hq.mem.2 hx)
 dsimp only at hi hq hc hb hlen ⊢
 rw [zN.2.1]
 refine CodeZ.seq (CodeZ.of (n0 := 5) hZ (gE (Eq.mpr (eI1 _ _) ?_)))
 by_cases hlt : i < L.length
 ·rw [if_pos (by simpa using hlt)]
  show CodeZ Z Tryz.prog 39 (.seq (.block 1 (cB Tryz.f161)) (cN (cN (cL Tryz.f161)))) _ _ _
  refine CodeZ.le (e' := eN y i) ⟨rfl, rfl, rfl, rfl, trivial⟩ (CodeZ.seq (CodeZ.block ?_))
  rw [zN.2.2]
  refine CodeZ.seq (CodeZ.of (n0 := 5) hZ (gE (Eq.mpr (eI3 _ _) ?_)))
  show CodeZ Z Tryz.prog 39 (.seq (dH (cN (cB Tryz.f161))) (.seq (dC Tryz.f161) (.cond (.tmp 38) .ret .skip))) (eM y i i) _ _
  refine CodeZ.seq (CodeZ.of (n0 := 5) hZ (gE (Eq.mpr (eI4 _ _ (fun x => ∃ j : Nat, x = j /\ i <= j /\ j <= L.length /\ ∀ k, i <= k -> k < j -> key (L.getD k 0) ≠ 0) (fun x => ((L.length : Int) - x).toNat) _) ?_)))
  refine ⟨⟨rfl, i, rfl, Nat.le_refl _, by omega, fun k h1 h2 => by omega⟩, ?_⟩
  rintro _ ⟨j, rfl, hij, hj, hnz⟩
  -- what follows the row of marks
  have rest : ∀ b, (j = L.length ∨ key (L.getD j 0) = 0) -> CodeZ Z Tryz.prog 39 (.seq (dC Tryz.f161) (.cond (.tmp 38) .ret .skip)) (zM y j i b) (aM nl T (aA L)) fun x e h => match x with
   | .normal => CodeZ Z Tryz.prog 39 (cN (cN (cL Tryz.f161))) e h fun x e h => match x with
     | .normal => ∃ s' : Nat × List Int, (∀ i v, get (eN y s'.1) i = some v -> get e i = some v) /\ h = aM nl T (aA s'.2) /\ (s'.1 <= L0.length + 1 /\ Eqv key L0 s'.2 /\ cD key (s'.2.take s'.1) /\ (s'.1 = 0 ∨ L0.length < s'.1 ∨ key (s'.2.getD (s'.1 - 1) 0) = 0)) /\ L0.length + 1 - s'.1 < L0.length + 1 - i
     | _ => False
   | _ => False := fun b hend => by
   refine CodeZ.le (e' := eM y j i) ⟨rfl, rfl, rfl, rfl, rfl, trivial⟩ (CodeZ.seq ?_)
   rw [hy]
   refine (zq1 hY hZ L i j hij hj hr' (by omega) hlen.symm).mono ?_
   rintro _ _ _ ⟨L', rfl, hL', rfl, rfl⟩
   refine CodeZ.cond (t := false) rfl ?_
   simp only [Bool.false_eq_true, if_false]
   refine CodeZ.skip ?_
   rw [<- hy]
   refine CodeZ.le (e' := eN y j) ⟨rfl, rfl, rfl, rfl, trivial⟩ (CodeZ.of (n0 := 5) hZ (gE (Eq.mpr (eI2 _ _) ?_)))
   have wj : i64.wrap ((j : Int) + 1) = ((j + 1 : Nat) : Int) := by rw [aC (by omega) (by omega)]; omega
   rw [wj]
   have hb' : i = 0 ∨ key (L.getD (i - 1) 0) = 0 := by
    rcases hb with h | h | h
    ·exact .inl h
    ·omega
    ·exact .inr h
   obtain ⟨S', hs, hst, rfl⟩ : ∃ S', Srtd key S' /\ Stab key ((L.take j).drop i) S' /\ L' = L.take i ++ (S' ++ L.drop j) := by
    by_cases h1 : i + 1 < j
    ·rw [if_pos h1] at hL'
     obtain ⟨S', e, h2, h3⟩ := hL'
     exact ⟨S', h2, h3, e⟩
    ·rw [if_neg h1] at hL'
     obtain ⟨c1, c2, c3⟩ := tP L hij hj
     exact ⟨_, zq7 (by omega), Stab.refl _, hL'.trans c1⟩
   obtain ⟨g1, g2, g3⟩ := zq6 hk hij hj hb' hnz hend hc hs hst
   refine ⟨(j + 1, _), LeE.le ⟨rfl, rfl, rfl, rfl, trivial⟩, rfl, ⟨by dsimp only; omega, hq.trans g1, g2, ?_⟩, by dsimp only; omega⟩
   rcases Nat.lt_or_ge j L.length with h | h
   ·exact .inr (.inr (g3 h))
   ·exact .inr (.inl (by dsimp only; omega))
  by_cases hjl : j < L.length
  ·rw [if_pos (by simpa using hjl)]
   refine ⟨bP (enc := fun n => [PV.int .i32 n]) (l := L) (fun _ => rfl) (by omega) (by omega), L.getD j 0, by rw [Int.toNat_natCast, zdj hjl]; rfl, (hT _ (hr' _ (List.mem_of_getElem? (qE hjl)))).mono ?_⟩
   rintro _ rfl
   refine ⟨_, rfl, ?_⟩
   by_cases hz : key (L.getD j 0) = 0
   ·rw [if_neg (by simpa using hz)]
    exact (rest _ (.inr hz)).mono fun x e h hx => by cases x <;> first | exact hx.elim | exact CodeZ.mono hx fun x e h hx => (by cases x <;> first | exact hx | exact hx.elim)
   ·rw [if_pos (by simpa using hz)]
    have wj : i64.wrap ((j : Int) + 1) = ((j + 1 : Nat) : Int) := by rw [aC (by omega) (by omega)]; omega
    rw [wj]
    refine ⟨rfl, ⟨j + 1, rfl, by omega, hjl, fun k h1 h2 => ?_⟩, by omega⟩
    rcases Nat.lt_or_ge k j with h | h
    ·exact hnz k h1 h
    ·have : k = j := by omega
     subst this; exact hz
  ·rw [if_neg (by simpa using hjl)]
   exact (rest _ (.inl (by omega))).mono fun x e h hx => by cases x <;> first | exact hx.elim | exact CodeZ.mono hx fun x e h hx => (by cases x <;> first | exact hx | exact hx.elim)
 ·rw [if_neg (by simpa using hlt)]
  refine ⟨rfl, ?_⟩
  rw [List.take_of_length_le (by omega)] at hc
  rw [zq3 hq, zq5 hc]
end
end Go.Eng



namespace Go.Eng
open Go Go.Proofs Go.Eng.Rows Go.Eng.Srt
section
variable {w w' : World} {I I' : Nat -> Prop} {G G' : Nat -> Pl} {h h' : Hp}
theorem HRel.off (hh : HRel w I G h) {l : Nat} (o : Obj) (hI : ¬ I l) (ho : ¬ aW h G l) : HRel (w.putObj l o) I G h := by
 have hw : ∀ b, b ≠ l -> (w.putObj l o).heap[b]? = w.heap[b]? := fun b hb => World.putObj_heap_other hb
 have hk : Keeps w I (w.putObj l o) I := ⟨fun b hb _ => hw b fun e => hI (e ▸ hb), fun b hb _ => hb⟩
 have blk : ∀ (i : Nat) x, h[i]? = some x -> x.alive (G i) -> (G i).blk ≠ l := fun i x hx ha e => ho ⟨i, x, hx, ha, e⟩
 refine ⟨fun i x hx => ?_, hh.sep, hh.nI, fun b hb => by rw [World.putObj_size]; exact hh.cl b hb⟩
 have := hh.obs i x hx
 cases x with
 | dead => trivial
 | box cs => obtain ⟨vs, ty, e1, e2, e3⟩ := this; exact ⟨vs, ty, by rw [hw _ (blk i _ hx trivial)]; exact e1, e2, fun k v hv => ⟨(e3 k v hv).1.mono hk (.refl _ _), (e3 k v hv).2⟩⟩
 | arr cs => obtain ⟨vs, ty, e1, e2, e3⟩ := this; exact ⟨vs, ty, by rw [hw _ (blk i _ hx trivial)]; exact e1, e2, fun k v hv => ⟨(e3 k v hv).1.mono hk.1 hk.2, (e3 k v hv).2⟩⟩
 | sl ty m n es =>
   cases n with
   | true => exact this
   | false =>
     obtain ⟨e1, e2, e3, e3', e4, e5⟩ := this
     refine ⟨e1, e2, e3, e3', e4, fun hc => ?_⟩
     obtain ⟨vs, f1, f2, f3⟩ := e5 hc
     exact ⟨vs, by rw [hw _ (blk i _ hx ⟨rfl, hc⟩)]; exact f1, f2, fun i' e he k v hv => ⟨(f3 i' e he k v hv).1.mono hk.1 hk.2, (f3 i' e he k v hv).2⟩⟩
 | mp kvs => obtain ⟨es, ck, e1, e2, e3⟩ := this; exact ⟨es, ck, by rw [hw _ (blk i _ hx trivial)]; exact e1, e2, fun k kv hv => ⟨(e3 k kv hv).1.mono hk.1 hk.2, (e3 k kv hv).2.mono hk.1 hk.2⟩⟩
 | iter ty rem cur => exact IterRel.mono this (hw _ (blk i _ hx trivial)) hk
theorem jS (hh : HRel w I G h) {b : Nat} {o : Obj} (ho : w.heap[b]? = some o) (hn : (match o with | .cells .. => true | .map .. => true | .mapIter .. => true | _ => false) = false) : ¬ aW h G b := by
 rintro ⟨i, ob, hi, ha, rfl⟩
 have := hh.obs i ob hi
 cases ob with
 | dead => exact ha
 | box cs => obtain ⟨vs, ty, e1, _⟩ := this; rw [ho] at e1; cases e1; cases hn
 | arr cs => obtain ⟨vs, ty, e1, _⟩ := this; rw [ho] at e1; cases e1; cases hn
 | sl ty m n es =>
   cases n with
   | true => exact absurd ha.1 (by simp)
   | false => obtain ⟨vs, e1, _⟩ := this.2.2.2.2.2 ha.2; rw [ho] at e1; cases e1; cases hn
 | mp kvs => obtain ⟨es, ck, e1, _⟩ := this; rw [ho] at e1; cases e1; cases hn
 | iter ty rem cur => obtain ⟨_, _, _, _, _, _, e1, _⟩ := this; rw [ho] at e1; cases e1; cases hn
theorem Tr.off {own own' : Nat -> Prop} (t : Tr w I own w' I' own') {l : Nat} (hl : w.heap.size <= l) (o : Obj) : Tr w I own (w'.putObj l o) I' own' :=
 ⟨t.os, t.tape, t.output, by rw [World.putObj_size]; exact t.size, fun b hb hn => (World.putObj_heap_other (by omega)).trans (t.keep b hb hn), t.i1, t.i2, t.own2,
  fun a ha => (World.frozen?_of_block (World.putObj_heap_other (by omega))).trans (t.frz a ha), t.drawn⟩
theorem TrN.off {n0 : Nat} (t : TrN n0 w I G h w' I' G' h') {l : Nat} (hl : w.heap.size <= l) (o : Obj) : TrN n0 w I G h (w'.putObj l o) I' G' h' := ⟨t.t.off hl o, t.len, t.stay⟩
theorem qH (hh : HRel w I G h) (t : Tr w I (aW h G) w' I' (aW h' G')) : Keeps w I w' I' :=
 ⟨fun b hb hlt => t.keep b hlt fun ⟨o, ob, h1, h2, e⟩ => hh.nI o ob h1 h2 (e ▸ hb), fun b hb _ => t.i1 b hb⟩
theorem Keeps.trans {w1 w2 : World} {I1 I2 : Nat -> Prop} (h : Keeps w I w1 I1) (hs : w.heap.size <= w1.heap.size) (k : Keeps w1 I1 w2 I2) : Keeps w I w2 I2 :=
 ⟨fun b hb hlt => (k.1 b (h.2 b hb hlt) (Nat.lt_of_lt_of_le hlt hs)).trans (h.1 b hb hlt), fun b hb hlt => k.2 b (h.2 b hb hlt) (Nat.lt_of_lt_of_le hlt hs)⟩
theorem Keeps.off {l : Nat} (hI : ¬ I l) (o : Obj) : Keeps w I (w.putObj l o) I := ⟨fun b hb _ => World.putObj_heap_other fun e => hI (e ▸ hb), fun b hb _ => hb⟩
structure ZR (W0 : World) (I0 : Nat -> Prop) (G0 : Nat -> Pl) (h0 : Hp) (l D : Nat) (rec : Loop) (W : World) (I : Nat -> Prop) (G : Nat -> Pl) (h : Hp) : Prop where
 t : TrN 5 W0 I0 G0 h0 W I G h
 hl : W.heap[l]? = some (.loop rec)
 hD : W.heap[D]? = some (.deferred (some []))
 nl : ¬ I l
 nD : ¬ I D
theorem ZR.step {W0 : World} {I0 : Nat -> Prop} {G0 : Nat -> Pl} {h0 : Hp} {l D : Nat} {rec : Loop} (z : ZR W0 I0 G0 h0 l D rec w I G h) (hh : HRel w I G h) (t : TrN 5 w I G h w' I' G' h') : ZR W0 I0 G0 h0 l D rec w' I' G' h' := by
 have l1 := (Array.getElem?_eq_some_iff.1 z.hl).1
 have l2 := (Array.getElem?_eq_some_iff.1 z.hD).1
 have n1 := jS hh z.hl rfl
 have n2 := jS hh z.hD rfl
 exact ⟨z.t.trans t, (t.t.keep l l1 n1).trans z.hl, (t.t.keep D l2 n2).trans z.hD, fun x => (t.t.i2 l x).elim z.nl (fun x => x.elim n1 fun x => by omega), fun x => (t.t.i2 D x).elim z.nD (fun x => x.elim n2 fun x => by omega)⟩
end
section
variable {key : Int -> Int} {nl : Bool} {T : PV}
theorem zO {G G' : Nat -> Pl} {es es' : List (List PV)} (hl : es.length = es'.length) (hG : ∀ o, o < 5 -> G' o = G o) : Like G G' (aM nl T es) (aM nl T es') := by
 intro o ob ho
 have hlt : o < 5 := (List.getElem?_eq_some_iff.1 ho).1
 refine ⟨?_, fun _ => hG o hlt⟩
 match o, ho with
 | 0, ho => cases ho; exact ⟨_, rfl, trivial⟩
 | 1, ho => cases ho; exact ⟨_, rfl, rfl, rfl, hl⟩
 | 2, ho => cases ho; exact ⟨_, rfl, trivial⟩
 | 3, ho => cases ho; exact ⟨_, rfl, trivial⟩
 | 4, ho => cases ho; exact ⟨_, rfl, trivial⟩
theorem tQ {w w' : World} {I I' : Nat -> Prop} {G G' : Nat -> Pl} {es es' : List (List PV)} (t : TrN 5 w I G (aM nl T es) w' I' G' (aM nl T es')) : ∀ o, o < 5 -> G' o = G o := by
 intro o ho
 have hs := t.stay (Nat.le_refl _)
 match o, ho with
 | 0, _ => exact (hs 0 _ (by omega) rfl rfl).1
 | 1, _ => exact (hs 1 _ (by omega) rfl rfl).1
 | 2, _ => exact (hs 2 _ (by omega) rfl rfl).1
 | 3, _ => exact (hs 3 _ (by omega) rfl rfl).1
 | 4, _ => exact (hs 4 _ (by omega) rfl rfl).1
theorem eA3 (es : List (List PV)) (i f : Int) (K : Env -> Hp -> Prop) : bS Tryz.prog (fun _ => none) 22 (bY (dH (fI (cO Tryz.f121)))).toList (bY (dH (fI (cO Tryz.f121)))).toList (eO f i) (aM nl T es) K = K ((6, .pv (.int .i64 f)) :: eO f i) (aM nl T es) := by kernel_rfl
theorem eA4 (es : List (List PV)) (i f : Int) (K : Env -> Hp -> Prop) : bS Tryz.prog (fun _ => none) 22 (bY (cN (fI (cO Tryz.f121)))).toList (bY (cN (fI (cO Tryz.f121)))).toList ((6, .pv (.int .i64 f)) :: eO f i) (aM nl T es) K = K ((7, .pv (.int .i64 i)) :: (6, .pv (.int .i64 f)) :: eO f i) (aM nl T es) := by kernel_rfl
theorem eA5 (es : List (List PV)) (i f : Int) (K : Env -> Hp -> Prop) : bS Tryz.prog wR 22 (bY (iB (fJ (cO Tryz.f121)))).toList (bY (iB (fJ (cO Tryz.f121)))).toList ((7, .pv (.int .i64 i)) :: (6, .pv (.int .i64 f)) :: eO f i) (aM nl T es) K =
 (c6 es.length (some f) (some i) none /\ ACall Tryz.prog 144 [.sub 0 f.toNat i.toNat, .fn 145 [.box 1 0]] [.sl (21, 1) false nl es, .box [.pv T]] fun (r : LV) (h' : Hp) => ∃ (t : List (List PV)), (r = .tup [] /\ h' = [.sl (21, 1) false nl t, .box [.pv T]]) /\
  (True /\ (((21, 1) : Nat × Nat) = (21, 1) /\ nl = nl /\ es.length = t.length) /\ True) /\ K ((20, .tup []) :: (19, .fn 145 [.box 0 0]) :: (18, .sub 1 f.toNat i.toNat) :: (17, .pv (.int .i64 i)) :: (16, .pv (.int .i64 f)) :: (15, .own 1) :: (7, .pv (.int .i64 i)) :: (6, .pv (.int .i64 f)) :: eO f i) (aM nl T t)) := by kernel_rfl
theorem zhe : fI (cO Tryz.f121) = .seq (.region 3 (bY (dH (fI (cO Tryz.f121)))) false) (.region 4 (bY (cN (fI (cO Tryz.f121)))) false) /\ fJ (cO Tryz.f121) = .block 1 (.region 5 (bY (iB (fJ (cO Tryz.f121)))) false) /\
 cO Tryz.f121 = .rangeFunc (.tmp 12) #[13, 14] (fI (cO Tryz.f121)) (fJ (cO Tryz.f121)) /\ iQ (bY (dH (fI (cO Tryz.f121)))).toList = true /\ iQ (bY (cN (fI (cO Tryz.f121)))).toList = true /\ iQ (bY (iB (fJ (cO Tryz.f121)))).toList = true :=
 ⟨by kernel_rfl, by kernel_rfl, by kernel_rfl, by kernel_rfl, by kernel_rfl, by kernel_rfl⟩
theorem zq9 (hc : iU T key) {W0 : World} {I0 : Nat -> Prop} {G0 : Nat -> Pl} {L0 : List Int} {a : Act} {v12 : LV} (hs0 : SRel W0 I0 G0 [(2, .box 0 0), (5, .box 2 0), (12, v12)] (aM nl T (aA L0)) 22 a) (rec : Loop)
 (r1 : rec.state = .ready) (r2 : rec.pending = none) (r3 : rec.tmps = a.tmps) (r4 : rec.params = #[13, 14]) (r5 : rec.assign = fI (cO Tryz.f121)) (r6 : rec.body = fJ (cO Tryz.f121)) :
 zJ (ZR W0 I0 G0 (aM nl T (aA L0)) (W0.heap.size + 1) W0.heap.size rec) key nl T (W0.heap.size + 1) L0.length := by
 intro w I G L f i hh hz hfi hil hr hLn hN
 obtain ⟨l, hl⟩ : ∃ l, l = W0.heap.size + 1 := ⟨_, rfl⟩
 have hWl : W0.heap.size <= l := by omega
 rw [<- hl] at hz ⊢
 refine ⟨_, _, _, _, run_yield (P := Tryz.prog) hz.hl (by rw [r4]; rfl), roundIn_of_wpIn trivial ?_⟩
 have hlt := (Array.getElem?_eq_some_iff.1 hz.hl).1
 have hel : ∀ L' : List Int, L'.length = L.length -> (aA L0).length = (aA L').length := fun L' h => by simp [hN, h]
 have hs : SRel w I G (eO f i) (aM nl T (aA L)) 22 { tmps := (a.tmps.setIfInBounds 13 (.int .i64 f)).setIfInBounds 14 (.int .i64 i), defers := [] } := by
  have h1 := hs0.he.mono (qH hs0.hh hz.t.t) (zO (hel L rfl) (tQ hz.t))
  have h2 := h1.set (d := 13) (v := .pv (.int .i64 f)) (by rw [hs0.hn]; omega) (.pv _ _ (.int .i64 f)) (fun _ _ _ e => by cases e)
  have h3 := h2.set (d := 14) (v := .pv (.int .i64 i)) (by simp [hs0.hn]) (.pv _ _ (.int .i64 i)) (fun _ _ _ e => by cases e)
  exact ⟨hh, fun k v hk => h3 k v ((LeE.le (e' := eO f i) ⟨rfl, rfl, rfl, rfl, trivial⟩) k v hk), by simp [hs0.hn]⟩
 obtain ⟨q1, q2, q3, q4, q5, q6⟩ := zhe
 rw [r5, q1, r4, r3]
 have hfold : ∀ x y : Value, (((#[13, 14] : Array Tmp).zip #[x, y]).foldl (fun tmps (t, a) => tmps.setIfInBounds t a) a.tmps) = (a.tmps.setIfInBounds 13 x).setIfInBounds 14 y := fun x y => by simp
 rw [hfold]
 refine wpIn_seq ?_
 show Code.wpIn (wd (some l)) 0 Tryz.prog _ (Exit.then (Code.wpIn (wd (some l)) 0 Tryz.prog _ _) _) { tmps := (a.tmps.setIfInBounds 13 (.int .i64 f)).setIfInBounds 14 (.int .i64 i), defers := [] } w
 refine wS q4 (by rw [eA3]; exact ⟨rfl, rfl⟩ : bS Tryz.prog (fun _ => none) 22 _ _ _ _ (fun e' h' => e' = _ /\ h' = _)) hs ?_ ?_
 ·exact fun a w h => h
 rintro _ _ w1 I1 G1 a1 ⟨rfl, rfl⟩ hs1 hd1 ht1
 refine wS q5 (by rw [eA4]; exact ⟨rfl, rfl⟩ : bS Tryz.prog (fun _ => none) 22 _ _ _ _ (fun e' h' => e' = _ /\ h' = _)) hs1 ?_ ?_
 ·exact fun a w h => h
 rintro _ _ w2 I2 G2 a2 ⟨rfl, rfl⟩ hs2 hd2 ht2
 have z1 := hz.step hh ht1.toN
 have z2 := z1.step hs1.hh ht2.toN
 refine ⟨_, run_beginRound z2.hl r1, ?_⟩
 have n2 := jS hs2.hh z2.hl rfl
 have l2 := (Array.getElem?_eq_some_iff.1 z2.hl).1
 have hs3 : SRel (w2.putObj l (.loop { rec with state := .busy })) I2 G2 _ _ 22 a2 := ⟨hs2.hh.off _ z2.nl n2, hs2.he.mono (Keeps.off z2.nl _) (.refl _ _), hs2.hn⟩
 have hp3 : (w2.putObj l (.loop { rec with state := .busy })).heap[l]? = some (.loop { rec with state := .busy }) := World.putObj_heap_same l2
 have hb : ∀ {c : Code} {Q a w}, c = fJ (cO Tryz.f121) -> Code.wpIn (wd (some l)) 0 Tryz.prog (.block 1 (.region 5 (bY (iB (fJ (cO Tryz.f121)))) false)) Q a w -> Code.wpIn (wd (some l)) 0 Tryz.prog c Q a w := fun e h => by rw [e, q2]; exact h
 refine hb r6 ?_
 have h5 : bS Tryz.prog wR 22 (bY (iB (fJ (cO Tryz.f121)))).toList (bY (iB (fJ (cO Tryz.f121)))).toList ((7, .pv (.int .i64 i)) :: (6, .pv (.int .i64 f)) :: eO f i) (aM nl T (aA L)) (fun _ h' => ∃ L', YQ key L f i L' /\ h' = aM nl T (aA L')) := by
  rw [eA5, Int.toNat_natCast, Int.toNat_natCast]
  obtain ⟨c1, c2, c3⟩ := tP L (show f <= i by omega) hil
  have e : aA L = aA (L.take f ++ ((L.take i).drop f ++ L.drop i)) := congrArg aA c1
  refine ⟨⟨by simp, by simp; omega, by simp; omega, trivial⟩, ?_⟩
  rw [e]
  refine (zqw hc f i nl (L.take f) ((L.take i).drop f) (L.drop i) c2 (by omega) (by rw [<- c1]; exact hr) (by omega)).mono ?_
  rintro r h' ⟨S', rfl, rfl, s1, k1⟩
  refine ⟨_, ⟨rfl, rfl⟩, ⟨trivial, ⟨rfl, rfl, ?_⟩, trivial⟩, _, ⟨S', rfl, s1, k1⟩, rfl⟩
  have := k1.len
  simp only [aS, List.length_append]; omega
 refine wpIn_block ?_
 show Code.wpIn (wd (some l)) 0 Tryz.prog _ _ _ _
 refine wS (H := wR) (ro := some l) (n := 0) (id := 5) q6 h5 hs3 ?_ ?_
 ·exact fun a w h => h
 rintro e4 _ w4 I4 G4 a4 ⟨L', hYQ, rfl⟩ hs4 hd4 ht4
 have n3 := jS hs3.hh hp3 rfl
 have hl4 : w4.heap[l]? = some (.loop { rec with state := .busy }) := (ht4.t.keep l (by rw [World.putObj_size]; exact l2) n3).trans hp3
 have l4 := (Array.getElem?_eq_some_iff.1 hl4).1
 have nI4 : ∀ b, ¬ I2 b -> ¬ aW (aM nl T (aA L)) G2 b -> b < w2.heap.size -> ¬ I4 b := fun b x y z h => (ht4.t.i2 b h).elim x fun h => h.elim y fun h => by rw [World.putObj_size] at h; omega
 have nl4 := nI4 l z2.nl n2 l2
 have hDne : W0.heap.size ≠ l := by omega
 have nD2 := jS hs2.hh z2.hD rfl
 have lD := (Array.getElem?_eq_some_iff.1 z2.hD).1
 have hrec : ({ { rec with state := .busy } with state := if (none : Option Code).isNone then .ready else .done, pending := none } : Loop) = rec := by
  cases rec; simp only at r1 r2; subst r1; subst r2; rfl
 have hrun := run_endRound (P := Tryz.prog) none hl4
 rw [hrec] at hrun
 have hLL : L'.length = L.length := by
  obtain ⟨S', rfl, s1, k1⟩ := hYQ
  obtain ⟨c1, c2, c3⟩ := tP L (show f <= i by omega) hil
  have := k1.len
  rw [List.length_append, List.length_append, c2, <- this, c3, List.length_drop]; omega
 have tB : TrN 5 W0 I0 G0 (aM nl T (aA L0)) (w4.putObj l (.loop rec)) I4 G4 (aM nl T (aA L')) := ((z2.t.off hWl _).trans ht4.toN).off hWl _
 refine ⟨_, _, hrun, rfl, L', I4, G4, hYQ, hs4.hh.off _ nl4 (jS hs4.hh hl4 rfl), ?_, zO (by simp [hLL]) (fun o ho => (tQ tB o ho).trans (tQ hz.t o ho).symm), ⟨tB, World.putObj_heap_same l4, ?_, nl4, nI4 _ z2.nD nD2 lD⟩⟩
 ·have k1 := (qH hh ht1.t).trans ht1.t.size (qH hs1.hh ht2.t)
  have s2 := Nat.le_trans ht1.t.size ht2.t.size
  have k2 := (k1.trans s2 (Keeps.off z2.nl (.loop { rec with state := .busy }))).trans (by rw [World.putObj_size]; exact s2) (qH hs3.hh ht4.t)
  exact k2.trans (by have := ht4.t.size; rw [World.putObj_size] at this; omega) (Keeps.off nl4 _)
 ·rw [World.putObj_heap_other hDne]
  exact (ht4.t.keep _ (by rw [World.putObj_size]; exact lD) (jS hs3.hh ((World.putObj_heap_other hDne).trans z2.hD) rfl)).trans ((World.putObj_heap_other hDne).trans z2.hD)
end
end Go.Eng



namespace Go.Eng
open Go Go.Proofs
def zhf (nl fl : Bool) (es : LL) (R : LV -> Hp -> Prop) : Prop :=
 if (bif true then nl else !nl) = true then R (LV.pv (PV.sl true true [])) [] else j7 true [] es 1 4 /\ R (LV.own 0) [Ob.sl (21, 1) false false ([] ++ es)]
theorem zra (nl fl : Bool) (es : LL) {R : LV -> Hp -> Prop} (h : zhf nl fl es R) : ACall Tryz.prog 63 [.pv (.sl nl fl es)] [] R :=
 ACall.ofA Tryz.func63 (by kernel_rfl) (by kernel_rfl) (zl (by kernel_rfl)) (Eq.mpr (by kernel_rfl : m7 Tryz.prog (fun _ => none) Tryz.f63 [0, 2, 4] (fun _ => none) (Tryz.f63.body.getD .skip) [.pv (.sl nl fl es)] [] R = _) h)

def zrb (nl : Bool) (ts : List PV) (es : LL) (R : LV -> Hp -> Prop) : Prop :=
 R (LV.fn 161 [LV.box 2 0, LV.box 1 0]) [Ob.sl (21, 1) false nl es, Ob.box [LV.pv (PV.ptr ts)], Ob.box [LV.own 0]]
theorem zrc (nl : Bool) (ts : List PV) (es : LL) {R : LV -> Hp -> Prop} (h : zrb nl ts es R) : ACall Tryz.prog 143 [.pv (.ptr ts), .own 0] [.sl (21, 1) false nl es] R :=
 ACall.of Tryz.func143 (by kernel_rfl) (by kernel_rfl) (zl (by kernel_rfl)) (Eq.mpr (by kernel_rfl : dR Tryz.prog (fun _ => none) Tryz.f143 [0, 1, 2, 3, 4] (fun _ => none) [0, 1, 2] (Tryz.f143.body.getD .skip) [.pv (.ptr ts), .own 0] [.sl (21, 1) false nl es] R = _) h)

end Go.Eng



namespace Go.Eng
open Go Go.Proofs Go.Eng.Rows Go.Eng.Srt
theorem ACall.nilOwn {P : Program} {f : Nat} {args : List LV} {Q Q' : LV -> Hp -> Prop} {ty : Nat × Nat} (hc : ACall P f args [] Q) (hq : ∀ r h', Q r h' -> Q' r h' ∨ ∃ fl, r = .pv (.sl true fl []) /\ h' = [] /\ Q' (.own 0) [.sl ty false true []]) : ACall P f args [] Q' :=
 ⟨hc.1, fun w I G cargs h1 h2 h3 => (hc.2 w I G cargs h1 h2 h3).mono fun e w' ⟨cv, r, h', I', G', e1, e2, e3, e4, e5⟩ => (hq r h' e2).elim (fun q => ⟨cv, r, h', I', G', e1, q, e3, e4, e5⟩) fun ⟨fl, hr, hh, q⟩ => by
  subst hr; subst hh
  have hcv : cv = .slice none 0 0 := by cases e4 with | pv _ _ h => cases h; rfl
  subst hcv
  have one : ∀ {o : Nat} {ob : Ob}, [Ob.sl ty false true []][o]? = some ob -> ob = .sl ty false true [] := fun {o ob} h => by
   cases o with
   | zero => cases h; rfl
   | succ o => simp at h
  have dead : ∀ {p : Pl}, ¬ (Ob.sl ty false true []).alive p := fun h => by cases h.1
  have noB : ∀ b, ¬ aW [Ob.sl ty false true []] G' b := fun b ⟨o, ob, ho, ha, _⟩ => by rw [one ho] at ha; exact dead ha
  refine ⟨_, .own 0, [.sl ty false true []], I', G', e1, q, ⟨fun o ob ho => by rw [one ho]; rfl, fun o o' ob ob' ho ha => by rw [one ho] at ha; exact (dead ha).elim, fun o ob ho ha => by rw [one ho] at ha; exact (dead ha).elim, e3.cl⟩, .ownNil 0 ty false [] rfl, ?_, by simp, fun o ob' ho => by simp at ho⟩
  have t := e5.t
  exact ⟨t.os, t.tape, t.output, t.size, t.keep, t.i1, t.i2, fun b hb => (noB b hb).elim, t.frz, t.drawn⟩⟩
theorem zhg (nl fl : Bool) (es : List (List PV)) (hn : nl = true -> es = []) (ha : j7 true [] es 1 4) : ACall Tryz.prog 63 [.pv (.sl nl fl es)] [] fun r h' => r = .own 0 /\ h' = [.sl (21, 1) false nl es] := by
 refine ACall.nilOwn (ty := (21, 1)) (Q := fun r h' => (nl = true /\ r = .pv (.sl true true []) /\ h' = []) ∨ (nl = false /\ r = .own 0 /\ h' = [.sl (21, 1) false nl es])) (zra nl fl es ?_) ?_
 ·unfold zhf
  cases nl with
  | true => exact .inl ⟨rfl, rfl, rfl⟩
  | false => exact ⟨ha, .inr ⟨rfl, rfl, by simp⟩⟩
 ·rintro r h' (⟨rfl, rfl, rfl⟩ | ⟨rfl, rfl, rfl⟩)
  ·rw [hn rfl]; exact .inr ⟨true, rfl, rfl, rfl, rfl⟩
  ·exact .inl ⟨rfl, rfl⟩
theorem tR {P : Program} {n0 N : Nat} {c : Code} {e E : Env} {h Hh : Hp} (hS : CodeS P n0 N c e h fun x e' h' => x = .normal /\ e' = E /\ h' = Hh) {w : World} {I : Nat -> Prop} {G : Nat -> Pl} {a : Act} (hs : SRel w I G e h N a) {Q : Exit -> Act -> World -> Prop}
 (hq : ∀ w' I' G' a', SRel w' I' G' E Hh N a' -> a'.defers = a.defers -> TrN n0 w I G h w' I' G' Hh -> Q .normal a' w') : c.wp P Q a w :=
 hS w I G a Q hs fun x e' h' w' I' G' a' hk hs' hd ht => by obtain ⟨rfl, rfl, rfl⟩ := hk; exact hq w' I' G' a' hs' hd ht
section
variable {nl fl : Bool} {ts : List PV} {es : List (List PV)}
theorem eB0 (Q : Qt) : dB Tryz.prog (fun _ => none) 0 22 [1, 2, 4] (fun _ => none) (cO0 Tryz.f121) (fA [.pv (.ptr ts), .pv (.sl nl fl es)] 0) [] Q = Q .normal [(1, .pv (.sl nl fl es)), (2, .box 0 0), (4, .pv (.sl true true []))] [.box [.pv (.ptr ts)]] := by kernel_rfl
theorem eB1 (Q : Qt) : dB Tryz.prog zdw 0 22 [2, 5] (fun _ => none) (cO1 Tryz.f121) [(1, .pv (.sl nl fl es)), (2, .box 0 0)] [.box [.pv (.ptr ts)]] Q =
 ACall Tryz.prog 63 [.pv (.sl nl fl es)] [] fun (r : LV) (h' : Hp) => ∃ (_ : Unit), (r = .own 0 /\ h' = [.sl (21, 1) false nl es]) /\ True /\ Q .normal [(2, .box 0 0), (5, .box 2 0)] [.box [.pv (.ptr ts)], .sl (21, 1) false nl es, .box [.own 1]] := by kernel_rfl
theorem eB2 (Q : Qt) : dB Tryz.prog zdw 0 22 [2, 5, 12] (fun _ => none) (cO2 Tryz.f121) [(2, .box 0 0), (5, .box 2 0)] [.box [.pv (.ptr ts)], .sl (21, 1) false nl es, .box [.own 1]] Q =
 ACall Tryz.prog 143 [.pv (.ptr ts), .own 0] [.sl (21, 1) false nl es] fun (r : LV) (h' : Hp) => ∃ (_ : Unit), (r = .fn 161 [.box 2 0, .box 1 0] /\ h' = [.sl (21, 1) false nl es, .box [.pv (.ptr ts)], .box [.own 0]]) /\
  ((((21, 1) : Nat × Nat) = (21, 1) /\ nl = nl /\ es.length = es.length) /\ True) /\ Q .normal [(2, .box 0 0), (5, .box 2 0), (12, .fn 161 [.box 4 0, .box 3 0])] (aM nl (.ptr ts) es) := by kernel_rfl
theorem eB6 (Q : Qt) : dB Tryz.prog (fun _ => none) 5 22 [4] (fun _ => none) (cO6 Tryz.f121) [(2, .box 0 0), (5, .box 2 0)] (aM nl (.ptr ts) es) Q = Q .normal [(4, .own 1)] (aM nl (.ptr ts) es) := by kernel_rfl
theorem zP : cM Tryz.f121 = .seq (cO0 Tryz.f121) (.seq (cO1 Tryz.f121) (.seq (.seq (cO2 Tryz.f121) (.block 0 (cO Tryz.f121))) (.seq (cO6 Tryz.f121) .ret))) /\ Tryz.f121.body = some (cM Tryz.f121) /\ Tryz.f121.ntmps = 22 /\
 Tryz.f161.body = some (cM Tryz.f161) /\ Tryz.f161.ntmps = 39 /\ Tryz.f121.results = #[.tmp 4] /\ Tryz.f161.results = #[] /\ Tryz.f121.body.isNone = false /\ (Tryz.f121.name == "runtime.NumGoroutine") = false /\ Tryz.f161.body.isNone = false /\ (Tryz.f161.name == "runtime.NumGoroutine") = false :=
 ⟨by kernel_rfl, by kernel_rfl, by kernel_rfl, by kernel_rfl, by kernel_rfl, by kernel_rfl, by kernel_rfl, by kernel_rfl, by kernel_rfl, by kernel_rfl, by kernel_rfl⟩
variable {key : Int -> Int}
theorem Tr.alloc0 {w : World} {I own : Nat -> Prop} (o : Obj) : Tr w I own (w.alloc o) I own :=
 ⟨rfl, rfl, rfl, by simp, fun b hb _ => cS w o hb, fun _ h => h, fun _ h => .inl h, fun _ h => .inl h, fun a ha => World.frozen?_of_block (cS w o ha), Nat.le_refl _⟩
theorem KA.alloc0 (w : World) (o : Obj) : KA w (w.alloc o) := ⟨by simp, fun b hb => cS w o hb⟩
theorem zrd (hk : ∀ x, 0 <= key x) (hT : ∀ r : Int, (-2147483648 <= r /\ r <= 2147483647) -> PCall Tryz.prog 80 [.ptr ts, .int .i32 r] fun v => v = .int .i64 (key r)) (hc : iU (.ptr ts) key) (L : List Int) (hr : R32 L) (hL : L.length < 1000000000000)
 {w3 : World} {I3 : Nat -> Prop} {G3 : Nat -> Pl} {a3 : Act} {v12 : LV} (hs3 : SRel w3 I3 G3 [(2, .box 0 0), (5, .box 2 0), (12, v12)] (aM nl (.ptr ts) (aA L)) 22 a3) (rec : Loop) (r1 : rec.state = .ready) (r2 : rec.pending = none) (r3 : rec.tmps = a3.tmps) (r4 : rec.params = #[13, 14])
 (r5 : rec.assign = fI (cO Tryz.f121)) (r6 : rec.body = fJ (cO Tryz.f121)) (vs : Array Value) (hvsz : vs.size = 2) (hvs : ∀ (k : Nat) v, [LV.box 4 0, LV.box 3 0][k]? = some v -> LRel w3 I3 G3 (aM nl (.ptr ts) (aA L)) v (vs.getD k undef)) :
 Calls Tryz.prog 161 (#[Value.func (.yield (w3.heap.size + 1)) #[] #[]] ++ vs) ((w3.alloc (.deferred (some []))).alloc (.loop rec)) fun e w4 => (∃ v, e = .returned v) /\ ∃ I4 G4, HRel w4 I4 G4 (aM nl (.ptr ts) (aA (bZ key L))) /\
  ZR w3 I3 G3 (aM nl (.ptr ts) (aA L)) (w3.heap.size + 1) w3.heap.size rec w4 I4 G4 (aM nl (.ptr ts) (aA (bZ key L))) := by
 obtain ⟨k1, k2, k3, k4, k5, k6, k7, k8, k9, k10, k11⟩ := zP
 obtain ⟨W1, hW1⟩ : ∃ W1, W1 = (w3.alloc (.deferred (some []))).alloc (.loop rec) := ⟨_, rfl⟩
 rw [<- hW1]
 have tA : Tr w3 I3 (aW (aM nl (.ptr ts) (aA L)) G3) W1 I3 (aW (aM nl (.ptr ts) (aA L)) G3) := by rw [hW1]; exact (Tr.alloc0 _).trans (Tr.alloc0 _)
 have ka : KA w3 W1 := by rw [hW1]; exact (KA.alloc0 _ _).trans (KA.alloc0 _ _)
 have hl1 : W1.heap[w3.heap.size + 1]? = some (.loop rec) := by rw [hW1]; have := World.alloc_heap_new (w3.alloc (.deferred (some []))) (.loop rec); rwa [World.size_alloc] at this
 have hD1 : W1.heap[w3.heap.size]? = some (.deferred (some [])) := by rw [hW1]; exact (cS _ _ (by simp)).trans (World.alloc_heap_new w3 _)
 have z1 : ZR w3 I3 G3 (aM nl (.ptr ts) (aA L)) (w3.heap.size + 1) w3.heap.size rec W1 I3 G3 (aM nl (.ptr ts) (aA L)) := ⟨(TrH.same tA).toN, hl1, hD1, fun h => by have := hs3.hh.cl _ h; omega, fun h => by have := hs3.hh.cl _ h; omega⟩
 have hRd := zq9 hc hs3 rec r1 r2 r3 r4 r5 r6
 have hwalk := zq8 hk hT (fun w I G h w' I' G' h' z hh _ t => z.step hh t) L hRd hr hL
 have hsW : SRel W1 I3 G3 (fA [.pv (.raw (Value.func (.yield (w3.heap.size + 1)) #[] #[])), .box 4 0, .box 3 0] 0) (aM nl (.ptr ts) (aA L)) 39 { tmps := (#[Value.func (.yield (w3.heap.size + 1)) #[] #[]] ++ vs) ++ Array.replicate (39 - (#[Value.func (.yield (w3.heap.size + 1)) #[] #[]] ++ vs).size) undef, defers := [] } := by
  obtain ⟨y, hy⟩ : ∃ y, y = Value.func (.yield (w3.heap.size + 1)) #[] #[] := ⟨_, rfl⟩
  rw [<- hy]
  obtain ⟨x0, x1, rfl⟩ : ∃ x0 x1, vs = #[x0, x1] := by
   obtain ⟨l⟩ := vs
   match l, hvsz with
   | [a, b], _ => exact ⟨a, b, rfl⟩
  have hk : Keeps w3 I3 W1 I3 := ⟨fun b _ hb => ka.2 b hb, fun b hb _ => hb⟩
  have h1 := (hvs 0 _ rfl).mono hk (.refl _ _)
  have h2 := (hvs 1 _ rfl).mono hk (.refl _ _)
  have e0 : ∀ r : Array Value, (#[y] ++ #[x0, x1] ++ r).getD 0 undef = y := fun r => by rw [Array.getD_eq_getD_getElem?, Array.getElem?_append_left (by simp)]; rfl
  have e1 : ∀ r : Array Value, (#[y] ++ #[x0, x1] ++ r).getD 1 undef = x0 := fun r => by rw [Array.getD_eq_getD_getElem?, Array.getElem?_append_left (by simp)]; rfl
  have e2 : ∀ r : Array Value, (#[y] ++ #[x0, x1] ++ r).getD 2 undef = x1 := fun r => by rw [Array.getD_eq_getD_getElem?, Array.getElem?_append_left (by simp)]; rfl
  refine ⟨hs3.hh.ka ka, ?_, by simp⟩
  have he : ERel W1 I3 G3 (aM nl (.ptr ts) (aA L)) [(0, .pv (.raw y)), (1, .box 4 0), (2, .box 3 0)] (#[y] ++ #[x0, x1] ++ Array.replicate (39 - (#[y] ++ #[x0, x1]).size) undef) :=
   ((ERel.nil _ _ _ _ _).cons (s := 2) (v := .box 3 0) (by rw [e2]; exact h2)).cons (s := 1) (v := .box 4 0) (by rw [e1]; exact h1) |>.cons (s := 0) (v := .pv (.raw y)) (by rw [e0]; exact .pv _ _ (.raw _))
  exact he
 refine calls_of_wp Tryz.func161 k4 ?_
 rw [k5]
 refine hwalk W1 I3 G3 _ _ hsW z1 ?_
 rintro x e' _ w4 I4 G4 a4 ⟨rfl, rfl⟩ hs4 hd4 z4
 exact ⟨hd4, _, results_none k7 _ _ _, ⟨_, rfl⟩, I4, G4, hs4.hh, z4⟩
theorem zre (hk : ∀ x, 0 <= key x) (L : List Int) {w w3 w4 : World} {I I3 I4 : Nat -> Prop} {G G3 G4 : Nat -> Pl} {a3 : Act} {v12 : LV} (hs3 : SRel w3 I3 G3 [(2, .box 0 0), (5, .box 2 0), (12, v12)] (aM nl (.ptr ts) (aA L)) 22 a3) (hd30 : a3.defers = []) {rec : Loop}
 (ht3 : Tr w I (aW [] G) w3 I3 (aW (aM nl (.ptr ts) (aA L)) G3)) (hh4 : HRel w4 I4 G4 (aM nl (.ptr ts) (aA (bZ key L)))) (z4 : ZR w3 I3 G3 (aM nl (.ptr ts) (aA L)) (w3.heap.size + 1) w3.heap.size rec w4 I4 G4 (aM nl (.ptr ts) (aA (bZ key L)))) :
 (Code.seq (cO6 Tryz.f121) .ret).wp Tryz.prog (bodyPostM Fence.wide 0 Tryz.prog Tryz.f121 fun e w' => ∃ cv r h' I' G', e = .returned cv /\ (r = .own 0 /\ h' = [.sl (21, 1) false nl (aA (bZ key L))]) /\ HRel w' I' G' h' /\ LRel w' I' G' h' r cv /\ TrH w I G [] w' I' G' h')
  { tmps := a3.tmps, defers := [{ target := .collected w3.heap.size, args := #[] }] ++ a3.defers } (w4.putObj (w3.heap.size + 1) (.loop { rec with state := .exhausted })) := by
 obtain ⟨k1, k2, k3, k4, k5, k6, k7, k8, k9, k10, k11⟩ := zP
 have hll := (tO (key := key) hk L).len
 have n4 := jS hh4 z4.hl rfl
 have l4 := (Array.getElem?_eq_some_iff.1 z4.hl).1
 have z5 : ZR w3 I3 G3 (aM nl (.ptr ts) (aA L)) (w3.heap.size + 1) w3.heap.size { rec with state := .exhausted } (w4.putObj (w3.heap.size + 1) (.loop { rec with state := .exhausted })) I4 G4 (aM nl (.ptr ts) (aA (bZ key L))) :=
  ⟨z4.t.off (by omega) _, World.putObj_heap_same l4, (World.putObj_heap_other (by omega)).trans z4.hD, z4.nl, z4.nD⟩
 have hs5 : SRel (w4.putObj (w3.heap.size + 1) (.loop { rec with state := .exhausted })) I4 G4 [(2, .box 0 0), (5, .box 2 0)] (aM nl (.ptr ts) (aA (bZ key L))) 22 { tmps := a3.tmps, defers := [{ target := .collected w3.heap.size, args := #[] }] ++ a3.defers } :=
  ⟨hh4.off _ z4.nl n4, fun i v hi => ((hs3.he.mono (qH hs3.hh z4.t.t) (zO (by simp [hll]) (tQ z4.t))).mono (Keeps.off z4.nl _) (.refl _ _)) i v ((LeE.le (e' := [(2, .box 0 0), (5, .box 2 0)]) ⟨rfl, rfl, trivial⟩) i v hi), hs3.hn⟩
 refine wp_seq (tR (E := [(4, .own 1)]) (Hh := aM nl (.ptr ts) (aA (bZ key L))) (gE (Eq.mpr (eB6 _) ⟨rfl, rfl, rfl⟩)) hs5 fun w6 I6 G6 a6 hs6 hd6 ht6 => ?_)
 have z6 := z5.step hs5.hh ht6
 refine wp_ret ?_
 show LeavesInM Fence.wide 0 Tryz.prog _ a6.tmps _ a6.defers .returning w6
 rw [hd6, hd30]
 refine ⟨by simp, .inl ⟨_, _, rfl, run_takeDeferred z6.hD, ?_⟩⟩
 refine ⟨_, results_tmp k6 _ _ _, ?_⟩
 have hh7 := hs6.hh.off (.deferred none) z6.nD (jS hs6.hh z6.hD rfl)
 have hv7 : LRel (w6.putObj w3.heap.size (.deferred none)) I6 G6 (aM nl (.ptr ts) (aA (bZ key L))) (.own 1) (a6.tmps.getD 4 undef) := LRel.mono (hs6.he 4 _ rfl) (Keeps.off z6.nD (.deferred none)) (.refl _ _)
 have hs7 : SRel (w6.putObj w3.heap.size (.deferred none)) I6 G6 [(4, .own 1)] (aM nl (.ptr ts) (aA (bZ key L))) 22 a6 := ⟨hh7, (ERel.nil _ _ _ _ _).cons (s := 4) (v := .own 1) hv7, hs6.hn⟩
 obtain ⟨s1, s2⟩ := hs7.sub [1] [] rfl
 have g2 := LRel.mapV (pD (os := [1])) (Keeps.refl _ _) hv7
 have ht := (ht3.trans z6.t.t).off (l := w3.heap.size) ht3.size (.deferred none)
 exact ⟨_, .own 0, _, I6, _, rfl, ⟨rfl, rfl⟩, s1.hh, g2, ⟨ht.trans (Tr.less s2), Nat.zero_le _, fun o ob ho => by simp at ho⟩⟩
theorem zrf (hk : ∀ x, 0 <= key x) (hT : ∀ r : Int, (-2147483648 <= r /\ r <= 2147483647) -> PCall Tryz.prog 80 [.ptr ts, .int .i32 r] fun v => v = .int .i64 (key r)) (hc : iU (.ptr ts) key) (L : List Int) (hr : R32 L) (hL : L.length < 1000000000000) :
 ACall Tryz.prog 121 [.pv (.ptr ts), .pv (.sl nl fl (aA L))] [] fun r h' => r = .own 0 /\ h' = [.sl (21, 1) false nl (aA (bZ key L))] := by
 obtain ⟨k1, k2, k3, k4, k5, k6, k7, k8, k9, k10, k11⟩ := zP
 refine ⟨⟨_, Tryz.func121, k8, k9⟩, fun w I G cargs hh hsz hrel => ?_⟩
 simp only [List.length_map, List.length_cons, List.length_nil] at hsz
 have hn : nl = true -> L = [] := fun hn => by
  subst hn
  have h1 := hrel 1 _ rfl
  generalize cargs.getD 1 undef = c1 at h1
  cases h1 with
  | pv _ _ h1 =>
    generalize hes : aA L = es at h1
    cases h1 with
    | slnil => exact List.map_eq_nil_iff.1 hes
 refine (callsIn_wide (n := 0)).1 (callsIn_of_wp_marks Tryz.func121 k2 trivial (wpIn_wide.2 ?_))
 rw [k3]
 have hs : SRel w I G (fA [.pv (.ptr ts), .pv (.sl nl fl (aA L))] 0) [] 22 { tmps := cargs ++ Array.replicate (22 - cargs.size) undef, defers := [] } := by
  refine ⟨hh, fun i v hi => ?_, by simp; omega⟩
  obtain ⟨_, h2⟩ := pP hi
  rw [Nat.sub_zero] at h2
  have hlt : i < cargs.size := by have := (List.getElem?_eq_some_iff.1 h2).1; simp at this; omega
  have := hrel i v h2
  have e1 : (cargs ++ Array.replicate (22 - cargs.size) undef).getD i undef = cargs.getD i undef := by
   rw [Array.getD_eq_getD_getElem?, Array.getD_eq_getD_getElem?, Array.getElem?_append_left hlt]
  simp only [e1]
  exact VRel.of_plain this
 rw [k1]
 -- what begins it
 refine wp_seq (tR (E := [(1, .pv (.sl nl fl (aA L))), (2, .box 0 0), (4, .pv (.sl true true []))]) (Hh := [.box [.pv (.ptr ts)]]) (gE (Eq.mpr (eB0 _) ⟨rfl, rfl, rfl⟩)) hs fun w1 I1 G1 a1 hs1 hd1 ht1 => ?_)
 have hs1' := hs1.le (LeE.le (e' := [(1, .pv (.sl nl fl (aA L))), (2, .box 0 0)]) ⟨rfl, rfl, trivial⟩)
 refine wp_seq (tR (E := [(2, .box 0 0), (5, .box 2 0)]) (Hh := [.box [.pv (.ptr ts)], .sl (21, 1) false nl (aA L), .box [.own 1]]) (gE (Eq.mpr (eB1 _) ((zhg nl fl (aA L) (fun h => by rw [hn h]; rfl) ?_).mono fun r h' hq => ⟨(), hq, trivial, rfl, rfl, rfl⟩))) hs1' fun w2 I2 G2 a2 hs2 hd2 ht2 => ?_)
 ·exact ⟨rfl, .inl rfl, fun e he => (by cases he), fun e he => by obtain ⟨x, _, rfl⟩ := List.mem_map.1 (List.mem_of_mem_head? he); rfl, by simp; omega⟩
 refine wp_seq (wp_seq (tR (E := [(2, .box 0 0), (5, .box 2 0), (12, .fn 161 [.box 4 0, .box 3 0])]) (Hh := aM nl (.ptr ts) (aA L)) (gE (Eq.mpr (eB2 _) (zrc nl ts (aA L) ?_))) hs2 fun w3 I3 G3 a3 hs3 hd3 ht3 => ?_))
 ·exact ⟨(), ⟨rfl, rfl⟩, ⟨⟨rfl, rfl, rfl⟩, trivial⟩, rfl, rfl, rfl⟩
 -- the loop
 have hd30 : a3.defers = [] := hd3.trans (hd2.trans hd1)
 obtain ⟨q1, q2, q3, _, _, _⟩ := zhe
 refine wp_block ?_
 rw [q3]
 obtain ⟨vs, hv12, hvsz, hvs⟩ : ∃ vs : Array Value, a3.tmps.getD 12 undef = .func (.func 161) #[] vs /\ vs.size = 2 /\ ∀ (k : Nat) v, [LV.box 4 0, LV.box 3 0][k]? = some v -> LRel w3 I3 G3 (aM nl (.ptr ts) (aA L)) v (vs.getD k undef) := by
  have := hs3.he 12 _ rfl
  generalize a3.tmps.getD 12 undef = cv at this
  cases this with
  | fn f cs vs h1 h6 => exact ⟨vs, rfl, h1, h6⟩
 refine (wpIn_wide (n := 0)).1 (wpIn_rangeFunc (F := Fence.wide) fun fn _ => ?_)
 obtain ⟨rec, hrec⟩ : ∃ rec : Loop, rec = { state := .ready, pending := none, fn := fn, tmps := a3.tmps, params := #[13, 14], assign := fI (cO Tryz.f121), body := fJ (cO Tryz.f121), defers := w3.heap.size } := ⟨_, rfl⟩
 refine ⟨w3.heap.size + 1, [{ target := .collected w3.heap.size, args := #[] }], (w3.alloc (.deferred (some []))).alloc (.loop rec), { target := .fn (.func 161) vs, args := #[.func (.yield (w3.heap.size + 1)) #[] #[]] }, (w3.alloc (.deferred (some []))).alloc (.loop rec), 161,
  #[.func (.yield (w3.heap.size + 1)) #[] #[]] ++ vs, (w3.alloc (.deferred (some []))).alloc (.loop rec), ?_, ?_, fun _ _ => trivial, ?_, fun x => (by cases x), ?_⟩
 ·rw [hrec]; exact run_enterLoop_outer _ _ _ _ _
 ·have he : a3.eval (.tmp 12) = .func (.func 161) #[] vs := hv12
  simp only [resolve, he]
  simp [go_sem]
 ·simp only [invoke]
  exact u4 ⟨_, Tryz.func161, k10, k11⟩
 refine (callsIn_wide).2 (Calls.mono (zrd hk hT hc L hr hL hs3 rec (by rw [hrec]) (by rw [hrec]) (by rw [hrec]) (by rw [hrec]) (by rw [hrec]) (by rw [hrec]) vs hvsz hvs) ?_)
 rintro e w4 ⟨⟨v, rfl⟩, I4, G4, hh4, z4⟩
 have hp : rec.pending = none := by rw [hrec]
 refine ⟨none, _, (run_endLoop z4.hl (by rw [hrec]; simp)).trans (congrArg (fun j => Result.ok j _) hp), ?_⟩
 exact zre hk L hs3 hd30 ((ht1.t.trans ht2.t).trans ht3.t) hh4 z4
end
end Go.Eng



namespace Go.Eng
open Go Go.Proofs
def zhh (n f : Bool) (es : LL) (k : Int) (R : PV -> Prop) : Prop :=
 if decide ((↑es.length : Int) > k) = true then (c6 es.length none (some k) none /\ aQ es 1) /\ R (PV.sl n (f && decide (k = (↑es.length : Int))) (List.drop 0 (List.take k.toNat es))) else R (PV.sl n f es)
theorem zrg (n f : Bool) (es : LL) (k : Int) {R : PV -> Prop} (h : zhh n f es k R) : PCall Tryz.prog 14 [.sl n f es, .int .i64 k] R :=
 PCall.of Tryz.func14 (by kernel_rfl) (by kernel_rfl) (zl (by kernel_rfl)) (Eq.mpr (by kernel_rfl : aP Tryz.prog (fun _ => none) Tryz.f14 [0, 1, 4, 8] (fun _ => none) (Tryz.f14.body.getD .skip) [.sl n f es, .int .i64 k] R = _) h)

def zQ (n f : Bool) (es : LL) (n2 f2 : Bool) (es2 : LL) (x5 : Int) : Env × Hp := ([(0, LV.pv (PV.sl n f es)), (1, LV.pv (PV.sl n2 f2 es2)), (5, Y6 x5)], [])
def zR (n f : Bool) (es : LL) (n2 f2 : Bool) (es2 : LL) (J : Int -> Prop) (μ : Int -> Nat) (R : PV -> Prop) : Prop :=
 if ((↑es.length : Int) != (↑es2.length : Int)) = true then R (Zb false) else (aB (zQ n f es n2 f2 es2 (0 : Int)) /\ J (0 : Int)) /\ ∀ (x5 : Int), J x5 -> if decide (x5 < (↑es.length : Int)) = true then aL es x5 1 /\ ∃ (n1 : Int),
 (es.getD x5.toNat []).head? = some (Z3 n1) /\ aL es2 x5 1 /\ ∃ n3, (es2.getD x5.toNat []).head? = some (Z3 n3) /\ if (n1 != n3) = true then R (Zb false) else aB (zQ n f es n2 f2 es2 (i64.wrap (x5 + 1))) /\ J
 (i64.wrap (x5 + 1)) /\ μ (i64.wrap (x5 + 1)) < μ x5 else R (Zb true)
theorem zrh (n f : Bool) (es : LL) (n2 f2 : Bool) (es2 : LL) (J : Int -> Prop) (μ : Int -> Nat) {R : PV -> Prop} (h : zR n f es n2 f2 es2 J μ R) : PCall Tryz.prog 26 [.sl n f es, .sl n2 f2 es2] R :=
 PCall.of Tryz.func26 (by kernel_rfl) (by kernel_rfl) (zl (by kernel_rfl)) (Eq.mpr (by kernel_rfl : aP Tryz.prog (fun _ => none) Tryz.f26 [0, 1, 4, 5, 10, 14, 25] (fun zz_ => match zz_ with | 4 => some ⟨Int × Unit, fun s => zQ n f es n2 f2 es2 s.1, fun _ s => J s.1, fun s => μ s.1, fun e h => (((gI e 5), ())), [], [0, 1, 5], [], fun p => ∀ (x5 : Int), p (x5, ()), fun p h s => h s.1⟩ | _ => none) (Tryz.f26.body.getD .skip) [.sl n f es, .sl n2 f2 es2] R = _) h)

def zS (n f : Bool) (es : LL) (n2 f2 : Bool) (ss : LL) (x7 : Int) (n_0 : Bool) (s_0 : LL) (n_1 : Bool) (s_1 : LL) : Env × Hp := ([(0, LV.pv (PV.sl n f es)), (1, LV.pv (PV.sl n2 f2 ss)), (5, LV.own 0), (6, LV.own 1), (7, Y6 x7)], [.sl (21, 1) true n_0 s_0, .sl (3, 1) true n_1 s_1])
def zT (n f : Bool) (es : LL) (n2 f2 : Bool) (ss : LL) (x7 x8 x9 : Int) (n_0 : Bool) (s_0 : LL) (n_1 : Bool) (s_1 : LL) : Env × Hp := ([(0, LV.pv (PV.sl n f es)), (1, LV.pv (PV.sl n2 f2 ss)), (5, LV.own 0), (6, LV.own 1), (7, Y6 x7), (8, Y6 x8), (9, Y6 x9)], [.sl (21, 1) true n_0 s_0, .sl (3, 1) true n_1 s_1])
def zhi (n f : Bool) (es : LL) (n2 f2 : Bool) (ss : LL) (J : Int -> Bool -> LL -> Bool -> LL -> Prop) (μ : Int -> Bool -> LL -> Bool -> LL -> Nat) (J2 : Int -> Int -> Int -> Bool -> LL -> Bool -> LL -> Int -> Int -> Int -> Bool -> LL -> Bool -> LL -> Prop) (μ2 : Int -> Int -> Int -> Bool -> LL -> Bool -> LL -> Nat) (R : PV -> Prop) : Prop :=
 (aB (zS n f es n2 f2 ss (0 : Int) true [] true []) /\ J (0 : Int) true [] true []) /\ ∀ (x7 : Int) (n_0 : Bool) (s_0 : LL) (n_1 : Bool) (s_1 : LL), J x7 n_0 s_0 n_1 s_1 -> if decide (x7 < (↑ss.length : Int)) = true then aL ss x7 1 /\
  ∃ n1, (ss.getD x7.toNat []).head? = some (Z3 n1) /\ PCall Tryz.prog 75 [PV.sl n f es, Z3 n1] fun v => ∃ n3, v = Z6 n3 /\ aL ss x7 1 /\ ∃ n4, (ss.getD x7.toNat []).head? = some (Z3 n4) /\ (aQ [[Z3 n4]] 1 /\
  (s_0.length + 1) * 4 <= 140737488355328) /\ (aQ [[Z6 n3]] 1 /\ (s_1.length + 1) * 8 <= 140737488355328) /\ (aB (zT n f es n2 f2 ss x7 n3 (↑s_0.length : Int) (n_0 && false) (s_0 ++ [[Z3 n4]]) (n_1 && false) (s_1 ++ [[Z6 n3]])) /\ J2 x7
  n3 (↑s_0.length : Int) (n_0 && false) (s_0 ++ [[Z3 n4]]) (n_1 && false) (s_1 ++ [[Z6 n3]]) x7 n3 (↑s_0.length : Int) (n_0 && false) (s_0 ++ [[Z3 n4]]) (n_1 && false) (s_1 ++ [[Z6 n3]])) /\ ∀ (x71 x8 x9 : Int) (n_01 : Bool) (s_01 : LL)
  (n_11 : Bool) (s_11 : LL), J2 x7 n3 (↑s_0.length : Int) (n_0 && false) (s_0 ++ [[Z3 n4]]) (n_1 && false) (s_1 ++ [[Z6 n3]]) x71 x8 x9 n_01 s_01 n_11 s_11 ->
 let V1 := aB (zS n f es n2 f2 ss (i64.wrap (x71 + 1)) n_01 s_01 n_11 s_11) /\ J (i64.wrap (x71 + 1)) n_01 s_01 n_11 s_11 /\ μ (i64.wrap (x71 + 1)) n_01 s_01 n_11 s_11 < μ x7 n_0 s_0 n_1 s_1; if (decide (x9 > 0)
  && x8 != 0) = true then aL s_11 (i64.wrap (x9 - 1)) 1 /\ ∃ n5, (List.drop 0 (s_11.getD (i64.wrap (x9 - 1)).toNat [])).head? = some (Z6 n5) /\ if decide (n5 > x8) = true then aL s_01 (i64.wrap (x9 - 1))
  1 /\ ∃ n6, (List.drop 0 (s_01.getD (i64.wrap (x9 - 1)).toNat [])).head? = some (Z3 n6) /\ aL s_01 x9 1 /\ (1 = 1 /\ 1 <= (s_01.getD x9.toNat []).length) /\ aL s_11 (i64.wrap (x9 - 1)) 1 /\ ∃ n7, (List.drop
  0 (s_11.getD (i64.wrap (x9 - 1)).toNat [])).head? = some (Z6 n7) /\ aL s_11 x9 1 /\ (1 = 1 /\ 1 <= (s_11.getD x9.toNat []).length) /\ aL ss x71 1 /\ ∃ n8, (ss.getD x71.toNat []).head? = some (Z3 n8) /\ aL (s_01.set
  x9.toNat (Z3 n6 :: zq (List.drop 1 (s_01.getD x9.toNat [])))) (i64.wrap (x9 - 1)) 1 /\ (1 = 1 /\ 1 <= ((s_01.set x9.toNat (Z3 n6 :: zq (List.drop 1 (s_01.getD x9.toNat [])))).getD
  (i64.wrap (x9 - 1)).toNat []).length) /\ aL (s_11.set x9.toNat (Z6 n7 :: zq (List.drop 1 (s_11.getD x9.toNat [])))) (i64.wrap (x9 - 1)) 1 /\ (1 = 1 /\ 1 <= ((s_11.set x9.toNat (Z6 n7 ::
  zq (List.drop 1 (s_11.getD x9.toNat [])))).getD (i64.wrap (x9 - 1)).toNat []).length) /\ aB (zT n f es n2 f2 ss x71 x8 (i64.wrap (x9 - 1)) n_01 ((s_01.set x9.toNat (Z3 n6 :: List.append._f
  [] PUnit.unit (List.drop 1 (s_01.getD x9.toNat [])))).set (i64.wrap (x9 - 1)).toNat (Z3 n8 :: zq (List.drop 1 ((s_01.set x9.toNat (Z3 n6 :: zq (List.drop 1 (s_01.getD x9.toNat
  [])))).getD (i64.wrap (x9 - 1)).toNat [])))) n_11 ((s_11.set x9.toNat (Z6 n7 :: zq (List.drop 1 (s_11.getD x9.toNat [])))).set (i64.wrap (x9 - 1)).toNat (Z6 x8 :: zq
  (List.drop 1 ((s_11.set x9.toNat (Z6 n7 :: zq (List.drop 1 (s_11.getD x9.toNat [])))).getD (i64.wrap (x9 - 1)).toNat []))))) /\ J2 x7 n3 (↑s_0.length : Int) (n_0 && false) (s_0 ++ [[Z3 n4]]) (n_1 &&
  false) (s_1 ++ [[Z6 n3]]) x71 x8 (i64.wrap (x9 - 1)) n_01 ((s_01.set x9.toNat (Z3 n6 :: zq (List.drop 1 (s_01.getD x9.toNat [])))).set (i64.wrap (x9 - 1)).toNat (Z3 n8 :: List.append._f []
  PUnit.unit (List.drop 1 ((s_01.set x9.toNat (Z3 n6 :: zq (List.drop 1 (s_01.getD x9.toNat [])))).getD (i64.wrap (x9 - 1)).toNat [])))) n_11 ((s_11.set x9.toNat (Z6 n7 :: zq
  (List.drop 1 (s_11.getD x9.toNat [])))).set (i64.wrap (x9 - 1)).toNat (Z6 x8 :: zq (List.drop 1 ((s_11.set x9.toNat (Z6 n7 :: zq (List.drop 1 (s_11.getD x9.toNat [])))).getD
  (i64.wrap (x9 - 1)).toNat [])))) /\ μ2 x71 x8 (i64.wrap (x9 - 1)) n_01 ((s_01.set x9.toNat (Z3 n6 :: zq (List.drop 1 (s_01.getD x9.toNat [])))).set (i64.wrap (x9 - 1)).toNat (Z3 n8 ::
  zq (List.drop 1 ((s_01.set x9.toNat (Z3 n6 :: zq (List.drop 1 (s_01.getD x9.toNat [])))).getD (i64.wrap (x9 - 1)).toNat [])))) n_11 ((s_11.set x9.toNat (Z6 n7 :: List.append._f
  [] PUnit.unit (List.drop 1 (s_11.getD x9.toNat [])))).set (i64.wrap (x9 - 1)).toNat (Z6 x8 :: zq (List.drop 1 ((s_11.set x9.toNat (Z6 n7 :: zq (List.drop 1 (s_11.getD x9.toNat
  [])))).getD (i64.wrap (x9 - 1)).toNat [])))) < μ2 x71 x8 x9 n_01 s_01 n_11 s_11 else V1 else V1 else R (PV.sl n_0 false s_0)
theorem zri (n f : Bool) (es : LL) (n2 f2 : Bool) (ss : LL) (J : Int -> Bool -> LL -> Bool -> LL -> Prop) (μ : Int -> Bool -> LL -> Bool -> LL -> Nat) (J2 : Int -> Int -> Int -> Bool -> LL -> Bool -> LL -> Int -> Int -> Int -> Bool -> LL -> Bool -> LL -> Prop) (μ2 : Int -> Int -> Int -> Bool -> LL -> Bool -> LL -> Nat) {R : PV -> Prop} (h : zhi n f es n2 f2 ss J μ J2 μ2 R) : PCall Tryz.prog 74 [.sl n f es, .sl n2 f2 ss] R :=
 PCall.of Tryz.func74 (by kernel_rfl) (by kernel_rfl) (zl (by kernel_rfl)) (Eq.mpr (by kernel_rfl : aP Tryz.prog (fun _ => none) Tryz.f74 [0, 1, 4, 5, 6, 7, 8, 9, 13, 49] (fun zz_ => match zz_ with | 4 => some ⟨Int × Bool × LL × Bool × LL, fun s => zS n f es n2 f2 ss s.1 s.2.1 s.2.2.1 s.2.2.2.1 s.2.2.2.2, fun _ s => J s.1 s.2.1 s.2.2.1 s.2.2.2.1 s.2.2.2.2, fun s => μ s.1 s.2.1 s.2.2.1 s.2.2.2.1 s.2.2.2.2, fun e h => (gI e 7, oN h 0, oS h 0, oN h 1, oS h 1), [(5, 21, 1), (6, 3, 1)], [0, 1, 5, 6, 7], [], fun p => ∀ (x7 : Int) (n_0 : Bool) (s_0 : LL) (n_1 : Bool) (s_1 : LL), p (x7, n_0, s_0, n_1, s_1), fun p h s => h s.1 s.2.1 s.2.2.1 s.2.2.2.1 s.2.2.2.2⟩ | 10 => some ⟨Int × Int × Int × Bool × LL × Bool × LL, fun s => zT n f es n2 f2 ss s.1 s.2.1 s.2.2.1 s.2.2.2.1 s.2.2.2.2.1 s.2.2.2.2.2.1 s.2.2.2.2.2.2, fun t s => J2 t.1 t.2.1 t.2.2.1 t.2.2.2.1 t.2.2.2.2.1 t.2.2.2.2.2.1 t.2.2.2.2.2.2 s.1 s.2.1 s.2.2.1 s.2.2.2.1 s.2.2.2.2.1 s.2.2.2.2.2.1 s.2.2.2.2.2.2, fun s => μ2 s.1 s.2.1 s.2.2.1 s.2.2.2.1 s.2.2.2.2.1 s.2.2.2.2.2.1 s.2.2.2.2.2.2, fun e h => (gI e 7, gI e 8, gI e 9, oN h 0, oS h 0, oN h 1, oS h 1), [], [0, 1, 5, 6, 7, 8, 9], [], fun p => ∀ (x7 x8 x9 : Int) (n_0 : Bool) (s_0 : LL) (n_1 : Bool) (s_1 : LL), p (x7, x8, x9, n_0, s_0, n_1, s_1), fun p h s => h s.1 s.2.1 s.2.2.1 s.2.2.2.1 s.2.2.2.2.1 s.2.2.2.2.2.1 s.2.2.2.2.2.2⟩ | _ => none) (Tryz.f74.body.getD .skip) [.sl n f es, .sl n2 f2 ss] R = _) h)

def tS (n f : Bool) (es : LL) (n2 f2 : Bool) (ss : LL) (x6 : Int) (n_0 : Bool) (s_0 : LL) : Env × Hp := ([(0, LV.pv (PV.sl n f es)), (1, LV.pv (PV.sl n2 f2 ss)), (5, LV.own 0), (6, Y6 x6)], [.sl (21, 1) true n_0 s_0])
def zhj (n f : Bool) (es : LL) (n2 f2 : Bool) (ss : LL) (J : Int -> Bool -> LL -> Prop) (μ : Int -> Bool -> LL -> Nat) (R : PV -> Prop) : Prop :=
 (aB (tS n f es n2 f2 ss (0 : Int) true []) /\ J (0 : Int) true []) /\ ∀ (x6 : Int) (n_0 : Bool) (s_0 : LL), J x6 n_0 s_0 -> if decide (x6 < (↑ss.length : Int)) = true then aL ss x6 1 /\ ∃ n1, (ss.getD x6.toNat []).head? = some
 (Z3 n1) /\ ACall Tryz.prog 73 [LV.pv (PV.sl n f es), LV.pv (Z3 n1), Y6 8] [] fun (r : LV) (h' : Hp) => (∃ (t : Bool × LL), (r = LV.own 0 /\ h' = [Ob.sl (21, 1) true t.fst t.snd]) /\ True /\ (aQ t.snd 1 /\ (s_0.length + t.snd.length) * 4 <=
 140737488355328) /\ aB (tS n f es n2 f2 ss (i64.wrap (x6 + 1)) (n_0 && t.snd.isEmpty) (s_0 ++ t.snd)) /\ J (i64.wrap (x6 + 1)) (n_0 && t.snd.isEmpty) (s_0 ++ t.snd) /\ μ (i64.wrap (x6 + 1)) (n_0 && t.snd.isEmpty)
 (s_0 ++ t.snd) < μ x6 n_0 s_0) ∨ ∃ (t : LL), (r = LV.pv (PV.sl false true t) /\ h' = []) /\ True /\ (aQ t 1 /\ (s_0.length + t.length) * 4 <= 140737488355328) /\ aB (tS n f es n2 f2 ss (i64.wrap (x6 + 1)) (n_0 && t.isEmpty) (s_0
 ++ t)) /\ J (i64.wrap (x6 + 1)) (n_0 && t.isEmpty) (s_0 ++ t) /\ μ (i64.wrap (x6 + 1)) (n_0 && t.isEmpty) (s_0 ++ t) < μ x6 n_0 s_0 else PCall Tryz.prog 74 [PV.sl n f es, PV.sl n_0 false s_0] fun v => ∃ n1, ∃
 (f1 : Bool), ∃ es1, v = PV.sl n1 f1 es1 /\ R (PV.sl n1 f1 es1)
theorem zrj (n f : Bool) (es : LL) (n2 f2 : Bool) (ss : LL) (J : Int -> Bool -> LL -> Prop) (μ : Int -> Bool -> LL -> Nat) {R : PV -> Prop} (h : zhj n f es n2 f2 ss J μ R) : PCall Tryz.prog 32 [.sl n f es, .sl n2 f2 ss] R :=
 PCall.of Tryz.func32 (by kernel_rfl) (by kernel_rfl) (zl (by kernel_rfl)) (Eq.mpr (by kernel_rfl : aP Tryz.prog (fun zz_ => match zz_ with | 73 => some ⟨Bool × LL, fun _ hs t => (.own hs.length, hs ++ [.sl (21, 1) true t.1 t.2]), some ⟨LL, fun _ hs t => (.pv (.sl false true t), hs)⟩⟩ | _ => none) Tryz.f32 [0, 1, 4, 5, 6, 10] (fun zz_ => match zz_ with | 3 => some ⟨Int × Bool × LL, fun s => tS n f es n2 f2 ss s.1 s.2.1 s.2.2, fun _ s => J s.1 s.2.1 s.2.2, fun s => μ s.1 s.2.1 s.2.2, fun e h => (gI e 6, oN h 0, oS h 0), [(5, 21, 1)], [0, 1, 5, 6], [], fun p => ∀ (x6 : Int) (n_0 : Bool) (s_0 : LL), p (x6, n_0, s_0), fun p h s => h s.1 s.2.1 s.2.2⟩ | _ => none) (Tryz.f32.body.getD .skip) [.sl n f es, .sl n2 f2 ss] R = _) h)

def zU (n f : Bool) (es : LL) (n2 f2 : Bool) (ss : LL) (x13 : Int) : Env × Hp := ([(0, LV.pv (PV.sl n f es)), (1, LV.pv (PV.sl n2 f2 ss)), (12, Y6 ↑es.length), (13, Y6 x13)], [])
def zV (n f : Bool) (es : LL) (n2 f2 : Bool) (ss : LL) (J : Int -> Prop) (μ : Int -> Nat) (R : PV -> Prop) : Prop :=
 if ((↑es.length : Int) != (↑ss.length : Int)) = true then R (Zb false) else (aB (zU n f es n2 f2 ss (0 : Int)) /\ J (0 : Int)) /\ ∀ (x13 : Int), J x13 -> if decide (x13 < (↑es.length : Int)) = true then aL es x13 1 /\ ∃ (n1 : Int),
 (es.getD x13.toNat []).head? = some (Z3 n1) /\ aL ss x13 1 /\ ∃ n3, (ss.getD x13.toNat []).head? = some (Z3 n3) /\ if (n1 != n3) = true then R (Zb false) else aB (zU n f es n2 f2 ss (i64.wrap (x13 + 1))) /\ J
 (i64.wrap (x13 + 1)) /\ μ (i64.wrap (x13 + 1)) < μ x13 else R (Zb true)
theorem zrk (n f : Bool) (es : LL) (n2 f2 : Bool) (ss : LL) (J : Int -> Prop) (μ : Int -> Nat) {R : PV -> Prop} (h : zV n f es n2 f2 ss J μ R) : PCall Tryz.prog 70 [.sl n f es, .sl n2 f2 ss] R :=
 PCall.of Tryz.func70 (by kernel_rfl) (by kernel_rfl) (zl (by kernel_rfl)) (Eq.mpr (by kernel_rfl : aP Tryz.prog (fun _ => none) Tryz.f70 [0, 1, 4, 5, 10, 12, 13, 14, 24] (fun zz_ => match zz_ with | 4 => some ⟨Int × Unit, fun s => zU n f es n2 f2 ss s.1, fun _ s => J s.1, fun s => μ s.1, fun e h => (((gI e 13), ())), [], [0, 1, 12, 13], [], fun p => ∀ (x13 : Int), p (x13, ()), fun p h s => h s.1⟩ | _ => none) (Tryz.f70.body.getD .skip) [.sl n f es, .sl n2 f2 ss] R = _) h)

end Go.Eng



namespace Go.Eng.Rows
open Go Go.Eng Go.Eng.Trie
def qI (rows : List Row) : Bool -> Int -> List Int -> Int
 | m, _, [] => if m then 2 else 0
 | m, last, r :: l => if (decide (ofQ rows r = 1) || (!decide (aG rows 1 r = 0) && decide (aG rows 1 r < last))) then 1 else qI rows (m || decide (ofQ rows r = 2)) (aG rows 1 r) l
def zrl (rows : List Row) : Bool := rows.all fun x => !decide (x.kind = 2) || ((decide (1 <= x.a) && decide (x.a <= 1114111)) && (decide (0 <= x.b) && decide (x.b <= 1114111)))
theorem zrm {rows : List Row} (h : zrl rows = true) : dD rows := fun x hx hk => by
 have := List.all_eq_true.1 h x hx
 simpa [hk] using this
def zrn (rows : List Row) : Bool := rows.all fun x => !decide (x.kind = 1) || decide (0 <= x.a)
def dN (rows : List Row) : Prop := ∀ r, 0 <= aG rows 1 r
theorem zro {rows : List Row} (h : zrn rows = true) : dN rows := fun r => by
 unfold aG
 cases hf : bR rows 1 r with
 | none => exact Int.le_refl _
 | some p =>
   obtain ⟨x, hx, hk, ha, _⟩ := jQ hf
   have := List.all_eq_true.1 h x hx
   simp only [hk, decide_true, Bool.not_true, Bool.false_or, decide_eq_true_eq] at this
   simp only; omega
end Go.Eng.Rows



namespace Go.Eng
open Go Go.Proofs Go.Eng.Rows Go.Eng.Trie
theorem iD : dD tab := zrm (by kernel_rfl)
theorem fO : dN tab := zro (by kernel_rfl)
theorem q1 : qI tab false 0 [101, 769] = 2 := by kernel_rfl
theorem q2 : qI tab false 0 [233] = 0 := by kernel_rfl
theorem q3 : qI tab false 0 [769, 807] = 1 := by kernel_rfl
theorem q4 : qI tab false 0 [8491] = 1 := by kernel_rfl
theorem q5 : zB tab 101 = true := by kernel_rfl
theorem q6 : zB tab 769 = false := by kernel_rfl
theorem q7 : zB tab 4449 = false := by kernel_rfl
end Go.Eng



namespace Go.Eng.Rows
open Go Go.Eng Go.Eng.Trie Go.Eng.Srt
def cR (rows : List Row) (l : List Int) : List Int := bZ (aG rows 1) (l.flatMap (aV rows 8))
def dE (rows : List Row) (x : Int) : Bool := !cK x && decide (aJ rows x = (0, 0))
def zrp (rows : List Row) : Prop := ∀ r, ∀ x ∈ aV rows 8 r, dE rows x = true
theorem zrq {rows : List Row} {r : Int} {p : Int × Int} (h : bR rows 2 r = some p) : ∃ x ∈ rows, x.kind = 2 /\ x.fr <= r /\ r <= x.to := by
 obtain ⟨x, h1, h2, _, _, h3, h4, _⟩ := jQ h
 exact ⟨x, h1, h2, h3, h4⟩
theorem tT {rows : List Row} {x : Int} (h : dE rows x = true) (d : Nat) : aV rows d x = [x] := by
 simp only [dE, Bool.and_eq_true, Bool.not_eq_true', decide_eq_true_eq] at h
 exact qB h.1 h.2
theorem zhk {rows : List Row} : ∀ {l : List Int}, (∀ x ∈ l, dE rows x = true) -> l.flatMap (aV rows 8) = l
 | [], _ => rfl
 | x :: l, h => by
   rw [List.flatMap_cons, tT (h x List.mem_cons_self), zhk fun y hy => h y (List.mem_cons_of_mem _ hy)]; rfl
section
variable {rows : List Row} (hk : dN rows)
include hk
theorem zrr {l : List Int} {x : Int} : x ∈ cR rows l ↔ ∃ r ∈ l, x ∈ aV rows 8 r := by
 unfold cR
 rw [<- (tO hk _).mem, List.mem_flatMap]
theorem zW (hp : dD rows) {l : List Int} (h : ∀ x ∈ l, -2147483648 <= x /\ x <= 2147483647) : ∀ x ∈ cR rows l, -2147483648 <= x /\ x <= 2147483647 := fun x hx => by
 obtain ⟨r, hr, h2⟩ := (zrr hk).1 hx
 rcases tH hp 8 r x h2 with rfl | h3
 ·exact h x hr
 ·omega
theorem tU (l : List Int) : (cR rows l).length <= 768 * l.length := by
 unfold cR
 rw [<- (tO hk _).len]
 induction l with
 | nil => simp
 | cons x l ih =>
   have := kR rows 8 x
   rw [List.flatMap_cons, List.length_append, List.length_cons]; omega
end
end Go.Eng.Rows



namespace Go.Eng
open Go Go.Proofs Go.Eng.Rows Go.Eng.Trie
end Go.Eng



namespace Go.Eng
open Go Go.Proofs Go.Eng.Rows Go.Eng.Trie
end Go.Eng



namespace Go.Eng
open Go Go.Proofs Go.Eng.Rows Go.Eng.Trie Go.Eng.Srt
theorem PCall.ofA {P : Program} {f : Nat} {args : List PV} {Q : LV -> Hp -> Prop} {R : PV -> Prop} (hc : ACall P f (args.map .pv) [] Q) (hq : ∀ r h', Q r h' -> ∃ p, iI h' r = some p /\ R p) : PCall P f args R :=
 ⟨hc.1, fun w I G cargs h1 h2 h3 => (hc.2 w I G cargs h1 h2 h3).mono fun e w' ⟨cv, r, h', I', G', e1, e2, e3, e4, e5⟩ => by
  obtain ⟨p, hp, hR⟩ := hq r h' e2
  have ht := e5.t
  have hno : ∀ b, ¬ aW [] G b := fun b ⟨o, ob, ho, _⟩ => by simp at ho
  exact ⟨cv, .pv p, [], AllB I' h' G', G', e1, ⟨p, rfl, hR⟩, HRel.nil G' (fun b hb => hb.elim (e3.cl b) e3.blk_lt), .pv _ _ (oV e3 e4 hp),
   ⟨⟨ht.os, ht.tape, ht.output, ht.size, ht.keep, fun b hb => .inl (ht.i1 b hb), fun b hb => hb.elim (ht.i2 b) (fun ho => (ht.own2 b ho).elim (fun x => absurd x (hno b)) (fun x => .inr (.inr x))), fun b hb => absurd hb (fun ⟨o, ob, ho, _⟩ => by simp at ho), ht.frz, ht.drawn⟩, Nat.le_refl _, fun o ob ho => by simp at ho⟩⟩⟩
theorem zrs (n f : Bool) (l : List Int) (k : Nat) (hk : k < 1000) : PCall Tryz.prog 14 [.sl n f (aA l), .int .i64 k] fun v => ∃ n f, v = .sl n f (aA (l.take k)) := by
 refine zrg _ _ _ _ ?_; unfold zhh
 refine aD (fun hc => ?_) (fun hc => ?_)
 ·simp only [decide_eq_true_eq, aS] at hc
  refine ⟨⟨by unfold c6; simp; omega, cV _⟩, n, _, by rw [show ((k : Int)).toNat = k by omega]; simp only [aA, List.map_take, List.drop_zero]; rfl⟩
 ·simp only [decide_eq_true_eq, aS] at hc
  rw [List.take_of_length_le (by omega)]
  exact ⟨_, _, rfl⟩
theorem zrt (n f n2 f2 : Bool) (l m : List Int) (hl : l.length < 1000000000000) : zR n f (aA l) n2 f2 (aA m) (fun i => 0 <= i /\ i <= l.length /\ l.take i.toNat = m.take i.toNat) (fun i => l.length - i.toNat) fun v => v = .bool (decide (l = m)) := by
 unfold zR
 refine aD (fun hc => ?_) (fun hc => ?_)
 ·simp only [aS, bne_iff_ne, ne_eq] at hc
  have : l ≠ m := fun e => hc (by rw [e])
  simp [this]
 ·simp only [aS, bne_iff_ne, ne_eq, Decidable.not_not] at hc
  have hlm : l.length = m.length := by omega
  refine ⟨⟨rfl, Int.le_refl _, by omega, rfl⟩, ?_⟩
  rintro i ⟨i0, i1, he⟩
  refine aD (fun h => ?_) (fun h => ?_)
  ·simp only [decide_eq_true_eq, aS] at h
   have hi : i.toNat < l.length := by omega
   have hj : i.toNat < m.length := by omega
   obtain ⟨g1, g2⟩ := gO i0 hi
   obtain ⟨k1, k2⟩ := gO i0 hj
   have hw : i64.wrap (i + 1) = i + 1 := aC (by omega) (by omega)
   refine ⟨g1, l[i.toNat], by rw [g2]; rfl, k1, m[i.toNat], by rw [k2]; rfl, aD (fun hc2 => ?_) (fun hc2 => ?_)⟩
   ·simp only [bne_iff_ne, ne_eq] at hc2
    have : l ≠ m := fun e => hc2 (by subst e; rfl)
    simp [this]
   ·simp only [bne_iff_ne, ne_eq, Decidable.not_not] at hc2
    rw [hw]
    exact ⟨rfl, ⟨by omega, by omega, by rw [show (i + 1).toNat = i.toNat + 1 by omega, bW hi, bW hj, he, hc2]⟩, by dsimp only; omega⟩
  ·simp only [decide_eq_true_eq, aS] at h
   rw [List.take_of_length_le (by omega), List.take_of_length_le (by omega)] at he
   simp [he]
theorem zru (n f n2 f2 : Bool) (l m : List Int) (hl : l.length < 1000000000000) : zV n f (aA l) n2 f2 (aA m) (fun i => 0 <= i /\ i <= l.length /\ l.take i.toNat = m.take i.toNat) (fun i => l.length - i.toNat) fun v => v = .bool (decide (l = m)) := by
 unfold zV
 refine aD (fun hc => ?_) (fun hc => ?_)
 ·simp only [aS, bne_iff_ne, ne_eq] at hc
  have : l ≠ m := fun e => hc (by rw [e])
  simp [this]
 ·simp only [aS, bne_iff_ne, ne_eq, Decidable.not_not] at hc
  have hlm : l.length = m.length := by omega
  refine ⟨⟨rfl, Int.le_refl _, by omega, rfl⟩, ?_⟩
  rintro i ⟨i0, i1, he⟩
  refine aD (fun h => ?_) (fun h => ?_)
  ·simp only [decide_eq_true_eq, aS] at h
   have hi : i.toNat < l.length := by omega
   have hj : i.toNat < m.length := by omega
   obtain ⟨g1, g2⟩ := gO i0 hi
   obtain ⟨k1, k2⟩ := gO i0 hj
   have hw : i64.wrap (i + 1) = i + 1 := aC (by omega) (by omega)
   refine ⟨g1, l[i.toNat], by rw [g2]; rfl, k1, m[i.toNat], by rw [k2]; rfl, aD (fun hc2 => ?_) (fun hc2 => ?_)⟩
   ·simp only [bne_iff_ne, ne_eq] at hc2
    have : l ≠ m := fun e => hc2 (by subst e; rfl)
    simp [this]
   ·simp only [bne_iff_ne, ne_eq, Decidable.not_not] at hc2
    rw [hw]
    exact ⟨rfl, ⟨by omega, by omega, by rw [show (i + 1).toNat = i.toNat + 1 by omega, bW hi, bW hj, he, hc2]⟩, by dsimp only; omega⟩
  ·simp only [decide_eq_true_eq, aS] at h
   rw [List.take_of_length_le (by omega), List.take_of_length_le (by omega)] at he
   simp [he]
theorem tV (n f n2 f2 : Bool) (l m : List Int) (hl : l.length < 1000000000000) : PCall Tryz.prog 26 [.sl n f (aA l), .sl n2 f2 (aA m)] fun v => v = .bool (decide (l = m)) :=
 zrh _ _ _ _ _ _ _ _ (zrt n f n2 f2 l m hl)
theorem zrv (n f n2 f2 : Bool) (l m : List Int) (hl : l.length < 1000000000000) : PCall Tryz.prog 70 [.sl n f (aA l), .sl n2 f2 (aA m)] fun v => v = .bool (decide (l = m)) :=
 zrk _ _ _ _ _ _ (fun i => 0 <= i /\ i <= l.length /\ l.take i.toNat = m.take i.toNat) (fun i => l.length - i.toNat) (zru n f n2 f2 l m hl)
section
variable {rows : List Row}
end
end Go.Eng



namespace Go.Eng
open Go Go.Proofs Go.Eng.Rows Go.Eng.Trie Go.Eng.Srt
section
variable {rows : List Row}
theorem set1 {es : List (List PV)} {k : Nat} {v x : PV} (h : es.getD k [] = [x]) : es.set k (v :: zq (List.drop 1 (es.getD k []))) = es.set k [v] := by rw [h]; rfl
theorem zX (A : List Int) (x : Int) (B : List Int) : (aA (A ++ x :: B)).getD A.length [] = [.int .i32 x] := by
 rw [zdj (by simp)]; simp
theorem zY (A : List Int) (x : Int) (B : List Int) : (aX (A ++ x :: B)).getD A.length [] = [.int .i64 x] := by
 simp [aX]
theorem zrw (hk : dN rows) (n f n2 f2 : Bool) (L : List Int) (hrl : rows.length < 1000000) (hL : L.length < 1000000000) (hr : R32 L) :
 PCall Tryz.prog 74 [.sl n f (bE rows), .sl n2 f2 (aA L)] fun v => ∃ n f, v = .sl n f (aA (bZ (aG rows 1) L)) := by
 have olen : ∀ l, (bZ (aG rows 1) l).length = l.length := fun l => ((tO (key := aG rows 1) hk l).len).symm
 refine zri _ _ _ _ _ _
  (fun i _ s0 _ s1 => 0 <= i /\ i <= L.length /\ s0 = aA (bZ (aG rows 1) (L.take i.toNat)) /\ s1 = aX ((bZ (aG rows 1) (L.take i.toNat)).map (aG rows 1))) (fun i _ _ _ _ => L.length - i.toNat)
  (fun i0 _ _ _ _ _ _ i c k _ s0 _ s1 => i = i0 /\ 0 <= i /\ i.toNat < L.length /\ ∃ x A B, L[i.toNat]? = some x /\ c = aG rows 1 x /\ k = (A.length : Nat) /\ bZ (aG rows 1) (L.take i.toNat) = A ++ B /\ (∀ y ∈ B, d9 (aG rows 1) x y = true) /\ s0 = aA (A ++ x :: B) /\ s1 = aX ((A ++ x :: B).map (aG rows 1))) (fun _ _ k _ _ _ _ => k.toNat) ?_
 unfold zhi
 refine ⟨⟨rfl, Int.le_refl _, by omega, by simp [bZ, aA], by simp [bZ, aX]⟩, ?_⟩
 rintro i n0 _ n1 _ ⟨i0, i1, rfl, rfl⟩
 refine aD (fun hc => ?_) (fun hc => ?_)
 ·simp only [decide_eq_true_eq, aS] at hc
  have hi : i.toNat < L.length := by omega
  obtain ⟨g1, g2⟩ := gO i0 hi
  have hx := hr _ (List.getElem_mem hi)
  have hw : i64.wrap (i + 1) = i + 1 := aC (by omega) (by omega)
  have hol := olen (L.take i.toNat)
  rw [List.length_take] at hol
  refine ⟨g1, L[i.toNat], by rw [g2]; rfl, ?_⟩
  refine (zg1 n f _ hrl hx).mono ?_
  rintro _ rfl
  refine ⟨_, rfl, g1, L[i.toNat], by rw [g2]; rfl, ⟨cV [_], by rw [aS]; omega⟩, ⟨m9 (enc := fun n => [PV.int .i64 n]) (fun _ => rfl) [_], by rw [iT, List.length_map]; omega⟩, ⟨rfl, ?_⟩, ?_⟩
  ·refine ⟨rfl, i0, hi, L[i.toNat], bZ (aG rows 1) (L.take i.toNat), [], List.getElem?_eq_getElem hi, rfl, by simp, by simp, fun y hy => (by cases hy), by simp [aA], by simp [aX]⟩
  ·rintro i' c k n01 _ n11 _ ⟨rfl, _, _, x, A, B, hxi, rfl, rfl, hord, hB, rfl, rfl⟩
   have hwi : i64.wrap (i' + 1) = i' + 1 := aC (by omega) (by omega)
   have hAB : A.length + B.length = min i'.toNat L.length := by rw [<- hol, hord, List.length_append]
   have hxe : L[i'.toNat] = x := (List.getElem?_eq_some_iff.1 hxi).2
   -- the end of the walk back
   have done : (A = [] ∨ ∃ A' z, A = A' ++ [z] /\ d9 (aG rows 1) x z = false) -> 0 <= i' + 1 /\ i' + 1 <= L.length /\ aA (A ++ x :: B) = aA (bZ (aG rows 1) (L.take (i' + 1).toNat)) /\ aX ((A ++ x :: B).map (aG rows 1)) = aX ((bZ (aG rows 1) (L.take (i' + 1).toNat)).map (aG rows 1)) := fun h => by
    have : bZ (aG rows 1) (L.take (i' + 1).toNat) = A ++ x :: B := by
     rw [show (i' + 1).toNat = i'.toNat + 1 by omega, bW hi, zL, hord, hxe, l6 hB h]
    rw [this]
    exact ⟨by omega, by omega, rfl, rfl⟩
   have hmu : L.length - (i' + 1).toNat < L.length - i'.toNat := by omega
   refine aD (fun h1 => ?_) (fun h1 => ?_)
   ·simp only [Bool.and_eq_true, decide_eq_true_eq, bne_iff_ne, ne_eq] at h1
    obtain ⟨A', z, rfl⟩ : ∃ A' z, A = A' ++ [z] := by
     rcases A.eq_nil_or_concat with rfl | ⟨D, z, rfl⟩
     ·simp at h1
     ·exact ⟨D, z, by simp⟩
    have lA : (A' ++ [z]).length = A'.length + 1 := by simp
    rw [lA] at hAB
    have hwk : i64.wrap ((((A' ++ [z]).length : Nat) : Int) - 1) = (A'.length : Nat) := by rw [lA, aC (by omega) (by omega)]; omega
    have e0 : (A' ++ [z]) ++ x :: B = A' ++ z :: (x :: B) := by simp
    rw [hwk, e0]
    simp only [List.map_append, List.map_cons, Int.toNat_natCast]
    rw [lA]
    generalize hk2 : aG rows 1 = key at *
    have i1 : aL (aA (A' ++ z :: x :: B)) ((A'.length : Nat) : Int) 1 := bP (enc := fun n => [PV.int .i32 n]) (fun _ => rfl) (by omega) (by simp; omega)
    have i2 : aL (aA (A' ++ z :: x :: B)) ((A'.length + 1 : Nat) : Int) 1 := bP (enc := fun n => [PV.int .i32 n]) (fun _ => rfl) (by omega) (by simp; omega)
    have j1 : aL (aX (A'.map key ++ key z :: key x :: B.map key)) ((A'.length : Nat) : Int) 1 := bP lT (by omega) (by simp; omega)
    have j2 : aL (aX (A'.map key ++ key z :: key x :: B.map key)) ((A'.length + 1 : Nat) : Int) 1 := bP lT (by omega) (by simp; omega)
    have i3 : aL (aA (A' ++ z :: z :: B)) ((A'.length : Nat) : Int) 1 := bP (enc := fun n => [PV.int .i32 n]) (fun _ => rfl) (by omega) (by simp; omega)
    have j3 : aL (aX (A'.map key ++ key z :: key z :: B.map key)) ((A'.length : Nat) : Int) 1 := bP lT (by omega) (by simp; omega)
    have gz := zX A' z (x :: B)
    have gx : (aA (A' ++ z :: x :: B)).getD (A'.length + 1) [] = [.int .i32 x] := by have := zX (A' ++ [z]) x B; simpa using this
    have hz : (aX (A'.map key ++ key z :: key x :: B.map key)).getD A'.length [] = [.int .i64 (key z)] := by have := zY (A'.map key) (key z) (key x :: B.map key); simpa using this
    have hx2 : (aX (A'.map key ++ key z :: key x :: B.map key)).getD (A'.length + 1) [] = [.int .i64 (key x)] := by have := zY (A'.map key ++ [key z]) (key x) (B.map key); simpa using this
    have gz2 := zX A' z (z :: B)
    have hz2 : (aX (A'.map key ++ key z :: key z :: B.map key)).getD A'.length [] = [.int .i64 (key z)] := by have := zY (A'.map key) (key z) (key z :: B.map key); simpa using this
    have s1 : (aA (A' ++ z :: x :: B)).set (A'.length + 1) [.int .i32 z] = aA (A' ++ z :: z :: B) := by
     have := qD (A' ++ [z]) B x z
     have e : (aA (A' ++ z :: x :: B)).set (A'.length + 1) [.int .i32 z] = aA ((A' ++ z :: x :: B).set (A'.length + 1) z) := by simp [aA, List.map_set]
     rw [e]; simp at this ⊢
    have s2 : (aA (A' ++ z :: z :: B)).set A'.length [.int .i32 x] = aA (A' ++ x :: z :: B) := by simp [aA]
    have t1 : (aX (A'.map key ++ key z :: key x :: B.map key)).set (A'.length + 1) [.int .i64 (key z)] = aX (A'.map key ++ key z :: key z :: B.map key) := by simp [aX]
    have t2 : (aX (A'.map key ++ key z :: key z :: B.map key)).set A'.length [.int .i64 (key x)] = aX (A'.map key ++ key x :: key z :: B.map key) := by simp [aX]
    refine ⟨j1, key z, by rw [hz]; rfl, aD (fun h2 => ?_) (fun h2 => ?_)⟩
    ·simp only [decide_eq_true_eq] at h2
     refine ⟨i1, z, by rw [gz]; rfl, i2, ⟨trivial, by rw [gx]; exact Nat.le_refl _⟩, j1, key z, by rw [hz]; rfl, j2, ⟨trivial, by rw [hx2]; exact Nat.le_refl _⟩, g1, x, by rw [g2, hxe]; rfl, ?_⟩
     rw [set1 gx, set1 hx2, s1, t1, set1 gz2, set1 hz2, s2, t2]
     refine ⟨i3, ⟨trivial, by rw [gz2]; exact Nat.le_refl _⟩, j3, ⟨trivial, by rw [hz2]; exact Nat.le_refl _⟩, rfl, ⟨trivial, i0, hi, x, A', z :: B, hxi, rfl, rfl, by rw [hord]; simp, fun y hy => ?_, rfl, by simp⟩, by simp⟩
     rcases List.mem_cons.1 hy with rfl | hy
     ·exact nH.2 ⟨h1.2, h2⟩
     ·exact hB y hy
    ·simp only [decide_eq_true_eq] at h2
     rw [hwi]
     obtain ⟨d1, d2, d3, d4⟩ := done (.inr ⟨A', z, rfl, tN.2 (.inr (by omega))⟩)
     refine ⟨rfl, ⟨d1, d2, ?_, ?_⟩, hmu⟩
     ·rw [<- d3, e0]
     ·rw [<- d4]; simp
   ·have hA : A = [] ∨ aG rows 1 x = 0 := by
     simp only [Bool.and_eq_true, decide_eq_true_eq, bne_iff_ne, ne_eq, not_and, Decidable.not_not] at h1
     by_cases hA : A = []
     ·exact .inl hA
     ·exact .inr (h1 (by have := List.length_pos_iff.2 hA; omega))
    rw [hwi]
    refine ⟨rfl, done ?_, hmu⟩
    rcases hA with h | h
    ·exact .inl h
    ·rcases A.eq_nil_or_concat with rfl | ⟨D, z, rfl⟩
     ·exact .inl rfl
     ·exact .inr ⟨D, z, by simp, tN.2 (.inl h)⟩
 ·simp only [decide_eq_true_eq, aS] at hc
  rw [List.take_of_length_le (by omega)]
  exact ⟨_, _, rfl⟩
end
end Go.Eng



namespace Go.Eng
open Go Go.Proofs Go.Eng.Rows Go.Eng.Trie Go.Eng.Srt
theorem qJ : tab.length < 1000000 := by have := zoq; omega
theorem zhl (n f : Bool) : PCall Tryz.prog 17 [.sl n f (bE tab)] (dM tab) := zqf n f tab qJ iD
theorem R32.take {l : List Int} (h : R32 l) (k : Nat) : R32 (l.take k) := fun x hx => h x (List.mem_of_mem_take hx)
section
variable {rows : List Row} {v : PV}
theorem zrx {ts : List PV} {key : Int -> Int} (hT : ∀ r : Int, (-2147483648 <= r /\ r <= 2147483647) -> PCall Tryz.prog 80 [.ptr ts, .int .i32 r] fun v => v = .int .i64 (key r)) : iU (.ptr ts) key := by
 intro a b ha hb
 refine zmy _ _ _ ?_; unfold zdy
 refine .inl ⟨ts, rfl, .inl ⟨ts, rfl, ?_⟩⟩
 refine (hT a ha).mono ?_
 rintro _ rfl
 refine ⟨_, rfl, ?_⟩
 refine (hT b hb).mono ?_
 rintro _ rfl
 refine ⟨_, rfl, ?_⟩
 refine (p61 _ _).mono ?_
 rintro _ rfl
 refine ⟨_, rfl, _, rfl, ?_⟩
 unfold cmpS; split <;> (try split) <;> omega
theorem zhm (hp : dD rows) {l : List Int} (h : R32 l) : R32 (l.flatMap (aV rows 8)) := fun x hx => by
 obtain ⟨r, hr, h2⟩ := List.mem_flatMap.1 hx
 rcases tH hp 8 r x h2 with rfl | h3
 ·exact h x hr
 ·omega
theorem tW (rows : List Row) (l : List Int) : (l.flatMap (aV rows 8)).length <= 768 * l.length := by
 induction l with
 | nil => simp
 | cons x l ih =>
   have := kR rows 8 x
   rw [List.flatMap_cons, List.length_append, List.length_cons]; omega
theorem zhn (rows : List Row) {l : List Int} {i : Nat} (hi : i < l.length) : (l.take (i + 1)).flatMap (aV rows 8) = (l.take i).flatMap (aV rows 8) ++ aV rows 8 l[i] := by
 rw [bW hi, List.flatMap_append]; simp
theorem zho (hp : dD rows) (hk : dN rows) (n f n2 f2 : Bool) (hrl : rows.length < 1000000) (L : List Int) (hr : R32 L) (hL : L.length < 1000000) : PCall Tryz.prog 32 [.sl n f (bE rows), .sl n2 f2 (aA L)] fun x => ∃ n f, x = .sl n f (aA (cR rows L)) := by
 refine zrj _ _ _ _ _ _ (fun i _ s => 0 <= i /\ i <= L.length /\ s = aA ((L.take i.toNat).flatMap (aV rows 8))) (fun i _ _ => L.length - i.toNat) ?_
 unfold zhj
 refine ⟨⟨rfl, Int.le_refl _, by omega, rfl⟩, ?_⟩
 rintro i n1 _ ⟨i0, i1, rfl⟩
 refine aD (fun hc => ?_) (fun hc => ?_)
 ·simp only [decide_eq_true_eq, aS] at hc
  have hi : i.toNat < L.length := by omega
  obtain ⟨g1, g2⟩ := gO i0 hi
  have hx := hr _ (List.getElem_mem hi)
  have hw : i64.wrap (i + 1) = i + 1 := aC (by omega) (by omega)
  have hfl := tW rows (L.take i.toNat)
  rw [List.length_take] at hfl
  have hf1 := kR rows 8 L[i.toNat]
  have he : aA ((L.take i.toNat).flatMap (aV rows 8)) ++ aA (aV rows 8 L[i.toNat]) = aA ((L.take (i + 1).toNat).flatMap (aV rows 8)) := by
   rw [show (i + 1).toNat = i.toNat + 1 by omega, zhn rows hi, fB]
  refine ⟨g1, L[i.toNat], by rw [g2]; rfl, ?_⟩
  rw [hw]
  refine (zqk hp n f hrl 8 _ (by omega) hx).mono ?_
  rintro r h' (⟨nl, rfl, rfl⟩ | ⟨rfl, rfl⟩)
  ·exact .inl ⟨(nl, _), ⟨rfl, rfl⟩, trivial, ⟨cV _, by simp only [aS, List.length_map]; omega⟩, rfl, ⟨by omega, by omega, he⟩, by dsimp only; omega⟩
  ·exact .inr ⟨_, ⟨rfl, rfl⟩, trivial, ⟨cV _, by rw [aS, aS]; omega⟩, rfl, ⟨by omega, by omega, he⟩, by dsimp only; omega⟩
 ·simp only [decide_eq_true_eq, aS] at hc
  rw [List.take_of_length_le (by omega)]
  have hfl := tW rows L
  refine (zrw hk n f n1 false _ hrl (by omega) (zhm hp hr)).mono ?_
  rintro _ ⟨n2, f2, rfl⟩
  exact ⟨_, _, _, rfl, _, _, rfl⟩
theorem zZ (hk : dN rows) {l : List Int} (h : l.length < 1000000) : (cR rows l).length < 1000000000000 := by
 have := tU hk l; omega
end
end Go.Eng



namespace Go.Eng.Rows
open Go Go.Eng Go.Eng.Trie Go.Eng.Srt
def nJ (a b : Int) : Option Int :=
 if (4352 <= a /\ a < 4371) /\ 4449 <= b /\ b < 4470 then some (44032 + ((a - 4352) * 21 + (b - 4449)) * 28)
 else if (cK a = true /\ (a - 44032) % 28 = 0) /\ 4519 < b /\ b < 4547 then some (a + (b - 4519)) else none
def jT (rows : List Row) (a b : Int) (x : Row) : Bool := decide (x.kind = 2) && (decide (x.a = a) && (decide (x.b = b) && (!decide (b = 0) && !gJ rows x.fr)))
def cmpS (rows : List Row) (a b : Int) (o : Option Int) (x : Row) : Option Int :=
 if jT rows a b x then (match o with | none => some x.fr | some r => if x.fr < r then some x.fr else some r) else o
def z7 (rows : List Row) (a b : Int) : Option Int := rows.foldl (cmpS rows a b) none
def l8 (rows : List Row) (a b : Int) : Option Int := match nJ a b with | some r => some r | none => z7 rows a b
theorem zry (rows : List Row) (a b : Int) (l : List Row) : match l.foldl (cmpS rows a b) none with
 | none => ∀ x ∈ l, jT rows a b x = false
 | some r => (∃ x ∈ l, jT rows a b x = true /\ x.fr = r) /\ ∀ x ∈ l, jT rows a b x = true -> r <= x.fr := by
 have : ∀ (m : List Row), match m.reverse.foldl (cmpS rows a b) none with
  | none => ∀ x ∈ m, jT rows a b x = false
  | some r => (∃ x ∈ m, jT rows a b x = true /\ x.fr = r) /\ ∀ x ∈ m, jT rows a b x = true -> r <= x.fr := by
  intro m
  induction m with
  | nil => intro x hx; cases hx
  | cons y m ih =>
    rw [List.reverse_cons, List.foldl_append, List.foldl_cons, List.foldl_nil]
    generalize m.reverse.foldl (cmpS rows a b) none = o at ih
    unfold cmpS
    cases hc : jT rows a b y with
    | false =>
      simp only [Bool.false_eq_true, if_false]
      cases o with
      | none => intro x hx; rcases List.mem_cons.1 hx with rfl | hx; exact hc; exact ih x hx
      | some r =>
        obtain ⟨⟨x, h1, h2⟩, h3⟩ := ih
        exact ⟨⟨x, List.mem_cons_of_mem _ h1, h2⟩, fun z hz hz2 => by rcases List.mem_cons.1 hz with rfl | hz; rw [hc] at hz2; cases hz2; exact h3 z hz hz2⟩
    | true =>
      simp only [if_true]
      cases o with
      | none =>
        refine ⟨⟨y, List.mem_cons_self, hc, rfl⟩, fun z hz hz2 => ?_⟩
        rcases List.mem_cons.1 hz with rfl | hz
        ·exact Int.le_refl _
        ·have := ih z hz; rw [this] at hz2; cases hz2
      | some r =>
        obtain ⟨⟨x, h1, h2, h4⟩, h3⟩ := ih
        by_cases hlt : y.fr < r
        ·simp only [hlt, if_true]
         refine ⟨⟨y, List.mem_cons_self, hc, rfl⟩, fun z hz hz2 => ?_⟩
         rcases List.mem_cons.1 hz with rfl | hz
         ·exact Int.le_refl _
         ·have := h3 z hz hz2; omega
        ·simp only [hlt, if_false]
         refine ⟨⟨x, List.mem_cons_of_mem _ h1, h2, h4⟩, fun z hz hz2 => ?_⟩
         rcases List.mem_cons.1 hz with rfl | hz
         ·omega
         ·exact h3 z hz hz2
 have h := this l.reverse
 rw [List.reverse_reverse] at h
 generalize l.foldl (cmpS rows a b) none = o at h ⊢
 cases o with
 | none => intro x hx; exact h x (List.mem_reverse.2 hx)
 | some r => exact ⟨by obtain ⟨⟨x, h1, h2⟩, _⟩ := h; exact ⟨x, List.mem_reverse.1 h1, h2⟩, fun x hx => h.2 x (List.mem_reverse.2 hx)⟩
theorem zhp {rows : List Row} (h1 : tI rows) {x : Row} (hx : x ∈ rows) (hk : x.kind = 2) : aJ rows x.fr = (x.a, x.b) /\ 0 <= x.fr /\ x.fr <= 1114111 := by
 obtain ⟨e1, e2, e3⟩ := h1 x hx hk
 have hf : bR rows 2 x.fr = some (x.a, x.b) := by unfold bR; rw [if_pos e2]; exact e3
 exact ⟨by unfold aJ; rw [hf], e2⟩
theorem zrz {rows : List Row} (h1 : tI rows) {r : Int} (h : aJ rows r ≠ (0, 0)) : ∃ x ∈ rows, x.kind = 2 /\ x.fr = r /\ aJ rows r = (x.a, x.b) := by
 cases hf : bR rows 2 r with
 | none => exact absurd (by unfold aJ; rw [hf]) h
 | some p =>
   obtain ⟨y, hy, hk, f1, f2⟩ := zrq hf
   obtain ⟨e1, _⟩ := h1 y hy hk
   have hr : y.fr = r := by omega
   have := (zhp h1 hy hk).1
   rw [hr] at this
   exact ⟨y, hy, hk, hr, this⟩
theorem zr0 {rows : List Row} (h1 : tI rows) {a b r : Int} (h : z7 rows a b = some r) : aJ rows r = (a, b) /\ b ≠ 0 /\ gJ rows r = false /\ (0 <= r /\ r <= 1114111) /\ ∃ x ∈ rows, x.kind = 2 /\ x.fr = r := by
 have := zry rows a b rows
 unfold z7 at h
 rw [h] at this
 obtain ⟨⟨x, hx, hc, rfl⟩, _⟩ := this
 simp only [jT, Bool.and_eq_true, decide_eq_true_eq, Bool.not_eq_true', decide_eq_false_iff_not] at hc
 obtain ⟨hk, ha, hb, h0, ho⟩ := hc
 obtain ⟨hp, hr⟩ := zhp h1 hx hk
 exact ⟨by rw [hp, ha, hb], h0, ho, hr, x, hx, hk, rfl⟩
theorem zr1 {a b r : Int} (h : nJ a b = some r) : cK r = true := by
 unfold nJ at h
 split at h
 ·rename_i hc; cases h; simp only [cK, Bool.and_eq_true, decide_eq_true_eq]; omega
 ·split at h
  ·rename_i hc; cases h; simp only [cK, Bool.and_eq_true, decide_eq_true_eq] at hc ⊢; omega
  ·cases h
structure CSt where
 P : List Int
 s : Option Int
 M : List Int
def eV (key : Int -> Int) (M : List Int) : Int := match M.getLast? with | some m => key m | none => 0
def CSt.out (st : CSt) : List Int := st.P ++ (st.s.toList ++ st.M)
def dF (key : Int -> Int) (st : CSt) (r : Int) : CSt := if key r = 0 then ⟨st.out, some r, []⟩ else ⟨st.P, st.s, st.M ++ [r]⟩
def dO (rows : List Row) (st : CSt) (r : Int) : CSt := match st.s with
 | none => dF (aG rows 1) st r
 | some a => if st.M = [] ∨ eV (aG rows 1) st.M < aG rows 1 r then (match l8 rows a r with
   | some c => ⟨st.P, some c, st.M⟩
   | none => dF (aG rows 1) st r) else dF (aG rows 1) st r
def cE (rows : List Row) (l : List Int) : CSt := l.foldl (dO rows) ⟨[], none, []⟩
def qK (rows : List Row) (l : List Int) : List Int := (cE rows l).out
theorem jU (rows : List Row) (l : List Int) (r : Int) : cE rows (l ++ [r]) = dO rows (cE rows l) r := by simp [cE]
theorem qL (key : Int -> Int) (st : CSt) (r : Int) : (dF key st r).out = st.out ++ [r] := by
 unfold dF; split <;> simp [CSt.out]
theorem zr2 (rows : List Row) (st : CSt) (r : Int) : dO rows st r = dF (aG rows 1) st r ∨ ∃ a c, st.s = some a /\ l8 rows a r = some c /\ (st.M = [] ∨ eV (aG rows 1) st.M < aG rows 1 r) /\ dO rows st r = ⟨st.P, some c, st.M⟩ := by
 unfold dO
 split
 ·exact .inl rfl
 ·rename_i a ha
  split
  ·rename_i hf
   cases hc : l8 rows a r with
   | none => exact .inl rfl
   | some c => exact .inr ⟨a, c, ha, hc, hf, rfl⟩
  ·exact .inl rfl
structure TabC (rows : List Row) : Prop where
 one : tI rows
 closed : zrp rows
 cls : dN rows
 syl : ∀ x ∈ rows, x.kind = 2 -> cK x.fr = false
 deep : ∀ x ∈ rows, x.kind = 2 -> aV rows 7 x.fr = aV rows 8 x.fr
theorem TabC.full7 {rows : List Row} (h : TabC rows) (r : Int) : aV rows 7 r = aV rows 8 r := by
 by_cases hs : cK r = true
 ·rw [jR hs, jR hs]
 ·simp only [Bool.not_eq_true] at hs
  by_cases h0 : aJ rows r = (0, 0)
  ·rw [qB hs h0, qB hs h0]
  ·obtain ⟨x, hx, hk, rfl, _⟩ := zrz h.one h0
   exact h.deep x hx hk
theorem TabC.join {rows : List Row} (h : TabC rows) {a b c : Int} (ha : dE rows a = true ∨ cK a = true) (hj : nJ a b = some c) : aV rows 8 c = aV rows 8 a ++ [b] := by
 rw [jR (zr1 hj)]
 unfold nJ at hj
 split at hj
 ·rename_i hc
  cases hj
  have hr : dE rows a = true := by
   rcases ha with ha | ha
   ·exact ha
   ·simp only [cK, Bool.and_eq_true, decide_eq_true_eq] at ha; omega
  rw [tT hr]
  unfold dT
  rw [if_pos (by omega)]
  simp only [List.cons_append, List.nil_append, List.cons.injEq, and_true]
  omega
 ·split at hj
  ·rename_i hc
   cases hj
   obtain ⟨⟨hs, h0⟩, h1, h2⟩ := hc
   rw [jR hs]
   simp only [cK, Bool.and_eq_true, decide_eq_true_eq] at hs
   unfold dT
   rw [if_neg (by omega), if_pos h0]
   simp only [List.cons_append, List.nil_append, List.cons.injEq, and_true]
   omega
  ·cases hj
theorem TabC.lead {rows : List Row} (h : TabC rows) {a : Int} (ha : 4352 <= a /\ a < 4371) : dE rows a = true := by
 have hx := h.closed (44032 + (a - 4352) * 588) a
 refine hx ?_
 have hs : cK (44032 + (a - 4352) * 588) = true := by simp only [cK, Bool.and_eq_true, decide_eq_true_eq]; omega
 rw [jR hs]
 unfold dT
 rw [if_pos (by omega), show 4352 + (44032 + (a - 4352) * 588 - 44032) / 588 = a by omega]
 exact List.mem_cons_self
theorem TabC.pair {rows : List Row} (h : TabC rows) {a b c : Int} (hb : dE rows b = true) (hc : l8 rows a b = some c) : aV rows 8 c = aV rows 8 a ++ [b] := by
 unfold l8 at hc
 split at hc
 ·rename_i s hj
  cases hc
  refine h.join ?_ hj
  unfold nJ at hj
  split at hj
  ·rename_i hq; exact .inl (h.lead hq.1)
  ·split at hj
   ·rename_i hq; exact .inr hq.1.1
   ·cases hj
 ·obtain ⟨hp, h0, _, _, x, hx, hk, rfl⟩ := zr0 h.one hc
  have hs := h.syl x hx hk
  have hn : aJ rows x.fr ≠ (0, 0) := by rw [hp]; intro e; cases e; exact h0 rfl
  rw [show (8 : Nat) = 7 + 1 from rfl]
  rw [aV, if_neg (by rw [hs]; simp), if_neg hn, hp]
  simp only
  rw [if_neg h0, h.full7, tT hb]
theorem zhq (key : Int -> Int) (M : List Int) (r : Int) : eV key (M ++ [r]) = key r := by simp [eV]
structure InvC (rows : List Row) (st : CSt) (p : List Int) : Prop where
 e : Eqv (aG rows 1) (st.out.flatMap (aV rows 8)) p
 m : ∀ m ∈ st.M, aG rows 1 m ≠ 0 /\ dE rows m = true /\ aG rows 1 m <= eV (aG rows 1) st.M
 q : st.M ≠ [] -> ∃ p' q, p = p' ++ [q] /\ eV (aG rows 1) st.M <= aG rows 1 q
theorem InvC.app {rows : List Row} {st : CSt} {p : List Int} (h : InvC rows st p) {r : Int} (hr : dE rows r = true) (hc : cD (aG rows 1) (p ++ [r])) : InvC rows (dF (aG rows 1) st r) (p ++ [r]) := by
 have he : Eqv (aG rows 1) ((dF (aG rows 1) st r).out.flatMap (aV rows 8)) (p ++ [r]) := by
  rw [qL, List.flatMap_append, List.flatMap_singleton, tT hr]
  simpa using h.e.app [] [r]
 refine ⟨he, ?_, ?_⟩
 ·unfold dF
  split
  ·intro m hm; cases hm
  ·rename_i h0
   intro m hm
   simp only at hm ⊢
   rw [zhq]
   rcases List.mem_append.1 hm with hm | hm
   ·obtain ⟨k1, k2, k3⟩ := h.m m hm
    refine ⟨k1, k2, ?_⟩
    obtain ⟨p', q, rfl, hq⟩ := h.q (List.ne_nil_of_mem hm)
    have := (l7.1 hc).2.2 q r (by simp) rfl h0
    omega
   ·rw [List.mem_singleton] at hm; subst hm; exact ⟨h0, hr, Int.le_refl _⟩
 ·unfold dF
  split
  ·intro hn; exact absurd rfl hn
  ·intro _; exact ⟨p, r, rfl, by simp only; rw [zhq]; exact Int.le_refl _⟩
theorem InvC.step {rows : List Row} (ht : TabC rows) {st : CSt} {p : List Int} (h : InvC rows st p) {r : Int} (hr : dE rows r = true) (hc : cD (aG rows 1) (p ++ [r])) : InvC rows (dO rows st r) (p ++ [r]) := by
 rcases zr2 rows st r with e | ⟨a, c, hs, hpc, hf, e⟩
 ·rw [e]; exact h.app hr hc
 ·rw [e]
  have hM : st.M.flatMap (aV rows 8) = st.M := zhk fun m hm => (h.m m hm).2.1
  have he := h.e
  simp only [CSt.out, hs, Option.toList, List.flatMap_append, List.flatMap_singleton, hM] at he
  have hlt : st.M ≠ [] -> eV (aG rows 1) st.M < aG rows 1 r := fun hn => hf.elim (fun e => absurd e hn) id
  refine ⟨?_, h.m, fun hn => ⟨p, r, rfl, Int.le_of_lt (hlt hn)⟩⟩
  simp only [CSt.out, Option.toList, List.flatMap_append, List.flatMap_singleton, hM, ht.pair hr hpc]
  refine Eqv.trans ?_ (by simpa using he.app [] [r])
  by_cases hn : st.M = []
  ·rw [hn]; simp; exact .refl _
  ·have h3 : eV (aG rows 1) st.M < aG rows 1 r := hlt hn
   have hr0 : aG rows 1 r ≠ 0 := by
    intro e0
    obtain ⟨m, hm⟩ := List.exists_mem_of_ne_nil _ hn
    obtain ⟨k1, _, k3⟩ := h.m m hm
    have := ht.cls m; omega
   have := (Eqv.ahead (key := aG rows 1) hr0 (B := st.M) [] fun m hm => ⟨(h.m m hm).1, by have := (h.m m hm).2.2; omega⟩).symm.app (st.P.flatMap (aV rows 8) ++ aV rows 8 a) []
   simpa using this
theorem zr3 {rows : List Row} (ht : TabC rows) {l : List Int} (hr : ∀ x ∈ l, dE rows x = true) (hc : cD (aG rows 1) l) : InvC rows (cE rows l) l := by
 revert hr hc
 induction l using kU with
 | h0 => intro _ _; exact ⟨.refl _, (fun m hm => by cases hm), fun hn => absurd rfl hn⟩
 | h1 l r ih =>
   intro hr hc
   rw [jU]
   exact (ih (fun x hx => hr x (by simp [hx])) (l7.1 hc).1).step ht (hr r (by simp)) hc
end Go.Eng.Rows



namespace Go.Eng
open Go Go.Proofs Go.Eng.Rows Go.Eng.Trie
end Go.Eng



namespace Go.Eng.Rows
open Go Go.Eng Go.Eng.Trie Go.Eng.Srt
def Comp (rows : List Row) (s : List Int) : Prop := ∃ d, (∀ x ∈ d, dE rows x = true) /\ cD (aG rows 1) d /\ qK rows d = s
section
variable {rows : List Row}
def iX (rows : List Row) (s : Option Int) (M : List Int) (r : Int) : Option Int := match s with
 | none => none
 | some a => if M = [] ∨ eV (aG rows 1) M < aG rows 1 r then l8 rows a r else none
theorem jV (st : CSt) (r : Int) : dO rows st r = match iX rows st.s st.M r with | some c => ⟨st.P, some c, st.M⟩ | none => dF (aG rows 1) st r := by
 unfold dO iX
 cases st.s with
 | none => rfl
 | some a =>
   simp only
   split
   ·rfl
   ·rfl
theorem z8 {s : Option Int} {M : List Int} {r c : Int} (h : iX rows s M r = some c) : ∃ a, s = some a /\ l8 rows a r = some c /\ (M = [] ∨ eV (aG rows 1) M < aG rows 1 r) := by
 unfold iX at h
 cases s with
 | none => cases h
 | some a =>
   simp only at h
   split at h
   ·rename_i hf; exact ⟨a, rfl, h, hf⟩
   ·cases h
theorem jW {d : List Int} {x : Int} : cD (aG rows 1) (d ++ [x]) ↔ cD (aG rows 1) d /\ (∀ z, d.getLast? = some z -> aG rows 1 x ≠ 0 -> aG rows 1 z <= aG rows 1 x) := by
 rw [l7]
 constructor
 ·rintro ⟨h1, _, h3⟩; exact ⟨h1, fun z hz hx => h3 z x hz rfl hx⟩
 ·rintro ⟨h1, h3⟩; exact ⟨h1, trivial, fun z x' hz hx' h0 => by simp at hx'; subst hx'; exact h3 z hz h0⟩
theorem zaa {d : List Int} {r x : Int} (h : cD (aG rows 1) (d ++ [r] ++ [x])) (hx : aG rows 1 x ≠ 0) : aG rows 1 r <= aG rows 1 x := (jW.1 h).2 r (by simp) hx
def Wit (rows : List Row) (d : List Int) (st : CSt) : Prop := ∃ e, (∀ x ∈ e, dE rows x = true) /\ cE rows e = st /\ (st.out = [] -> e = []) /\ cD (aG rows 1) e /\ ∀ x, cD (aG rows 1) (d ++ [x]) -> cD (aG rows 1) (e ++ [x])
theorem Wit.snoc {d : List Int} {st : CSt} (h : Wit rows d st) {r : Int} (hr : dE rows r = true) (hc : cD (aG rows 1) (d ++ [r])) (hn : (dO rows st r).out ≠ []) : Wit rows (d ++ [r]) (dO rows st r) := by
 obtain ⟨e, h1, h2, h3, h4, h5⟩ := h
 refine ⟨e ++ [r], fun x hx => ?_, by rw [jU, h2], fun hq => absurd hq hn, h5 r hc, fun x hx => ?_⟩
 ·rcases List.mem_append.1 hx with hx | hx
  ·exact h1 x hx
  ·rw [List.mem_singleton] at hx; subst hx; exact hr
 ·exact jW.2 ⟨h5 r hc, fun z hz h0 => by simp at hz; subst hz; exact zaa hx h0⟩
theorem zhr {key : Int -> Int} {M : List Int} (h : M ≠ []) : ∃ m ∈ M, eV key M = key m := by
 rcases M.eq_nil_or_concat with rfl | ⟨D, z, rfl⟩
 ·exact absurd rfl h
 ·exact ⟨z, by simp, by simp [eV]⟩
theorem zhs {d : List Int} (h : (cE rows d).out = []) : d = [] := by
 revert h
 induction d using kU with
 | h0 => exact fun _ => rfl
 | h1 d r ih =>
   rw [jU, jV]
   intro h
   split at h
   ·simp [CSt.out] at h
   ·rw [qL] at h; simp at h
theorem zab {d : List Int} (h : (cE rows d).s = none) : (cE rows d).P = [] := by
 revert h
 induction d using kU with
 | h0 => exact fun _ => rfl
 | h1 d r ih =>
   rw [jU, jV]
   split
   ·intro h; cases h
   ·unfold dF
    split
    ·intro h; cases h
    ·exact ih
theorem zr4 (ht : TabC rows) {d : List Int} (hr : ∀ x ∈ d, dE rows x = true) (hc : cD (aG rows 1) d) (hn : (cE rows d).M ≠ []) :
 Wit rows d ⟨(cE rows d).P, (cE rows d).s, (cE rows d).M.dropLast⟩ := by
 revert hr hc hn
 induction d using kU with
 | h0 => intro _ _ hn; exact absurd rfl hn
 | h1 d r ih =>
   intro hr hc
   have hr1 : ∀ x ∈ d, dE rows x = true := fun x hx => hr x (by simp [hx])
   have hc1 := (jW.1 hc).1
   have hinv := zr3 ht hr1 hc1
   have hrr := hr r (by simp)
   rw [jU]
   have ih := ih hr1 hc1
   have hon := zhs (rows := rows) (d := d)
   generalize hsd : cE rows d = st at *
   rw [jV]
   cases hd : iX rows st.s st.M r with
   | none =>
     simp only
     unfold dF
     split
     ·intro hn; exact absurd rfl hn
     ·rename_i h0
      intro _
      simp only [List.dropLast_concat]
      refine ⟨d, hr1, hsd, fun h => hon h, hc1, fun x hx => jW.2 ⟨hc1, fun z hz hx0 => ?_⟩⟩
      have := (jW.1 hc).2 z hz h0
      have := zaa hx hx0
      omega
   | some c =>
     simp only
     intro hn
     obtain ⟨a, hs, hp, hf⟩ := z8 hd
     have hlt := hf.elim (fun e => absurd e hn) id
     have hw := (ih hn).snoc hrr hc
     have he : dO rows ⟨st.P, st.s, st.M.dropLast⟩ r = ⟨st.P, some c, st.M.dropLast⟩ := by
      rw [jV]
      have : iX rows st.s st.M.dropLast r = some c := by
       unfold iX
       rw [hs]
       simp only
       rw [if_pos, hp]
       by_cases hdl : st.M.dropLast = []
       ·exact .inl hdl
       ·obtain ⟨m, hm, e⟩ := zhr (key := aG rows 1) hdl
        have := (hinv.m m (List.dropLast_subset _ hm)).2.2
        exact .inr (by omega)
      simp only [this]
     rw [he] at hw
     exact hw (by simp [CSt.out])
def eF (st : CSt) : CSt := match st.s, st.P with
 | none, P => ⟨P, none, st.M.tail⟩
 | some _, [] => ⟨[], none, st.M⟩
 | some c, _ :: P => ⟨P, some c, st.M⟩
theorem zr5 {st : CSt} (h : st.s = none -> st.P = []) : (eF st).out = st.out.tail := by
 obtain ⟨P, s, M⟩ := st
 cases s with
 | none =>
   have hp : P = [] := h rfl
   subst hp
   simp [eF, CSt.out]
 | some c => cases P <;> simp [eF, CSt.out]
theorem zr6 (hk : dN rows) (M : List Int) : 0 <= eV (aG rows 1) M := by
 by_cases h : M = []
 ·subst h; exact Int.le_refl _
 ·obtain ⟨m, _, e⟩ := zhr (key := aG rows 1) h
  rw [e]; exact hk m
theorem zr7 (ht : TabC rows) {d : List Int} (hr : ∀ x ∈ d, dE rows x = true) (hc : cD (aG rows 1) d) (hn : d ≠ []) : Wit rows d (eF (cE rows d)) := by
 revert hr hc hn
 induction d using kU with
 | h0 => intro _ _ hn; exact absurd rfl hn
 | h1 d r ih =>
   intro hr hc _
   have hr1 : ∀ x ∈ d, dE rows x = true := fun x hx => hr x (by simp [hx])
   have hc1 := (jW.1 hc).1
   have hrr := hr r (by simp)
   by_cases hd0 : d = []
   ·subst hd0
    refine ⟨[], fun x hx => (by cases hx), ?_, fun _ => rfl, trivial, fun x _ => trivial⟩
    rw [jU]
    show _ = eF (dF (aG rows 1) ⟨[], none, []⟩ r)
    unfold dF
    split <;> rfl
   ·have ih := ih hr1 hc1 hd0
    have hP := zab (rows := rows) (d := d)
    have hon : (cE rows d).out ≠ [] := fun h => hd0 (zhs h)
    rw [jU]
    generalize cE rows d = st at *
    have key : (eF (dO rows st r) = dO rows (eF st) r /\ (dO rows (eF st) r).out ≠ []) -> Wit rows (d ++ [r]) (eF (dO rows st r)) := fun ⟨h1, h2⟩ => by
     rw [h1]; exact ih.snoc hrr hc h2
    obtain ⟨P, s, M⟩ := st
    cases s with
    | none =>
      obtain rfl : P = [] := hP rfl
      cases M with
      | nil => exact absurd rfl hon
      | cons m M =>
        refine key ?_
        have e1 : dO rows ⟨[], none, m :: M⟩ r = dF (aG rows 1) ⟨[], none, m :: M⟩ r := rfl
        have e2 : dO rows (eF ⟨[], none, m :: M⟩) r = dF (aG rows 1) ⟨[], none, M⟩ r := rfl
        rw [e1, e2, qL]
        refine ⟨?_, by simp⟩
        unfold dF
        split <;> simp [eF, CSt.out]
    | some c =>
      cases P with
      | cons p P =>
        refine key ?_
        have e2 : eF ⟨p :: P, some c, M⟩ = ⟨P, some c, M⟩ := rfl
        rw [e2, jV, jV]
        simp only
        cases iX rows (some c) M r with
        | none => simp only; rw [qL]; refine ⟨?_, by simp⟩; unfold dF; split <;> simp [eF, CSt.out]
        | some c' => exact ⟨rfl, by simp [CSt.out]⟩
      | nil =>
        have e2 : eF ⟨[], some c, M⟩ = ⟨[], none, M⟩ := rfl
        have e3 : dO rows ⟨[], none, M⟩ r = dF (aG rows 1) ⟨[], none, M⟩ r := rfl
        cases hdec : iX rows (some c) M r with
        | none =>
          refine key ?_
          rw [e2, e3, jV]
          simp only [hdec]
          rw [qL]
          refine ⟨?_, by simp⟩
          unfold dF
          split <;> simp [eF, CSt.out]
        | some c' =>
          obtain ⟨a, _, hp, hf⟩ := z8 hdec
          have e4 : eF (dO rows ⟨[], some c, M⟩ r) = ⟨[], none, M⟩ := by
           rw [jV]; simp only [hdec]; rfl
          rw [e4]
          rw [e2] at ih
          obtain ⟨e, h1, h2, h3, h4, h5⟩ := ih
          refine ⟨e, h1, h2, h3, h4, fun x hx => jW.2 ⟨h4, fun z hz hx0 => ?_⟩⟩
          by_cases h0 : aG rows 1 r = 0
          ·have hl := zr6 ht.cls M
           have hM : M = [] := hf.elim id fun h => by omega
           subst hM
           have := h3 rfl
           subst this
           simp at hz
          ·have k1 := (jW.1 (h5 r hc)).2 z hz h0
           have k2 := zaa hx hx0
           omega
theorem zr8 {d : List Int} (hr : ∀ x ∈ d, dE rows x = true) (hc : cD (aG rows 1) d) (hn : (cE rows d).s ≠ none) : ∃ e, (∀ x ∈ e, dE rows x = true) /\ cD (aG rows 1) e /\ (cE rows e).out = (cE rows d).P := by
 revert hr hc hn
 induction d using kU with
 | h0 => intro _ _ hn; exact absurd rfl hn
 | h1 d r ih =>
   intro hr hc
   have hr1 : ∀ x ∈ d, dE rows x = true := fun x hx => hr x (by simp [hx])
   have hc1 := (jW.1 hc).1
   have ih := ih hr1 hc1
   rw [jU, jV]
   cases hd : iX rows (cE rows d).s (cE rows d).M r with
   | none =>
     simp only
     unfold dF
     split
     ·intro _; exact ⟨d, hr1, hc1, rfl⟩
     ·exact ih
   | some c =>
     obtain ⟨a, hs, _⟩ := z8 hd
     intro _
     exact ih (by rw [hs]; simp)
theorem Comp.nil : Comp rows [] := ⟨[], fun x hx => (by cases hx), trivial, rfl⟩
theorem Comp.tail (ht : TabC rows) {s : List Int} (h : Comp rows s) : Comp rows s.tail := by
 obtain ⟨d, h1, h2, rfl⟩ := h
 by_cases hd : d = []
 ·subst hd; exact .nil
 ·obtain ⟨e, k1, k2, _, k4, _⟩ := zr7 ht h1 h2 hd
  exact ⟨e, k1, k4, by unfold qK; rw [k2, zr5 zab]⟩
theorem Comp.dropLast (ht : TabC rows) {s : List Int} (h : Comp rows s) : Comp rows s.dropLast := by
 obtain ⟨d, h1, h2, rfl⟩ := h
 unfold qK
 by_cases hM : (cE rows d).M = []
 ·cases hs : (cE rows d).s with
  | none =>
    have : (cE rows d).out = [] := by simp [CSt.out, zab hs, hs, hM]
    rw [this]; exact .nil
  | some c =>
    obtain ⟨e, k1, k2, k3⟩ := zr8 h1 h2 (by rw [hs]; simp)
    refine ⟨e, k1, k2, ?_⟩
    unfold qK
    rw [k3]
    simp [CSt.out, hs, hM]
 ·obtain ⟨e, k1, k2, _, k4, _⟩ := zr4 ht h1 h2 hM
  refine ⟨e, k1, k4, ?_⟩
  unfold qK
  rw [k2]
  simp only [CSt.out]
  rw [List.dropLast_append_of_ne_nil (by simp [hM]), List.dropLast_append_of_ne_nil hM]
theorem Comp.drop (ht : TabC rows) {s : List Int} (h : Comp rows s) : ∀ k, Comp rows (s.drop k)
 | 0 => h
 | k + 1 => by
   have := (Comp.drop ht h k).tail ht
   rwa [List.tail_drop] at this
theorem Comp.take (ht : TabC rows) {s : List Int} (h : Comp rows s) (k : Nat) : Comp rows (s.take k) := by
 have : ∀ n, Comp rows (s.take (s.length - n)) := by
  intro n
  induction n with
  | zero => rw [Nat.sub_zero, List.take_length]; exact h
  | succ n ih =>
    have := ih.dropLast ht
    rw [List.dropLast_eq_take, List.take_take, List.length_take] at this
    rwa [show min (min (s.length - n) s.length - 1) (s.length - n) = s.length - (n + 1) by omega] at this
 by_cases hk : k <= s.length
 ·have := this (s.length - k)
  rwa [show s.length - (s.length - k) = k by omega] at this
 ·rw [List.take_of_length_le (by omega)]; exact h
end
end Go.Eng.Rows



namespace Go.Eng
open Go Go.Proofs
end Go.Eng



namespace Go.Eng
open Go Go.Proofs Go.Eng.Rows Go.Eng.Trie Go.Eng.Srt
section
variable {rows : List Row} {v : PV}
def zht (st : CSt) : Int := match st.s with | none => -1 | some _ => st.P.length
def JC (rows : List Row) (L : List Int) (x6 x7 i : Int) (s : List (List PV)) : Prop := (0 <= i /\ i <= L.length) /\ s = aA (cE rows (L.take i.toNat)).out /\ x6 = zht (cE rows (L.take i.toNat)) /\ x7 = eV (aG rows 1) (cE rows (L.take i.toNat)).M
theorem JC.next {L : List Int} {i : Int} (h0 : 0 <= i) (hi : i.toNat < L.length) {st : CSt} (he : dO rows (cE rows (L.take i.toNat)) L[i.toNat] = st) : JC rows L (zht st) (eV (aG rows 1) st.M) (i + 1) (aA st.out) := by
 have e : cE rows (L.take (i + 1).toNat) = st := by
  rw [show (i + 1).toNat = i.toNat + 1 by omega, bW hi, jU, he]
 exact ⟨⟨by omega, by omega⟩, by rw [e], by rw [e], by rw [e]⟩
end
end Go.Eng



namespace Go.Eng
open Go Go.Proofs Go.Eng.Rows Go.Eng.Trie Go.Eng.Srt
theorem v22 : Tryz.prog.underlying 23 = some (.slice 21) := by kernel_rfl
theorem v21 : Tryz.prog.underlying 21 = some (.int .i32) := by kernel_rfl
theorem zr9 {v : PV} (h : m8 Tryz.prog 8 23 v) : ∃ nl l, v = .sl nl false (aA l) /\ R32 l := by
 obtain ⟨nl, l, e, hl, _, hr⟩ := zmr v22 v21 (zms (by kernel_rfl) h)
 cases e
 exact ⟨nl, l, rfl, hr⟩
end Go.Eng



namespace Go.Eng.Rows
open Go Go.Eng Go.Eng.Trie Go.Eng.Srt
def dI (L : List Int) (a b : Nat) : List Int := (L.take b).drop a
def zsa (rows : List Row) (L want : List Int) (a b : Nat) : Bool := decide (cR rows (dI L a b) = want)
def fTo (p : Nat -> Bool) (b : Nat) : Nat -> Option Nat
 | 0 => none
 | k + 1 => if p b then some b else fTo p (b + 1) k
def zhu (rows : List Row) (L want : List Int) (a : Nat) : Nat -> Option (Nat × Nat)
 | 0 => none
 | k + 1 => match fTo (zsa rows L want a) a (L.length + 1 - a) with
   | some b => some (a, b)
   | none => zhu rows L want (a + 1) k
def findL (rows : List Row) (L want : List Int) : Option (Nat × Nat) := zhu rows L want 0 (L.length + 1)
end Go.Eng.Rows



namespace Go.Eng
open Go Go.Proofs
end Go.Eng



namespace Go.Eng
open Go Go.Proofs Go.Eng.Rows Go.Eng.Trie Go.Eng.Srt
theorem zsb (l : List Int) (k : Nat) : (l.take k).length <= k := by rw [List.length_take]; omega
theorem zac {len : Nat} {i j : Int} (h0 : 0 <= i) (h1 : i <= j) (h2 : j <= len) : c6 len (some i) (some j) none := ⟨h0, h1, h2, trivial⟩
theorem zad (L : List Int) (i j : Nat) : List.drop i (List.take j (aA L)) = aA (dI L i j) := by simp [aA, dI]
theorem R32.sub {L : List Int} (h : R32 L) (i j : Nat) : R32 (dI L i j) := fun x hx => h x (List.mem_of_mem_take (List.mem_of_mem_drop hx))
theorem zsc (L : List Int) (i j : Nat) : (dI L i j).length <= L.length := by unfold dI; rw [List.length_drop, List.length_take]; omega
theorem w3 : Tryz.prog.underlying 3 = some (.int .i64) := by kernel_rfl
end Go.Eng



namespace Go.Eng
open Go Go.Proofs
def zhv (T : PV) (r : Int) (R : PV -> Prop) : Prop :=
 (∃ ps, some T = some (PV.ptr ps) /\ PCall Tryz.prog 80 [PV.ptr ps, Z3 r] fun v => ∃ n, v = Z6 n /\ R (Zb (n != 0))) ∨ some T = some PV.nilp /\ PCall Tryz.prog 80 [PV.nilp, Z3 r] fun v => ∃ n, v = Z6 n /\
 R (Zb (n != 0))
theorem zsd (T : PV) (r : Int) {R : PV -> Prop} (h : zhv T r R) : PCall Tryz.prog 79 [.int .i32 r, .ptr [T]] R :=
 PCall.of Tryz.func79 (by kernel_rfl) (by kernel_rfl) (zl (by kernel_rfl)) (Eq.mpr (by kernel_rfl : aP Tryz.prog (fun _ => none) Tryz.f79 [0, 1, 3] (fun _ => none) (Tryz.f79.body.getD .skip) [.int .i32 r, .ptr [T]] R = _) h)

def zae (n f : Bool) (es : LL) (T : PV) (x8 : Int) : Env × Hp := ([(0, LV.pv (PV.sl n f es)), (1, LV.pv (PV.fn 79 [PV.ptr [T]])), (7, Y6 ↑es.length), (8, Y6 x8)], [])
def zhw (n f : Bool) (es : LL) (T : PV) (J : Int -> Prop) (μ : Int -> Nat) (R : PV -> Prop) : Prop :=
 (aB (zae n f es T (0 : Int)) /\ J (0 : Int)) /\ ∀ (x8 : Int), J x8 -> if decide (x8 < (↑es.length : Int)) = true then aL es x8 1 /\ ∃ n1, (es.getD x8.toNat []).head? = some (Z3 n1) /\ PCall Tryz.prog 79 [Z3 n1, PV.ptr [T]] fun
 (v : PV) => ∃ b, v = Zb b /\ if b = true then R (Z6 x8) else aB (zae n f es T (i64.wrap (x8 + 1))) /\ J (i64.wrap (x8 + 1)) /\ μ (i64.wrap (x8 + 1)) < μ x8 else R (Z6 (-1 : Int))
theorem zse (n f : Bool) (es : LL) (T : PV) (J : Int -> Prop) (μ : Int -> Nat) {R : PV -> Prop} (h : zhw n f es T J μ R) : PCall Tryz.prog 119 [.sl n f es, .fn 79 [.ptr [T]]] R :=
 PCall.of Tryz.func119 (by kernel_rfl) (by kernel_rfl) (zl (by kernel_rfl)) (Eq.mpr (by kernel_rfl : aP Tryz.prog (fun _ => none) Tryz.f119 [0, 1, 4, 5, 7, 8, 9, 16] (fun zz_ => match zz_ with | 2 => some ⟨Int × Unit, fun s => zae n f es T s.1, fun _ s => J s.1, fun s => μ s.1, fun e h => (((gI e 8), ())), [], [0, 1, 7, 8], [], fun p => ∀ (x8 : Int), p (x8, ()), fun p h s => h s.1⟩ | _ => none) (Tryz.f119.body.getD .skip) [.sl n f es, .fn 79 [.ptr [T]]] R = _) h)

def tX (nl : Bool) (es : LL) (T : PV) (x5 x6 : Int) (s_0 : LL) : Env × Hp := ([(0, LV.own 0), (1, LV.fn 79 [LV.box 1 0]), (5, Y6 x5), (6, Y6 x6)], [.sl (21, 1) false nl s_0, .box [LV.pv T]])
def zhx (nl : Bool) (es : LL) (T : PV) (J : Int -> Int -> LL -> Prop) (μ : Int -> Int -> LL -> Nat) (R : LV -> Hp -> Prop) : Prop :=
 PCall Tryz.prog 119 [PV.sl nl false es, PV.fn 79 [PV.ptr [T]]] fun v => ∃ n, v = Z6 n /\ true = true /\ if (n == (-1 : Int)) = true then R (LV.own 0) [Ob.sl (21, 1) false nl es, Ob.box [LV.pv T]] else (aB (tX nl es T n
 (i64.wrap (n + 1)) es) /\ J n (i64.wrap (n + 1)) es) /\ ∀ (x5 x6 : Int) (s_0 : LL), J x5 x6 s_0 -> if decide (x6 < (↑s_0.length : Int)) = true then aL s_0 x6 1 /\ ∃ n1, (List.drop 0 (s_0.getD x6.toNat [])).head? =
 some (Z3 n1) /\ PCall Tryz.prog 79 [Z3 n1, PV.ptr [T]] fun v1 => ∃ b, v1 = Zb b /\ true = true /\ if (!b) = true then aL s_0 x5 1 /\ (1 = 1 /\ 1 <= (s_0.getD x5.toNat []).length) /\ aB (tX nl es T (i64.wrap (x5 +
 1)) (i64.wrap (x6 + 1)) (s_0.set x5.toNat (Z3 n1 :: zq (List.drop 1 (s_0.getD x5.toNat []))))) /\ J (i64.wrap (x5 + 1)) (i64.wrap (x6 + 1)) (s_0.set x5.toNat (Z3 n1 :: List.append._f []
 PUnit.unit (List.drop 1 (s_0.getD x5.toNat [])))) /\ μ (i64.wrap (x5 + 1)) (i64.wrap (x6 + 1)) (s_0.set x5.toNat (Z3 n1 :: zq (List.drop 1 (s_0.getD x5.toNat [])))) < μ x5 x6 s_0 else aB (tX nl
 es T x5 (i64.wrap (x6 + 1)) s_0) /\ J x5 (i64.wrap (x6 + 1)) s_0 /\ μ x5 (i64.wrap (x6 + 1)) s_0 < μ x5 x6 s_0 else c6 s_0.length (some x5) none none /\ c6 (aO s_0 x5.toNat (List.replicate ((↑s_0.length :
 Int).toNat - x5.toNat) [Z3 0])).length none (some x5) none /\ R (LV.sub 0 0 x5.toNat) [Ob.sl (21, 1) false nl (aO s_0 x5.toNat (List.replicate ((↑s_0.length : Int).toNat - x5.toNat) [Z3 0])), Ob.box [LV.pv T]]
theorem zsf (nl : Bool) (es : LL) (T : PV) (J : Int -> Int -> LL -> Prop) (μ : Int -> Int -> LL -> Nat) {R : LV -> Hp -> Prop} (h : zhx nl es T J μ R) : ACall Tryz.prog 77 [.own 0, .fn 79 [.box 1 0]] [.sl (21, 1) false nl es, .box [.pv T]] R :=
 ACall.of Tryz.func77 (by kernel_rfl) (by kernel_rfl) (zl (by kernel_rfl)) (Eq.mpr (by kernel_rfl : dR Tryz.prog (fun _ => none) Tryz.f77 [0, 1, 4, 5, 6, 7, 12, 19, 29] (fun zz_ => match zz_ with | 5 => some ⟨Int × Int × LL, fun s => tX nl es T s.1 s.2.1 s.2.2, fun _ s => J s.1 s.2.1 s.2.2, fun s => μ s.1 s.2.1 s.2.2, fun e h => (gI e 5, gI e 6, oS h 0), [], [0, 1, 5, 6], [], fun p => ∀ (x5 x6 : Int) (s_0 : LL), p (x5, x6, s_0), fun p h s => h s.1 s.2.1 s.2.2⟩ | _ => none) [0, 1] (Tryz.f77.body.getD .skip) [.own 0, .fn 79 [.box 1 0]] [.sl (21, 1) false nl es, .box [.pv T]] R = _) h)

def zaf (tc tg tj tf tp : PV) (M S : List (PV × PV)) (n f : Bool) (es : LL) (x12 : Int) (h0_0 : PV) (n_1 : Bool) (s_1 : LL) : Env × Hp := ([(0, LV.pv (PV.ptr [tc, tg, tj, tf, tp, PV.mp M, PV.mp S])), (5, LV.box 0 0), (10, LV.pv (PV.sl n f es)), (11, Y6 ↑es.length), (12, Y6 x12)], [.box [.pv h0_0, LV.own 1], .sl (21, 1) true n_1 s_1])
def zhy (tc tg tj tf tp : PV) (M S : List (PV × PV)) (n f : Bool) (es : LL) (J : Int -> PV -> Bool -> LL -> Prop) (μ : Int -> PV -> Bool -> LL -> Nat) (R : LV -> Hp -> Prop) : Prop :=
 eJ (PV.ptr [tc, tg, tj, tf, tp, PV.mp M, PV.mp S]) = true /\ (aB (zaf tc tg tj tf tp M S n f es (0 : Int) (PV.ptr [tc, tg, tj, tf, tp, PV.mp M, PV.mp S]) true []) /\ J (0 : Int) (PV.ptr [tc, tg, tj, tf, tp, PV.mp M, PV.mp S]) true
 []) /\ ∀ (x12 : Int) (h0_0 : PV) (n_1 : Bool) (s_1 : LL), J x12 h0_0 n_1 s_1 -> if decide (x12 < (↑es.length : Int)) = true then aL es x12 1 /\ ∃ n1, (es.getD x12.toNat []).head? = some (Z3 n1) /\ ACall Tryz.prog 120 [LV.box 0 0,
 LV.pv (Z3 n1), Y6 8] [Ob.box [LV.pv h0_0, LV.own 1], Ob.sl (21, 1) false n_1 s_1] fun (r : LV) (h' : Hp) => ∃ (t : Bool × LL), (r = LV.tup [] /\ h' = [Ob.box [LV.pv h0_0, LV.own 1], Ob.sl (21, 1) true t.fst t.snd]) /\ (True /\ True /\ True) /\
 aB (zaf tc tg tj tf tp M S n f es (i64.wrap (x12 + 1)) h0_0 t.fst t.snd) /\ J (i64.wrap (x12 + 1)) h0_0 t.fst t.snd /\ μ (i64.wrap (x12 + 1)) h0_0 t.fst t.snd < μ x12 h0_0 n_1 s_1 else ACall Tryz.prog 121 [LV.pv
 (PV.ptr [tc, tg, tj, tf, tp, PV.mp M, PV.mp S]), LV.own 0] [Ob.sl (21, 1) false n_1 s_1] fun (r : LV) (h' : Hp) => ∃ (t : Bool × LL), (r = LV.own 1 /\ h' = [Ob.sl (21, 1) false n_1 s_1, Ob.sl (21, 1) false t.fst t.snd]) /\ (((21, 1) = (21, 1)
 /\ n_1 = n_1 /\ s_1.length = s_1.length) /\ True) /\ R (LV.own 0) [Ob.sl (21, 1) false t.fst t.snd]
theorem zsg (tc tg tj tf tp : PV) (M S : List (PV × PV)) (n f : Bool) (es : LL) (J : Int -> PV -> Bool -> LL -> Prop) (μ : Int -> PV -> Bool -> LL -> Nat) {R : LV -> Hp -> Prop} (h : zhy tc tg tj tf tp M S n f es J μ R) : ACall Tryz.prog 78 [.pv (.ptr [tc, tg, tj, tf, tp, .mp M, .mp S]), .pv (.sl n f es)] [] R :=
 ACall.ofA Tryz.func78 (by kernel_rfl) (by kernel_rfl) (zl (by kernel_rfl)) (Eq.mpr (by kernel_rfl : m7 Tryz.prog (fun zz_ => match zz_ with | 120 => some ⟨Bool × LL, fun _ hs t => (.tup [], match hs with | [.box (x :: _), .sl ty _ _ _] => [.box [x, .own 1], .sl ty true t.1 t.2] | [.box (x :: _)] => [.box [x, .own 1], .sl (21, 1) true t.1 t.2] | h => h), none⟩ | 121 => some ⟨Bool × LL, fun _ hs t => (.own hs.length, hs ++ [.sl (21, 1) false t.1 t.2]), none⟩ | _ => none) Tryz.f78 [0, 1, 4, 5, 7, 10, 11, 12, 13] (fun zz_ => match zz_ with | 3 => some ⟨Int × PV × Bool × LL, fun s => zaf tc tg tj tf tp M S n f es s.1 s.2.1 s.2.2.1 s.2.2.2, fun _ s => J s.1 s.2.1 s.2.2.1 s.2.2.2, fun s => μ s.1 s.2.1 s.2.2.1 s.2.2.2, fun e h => (gI e 12, hP h 0 0, oN h 1, oS h 1), [(1000001, 21, 1)], [0, 5, 10, 11, 12], [], fun p => ∀ (x12 : Int) (h0_0 : PV) (n_1 : Bool) (s_1 : LL), p (x12, h0_0, n_1, s_1), fun p h s => h s.1 s.2.1 s.2.2.1 s.2.2.2⟩ | _ => none) (Tryz.f78.body.getD .skip) [.pv (.ptr [tc, tg, tj, tf, tp, .mp M, .mp S]), .pv (.sl n f es)] [] R = _) h)

def zhz (tc tg tj tf tp : PV) (M S : List (PV × PV)) (n f : Bool) (es : LL) (R : PV -> Prop) : Prop :=
 ACall Tryz.prog 78 [LV.pv (PV.ptr [tc, tg, tj, tf, tp, PV.mp M, PV.mp S]), LV.pv (PV.sl n f es)] [] fun (r : LV) (h' : Hp) => ∃ (t : Bool × LL), (r = LV.own 0 /\ h' = [Ob.sl (21, 1) false t.fst t.snd]) /\ True /\ ACall Tryz.prog 77 [LV.own 0,
 LV.fn 79 [LV.box 1 0]] [Ob.sl (21, 1) false t.fst t.snd, Ob.box [LV.pv (PV.ptr [tc, tg, tj, tf, tp, PV.mp M, PV.mp S])]] fun (r1 : LV) (h'1 : Hp) => (∃ (t1 : LL), (r1 = LV.own 0 /\ h'1 = [Ob.sl (21, 1) false t.fst t1, Ob.box [LV.pv (PV.ptr
 [tc, tg, tj, tf, tp, PV.mp M, PV.mp S])]]) /\ (True /\ ((21, 1) = (21, 1) /\ t.fst = t.fst /\ t.snd.length = t1.length) /\ True) /\ R (PV.sl t.fst false t1)) ∨ ∃ (t1 : LL × Nat), (r1 = LV.sub 0 0 t1.snd /\ h'1 = [Ob.sl (21, 1) false t.fst t1.fst,
 Ob.box [LV.pv (PV.ptr [tc, tg, tj, tf, tp, PV.mp M, PV.mp S])]]) /\ (True /\ ((21, 1) = ((21 : Nat), 1) /\ t.fst = t.fst /\ t.snd.length = t1.fst.length) /\ True) /\ R (PV.sl t.fst false (List.take (t1.snd - 0) (List.drop 0 t1.fst)))
theorem zsh (tc tg tj tf tp : PV) (M S : List (PV × PV)) (n f : Bool) (es : LL) {R : PV -> Prop} (h : zhz tc tg tj tf tp M S n f es R) : PCall Tryz.prog 35 [.ptr [tc, tg, tj, tf, tp, .mp M, .mp S], .sl n f es] R :=
 PCall.of Tryz.func35 (by kernel_rfl) (by kernel_rfl) (zl (by kernel_rfl)) (Eq.mpr (by kernel_rfl : aP Tryz.prog (fun zz_ => match zz_ with | 78 => some ⟨Bool × LL, fun _ hs t => (.own hs.length, hs ++ [.sl (21, 1) false t.1 t.2]), none⟩ | 77 => some ⟨LL, fun _ hs t => (.own 0, match hs with | [.sl ty m nl _, b] => [.sl ty m nl t, b] | h => h), some ⟨LL × Nat, fun _ hs t => (.sub 0 0 t.2, match hs with | [.sl ty m nl _, b] => [.sl ty m nl t.1, b] | h => h)⟩⟩ | _ => none) Tryz.f35 [0, 1, 2, 4] (fun _ => none) (Tryz.f35.body.getD .skip) [.ptr [tc, tg, tj, tf, tp, .mp M, .mp S], .sl n f es] R = _) h)

def zag (tc tg tj tf tp : PV) (M S : List (PV × PV)) (n f : Bool) (es : LL) (x6 : Int) (n11 f11 : Bool) (s11 : LL) (x12 x13 : Int) (n_0 : Bool) (s_0 : LL) : Env × Hp := ([(0, LV.pv (PV.ptr [tc, tg, tj, tf, tp, PV.mp M, PV.mp S])), (5, LV.own 0), (6, Y6 x6), (11, .pv (.sl n11 f11 s11)), (12, Y6 x12), (13, Y6 x13)], [.sl (102, 3) true n_0 s_0])
def zh0 (tc tg tj tf tp : PV) (M S : List (PV × PV)) (n f : Bool) (es : LL) (J : Int -> Bool -> Bool -> LL -> Int -> Int -> Bool -> LL -> Prop) (μ : Int -> Bool -> Bool -> LL -> Int -> Int -> Bool -> LL -> Nat) (R : PV -> Prop) : Prop :=
 PCall Tryz.prog 81 [PV.ptr [tc, tg, tj, tf, tp, PV.mp M, PV.mp S], PV.sl n f es] fun v => ∃ n1 f1 es1, v = PV.sl n1 f1 es1 /\ (aB (zag tc tg tj tf tp M S n f es (0 : Int) n1 f1 es1 (↑es1.length :
 Int) (0 : Int) true []) /\ J (0 : Int) n1 f1 es1 (↑es1.length : Int) (0 : Int) true []) /\ ∀ (x6 : Int) (n11 f11 : Bool) (s11 : LL) (x12 x13 : Int) (n_0 : Bool) (s_0 : LL), J x6 n11 f11 s11 x12 x13 n_0 s_0 -> if decide (x13 < x12) = true then
 aL s11 x13 1 /\ ∃ n2 f2 es2, (s11.getD x13.toNat []).head? = some (PV.sl n2 f2 es2) /\ PCall Tryz.prog 35 [PV.ptr [tc, tg, tj, tf, tp, PV.mp M, PV.mp S], PV.sl n2 f2 es2] fun v1 => ∃ n3, ∃ (f3
 : Bool), ∃ es3, v1 = PV.sl n3 f3 es3 /\ (aQ [[Z6 x6, Z6 (i64.wrap (x6 + (↑es2.length : Int))), PV.sl n3 f3 es3]] 3 /\ (s_0.length + 1) * (40 : Nat) <= 140737488355328) /\ aB (zag tc tg tj tf tp M S n f es (i64.wrap
 (x6 + (↑es2.length : Int))) n11 f11 s11 x12 (i64.wrap (x13 + 1)) (n_0 && false) (s_0 ++ [[Z6 x6, Z6 (i64.wrap (x6 + (↑es2.length : Int))), PV.sl n3 f3 es3]])) /\ J (i64.wrap (x6 + (↑es2.length : Int))) n11 f11 s11 x12
 (i64.wrap (x13 + 1)) (n_0 && false) (s_0 ++ [[Z6 x6, Z6 (i64.wrap (x6 + (↑es2.length : Int))), PV.sl n3 f3 es3]]) /\ μ (i64.wrap (x6 + (↑es2.length : Int))) n11 f11 s11 x12 (i64.wrap (x13 + 1)) (n_0 && false)
 (s_0 ++ [[Z6 x6, Z6 (i64.wrap (x6 + (↑es2.length : Int))), PV.sl n3 f3 es3]]) < μ x6 n11 f11 s11 x12 x13 n_0 s_0 else R (PV.sl n_0 false s_0)
theorem zsi (tc tg tj tf tp : PV) (M S : List (PV × PV)) (n f : Bool) (es : LL) (J : Int -> Bool -> Bool -> LL -> Int -> Int -> Bool -> LL -> Prop) (μ : Int -> Bool -> Bool -> LL -> Int -> Int -> Bool -> LL -> Nat) {R : PV -> Prop} (h : zh0 tc tg tj tf tp M S n f es J μ R) : PCall Tryz.prog 69 [.ptr [tc, tg, tj, tf, tp, .mp M, .mp S], .sl n f es] R :=
 PCall.of Tryz.func69 (by kernel_rfl) (by kernel_rfl) (zl (by kernel_rfl)) (Eq.mpr (by kernel_rfl : aP Tryz.prog (fun _ => none) Tryz.f69 [0, 1, 4, 5, 6, 8, 11, 12, 13, 14] (fun zz_ => match zz_ with | 4 => some ⟨Int × Bool × Bool × LL × Int × Int × Bool × LL, fun s => zag tc tg tj tf tp M S n f es s.1 s.2.1 s.2.2.1 s.2.2.2.1 s.2.2.2.2.1 s.2.2.2.2.2.1 s.2.2.2.2.2.2.1 s.2.2.2.2.2.2.2, fun _ s => J s.1 s.2.1 s.2.2.1 s.2.2.2.1 s.2.2.2.2.1 s.2.2.2.2.2.1 s.2.2.2.2.2.2.1 s.2.2.2.2.2.2.2, fun s => μ s.1 s.2.1 s.2.2.1 s.2.2.2.1 s.2.2.2.2.1 s.2.2.2.2.2.1 s.2.2.2.2.2.2.1 s.2.2.2.2.2.2.2, fun e h => (gI e 6, gN e 11, gF e 11, gS e 11, gI e 12, gI e 13, oN h 0, oS h 0), [(5, 102, 3)], [0, 5, 6, 11, 12, 13], [], fun p => ∀ (x6 : Int) (n11 f11 : Bool) (s11 : LL) (x12 x13 : Int) (n_0 : Bool) (s_0 : LL), p (x6, n11, f11, s11, x12, x13, n_0, s_0), fun p h s => h s.1 s.2.1 s.2.2.1 s.2.2.2.1 s.2.2.2.2.1 s.2.2.2.2.2.1 s.2.2.2.2.2.2.1 s.2.2.2.2.2.2.2⟩ | _ => none) (Tryz.f69.body.getD .skip) [.ptr [tc, tg, tj, tf, tp, .mp M, .mp S], .sl n f es] R = _) h)

def zah (tc tg tj tf tp : PV) (M S : List (PV × PV)) (n f : Bool) (es : LL) (n2 f2 : Bool) (ss : LL) (n9 f9 : Bool) (s9 : LL) (n10 f10 : Bool) (s10 : LL) (x26 x27 : Int) : Env × Hp := ([(9, .pv (.sl n9 f9 s9)), (10, .pv (.sl n10 f10 s10)), (26, Y6 x26), (27, Y6 x27)], [])
def zai (tc tg tj tf tp : PV) (M S : List (PV × PV)) (n f : Bool) (es : LL) (n2 f2 : Bool) (ss : LL) (n9 f9 : Bool) (s9 : LL) (n10 f10 : Bool) (s10 : LL) (x11 : Int) (n12 f12 : Bool) (s12 : LL) (x13 : Bool) (x26 x27 : Int) (n33 f33 : Bool) (s33 : LL) (x34 x35 : Int) : Env × Hp := ([(9, .pv (.sl n9 f9 s9)), (10, .pv (.sl n10 f10 s10)), (11, Y6 x11), (12, .pv (.sl n12 f12 s12)), (13, .pv (.bool x13)), (26, Y6 x26), (27, Y6 x27), (33, .pv (.sl n33 f33 s33)), (34, Y6 x34), (35, Y6 x35)], [])
def zh1 (tc tg tj tf tp : PV) (M S : List (PV × PV)) (n f : Bool) (es : LL) (n2 f2 : Bool) (ss : LL) (J : Bool -> Bool -> LL -> Bool -> Bool -> LL -> Int -> Int -> Prop) (μ : Bool -> Bool -> LL -> Bool -> Bool -> LL -> Int -> Int -> Nat) (J2 : Bool -> Bool -> LL -> Bool -> Bool -> LL -> Int -> Bool -> Bool -> LL -> Bool -> Int -> Int -> Bool -> Bool -> LL -> Int -> Int -> Bool -> Bool -> LL -> Bool -> Bool -> LL -> Int -> Bool -> Bool -> LL -> Bool -> Int -> Int -> Bool -> Bool -> LL -> Int -> Int -> Prop) (μ2 : Bool -> Bool -> LL -> Bool -> Bool -> LL -> Int -> Bool -> Bool -> LL -> Bool -> Int -> Int -> Bool -> Bool -> LL -> Int -> Int -> Nat) (R : PV -> Prop) : Prop :=
 PCall Tryz.prog 35 [PV.ptr [tc, tg, tj, tf, tp, PV.mp M, PV.mp S], PV.sl n2 f2 ss] fun v => ∃ n1 f1 es1, v = PV.sl n1 f1 es1 /\ if ((↑es1.length : Int) == 0) = true then R (PV.tup [Z6 0, Z6 0, Zb true])
  else PCall Tryz.prog 69 [PV.ptr [tc, tg, tj, tf, tp, PV.mp M, PV.mp S], PV.sl n f es] fun v1 => ∃ n3 f3 es2, v1 = PV.sl n3 f3 es2 /\ (aB (zah tc tg tj tf tp M S n f es n2 f2 ss n1 f1 es1 n3 f3 es2
  (↑es2.length : Int) (0 : Int)) /\ J n1 f1 es1 n3 f3 es2 (↑es2.length : Int) (0 : Int)) /\ ∀ (n9 f9 : Bool) (s9 : LL) (n10 f10 : Bool) (s10 : LL) (x26 x27 : Int), J n9 f9 s9 n10 f10 s10 x26 x27 -> if decide (x27 < x26) = true then (c6
  s10.length (some x27) none none /\ aQ s10 3) /\ (aB (zai tc tg tj tf tp M S n f es n2 f2 ss n9 f9 s9 n10 f10 s10 x27 n9 f9 s9 true x26 x27 n10 (f10 && decide ((↑s10.length : Int) = (↑s10.length : Int))) (List.drop x27.toNat
  (List.take (↑s10.length : Int).toNat s10)) (↑(List.drop x27.toNat (List.take (↑s10.length : Int).toNat s10)).length : Int) (0 : Int)) /\ J2 n9 f9 s9 n10 f10 s10 x27 n9 f9 s9 true x26 x27 n10 (f10 && decide ((↑s10.length : Int) =
  (↑s10.length : Int))) (List.drop x27.toNat (List.take (↑s10.length : Int).toNat s10)) (↑(List.drop x27.toNat (List.take (↑s10.length : Int).toNat s10)).length : Int) (0 : Int) n9 f9 s9 n10 f10 s10 x27 n9 f9 s9 true x26 x27 n10 (f10 &&
  decide ((↑s10.length : Int) = (↑s10.length : Int))) (List.drop x27.toNat (List.take (↑s10.length : Int).toNat s10)) (↑(List.drop x27.toNat (List.take (↑s10.length : Int).toNat s10)).length : Int) (0 : Int)) /\ ∀ (n91 f91 : Bool) (s91 :
  LL) (n101 f101 : Bool) (s101 : LL) (x11 : Int) (n12 f12 : Bool) (s12 : LL) (x13 : Bool) (x261 x271 : Int) (n33 f33 : Bool) (s33 : LL) (x34 x35 : Int), J2 n9 f9 s9 n10 f10 s10 x27 n9 f9 s9 true x26 x27 n10 (f10 && decide ((↑s10.length :
  Int) = (↑s10.length : Int))) (List.drop x27.toNat (List.take (↑s10.length : Int).toNat s10)) (↑(List.drop x27.toNat (List.take (↑s10.length : Int).toNat s10)).length : Int) (0 : Int) n91 f91 s91 n101 f101 s101 x11 n12 f12 s12 x13 x261
  x271 n33 f33 s33 x34 x35 ->
 let V1 := aB (zah tc tg tj tf tp M S n f es n2 f2 ss n91 f91 s91 n101 f101 s101 x261 (i64.wrap (x271 + 1))) /\ J n91 f91 s91 n101 f101 s101 x261 (i64.wrap (x271 + 1)) /\ μ n91 f91 s91 n101 f101 s101 x261
  (i64.wrap (x271 + 1)) < μ n9 f9 s9 n10 f10 s10 x26 x27; if decide (x35 < x34) = true then aL s33 x35 3 /\ ∃ n4, (s33.getD x35.toNat []).head? = some (Z6 n4) /\ ∃ n5, (s33.getD x35.toNat []).tail.head? = some (Z6
  n5) /\ ∃ n6 f4 es3, (s33.getD x35.toNat []).tail.tail.head? = some (PV.sl n6 f4 es3) /\ if decide ((↑es3.length : Int) > (↑s12.length : Int)) = true then V1 else (c6 s12.length none (some (↑es3.length :
  Int)) none /\ aQ s12 1) /\ PCall Tryz.prog 70 [PV.sl n6 f4 es3, PV.sl n12 (f12 && decide ((↑es3.length : Int) = (↑s12.length : Int))) (List.drop 0 (List.take (↑es3.length : Int).toNat s12))] fun v2 => ∃ b, v2 = Zb b /\ if
  (!b) = true then V1 else (c6 s12.length (some (↑es3.length : Int)) none none /\ aQ s12 1) /\ if ((↑(List.drop (↑es3.length : Int).toNat (List.take (↑s12.length : Int).toNat s12)).length : Int) == 0) = true then aL s101 x11 3 /\ ∃ (n7
  : Int), (List.drop 0 (s101.getD x11.toNat [])).head? = some (Z6 n7) /\ R (PV.tup [Z6 n7, Z6 n5, Zb true]) else aB (zai tc tg tj tf tp M S n f es n2 f2 ss n91 f91 s91 n101 f101 s101 x11 n12 (f12 && decide ((↑s12.length : Int) =
  (↑s12.length : Int))) (List.drop (↑es3.length : Int).toNat (List.take (↑s12.length : Int).toNat s12)) x13 x261 x271 n33 f33 s33 x34 (i64.wrap (x35 + 1))) /\ J2 n9 f9 s9 n10 f10 s10 x27 n9 f9 s9 true x26 x27 n10 (f10 && decide
  ((↑s10.length : Int) = (↑s10.length : Int))) (List.drop x27.toNat (List.take (↑s10.length : Int).toNat s10)) (↑(List.drop x27.toNat (List.take (↑s10.length : Int).toNat s10)).length : Int) (0 : Int) n91 f91 s91 n101 f101 s101 x11 n12
  (f12 && decide ((↑s12.length : Int) = (↑s12.length : Int))) (List.drop (↑es3.length : Int).toNat (List.take (↑s12.length : Int).toNat s12)) x13 x261 x271 n33 f33 s33 x34 (i64.wrap (x35 + 1)) /\ μ2 n91 f91 s91 n101 f101 s101 x11
  n12 (f12 && decide ((↑s12.length : Int) = (↑s12.length : Int))) (List.drop (↑es3.length : Int).toNat (List.take (↑s12.length : Int).toNat s12)) x13 x261 x271 n33 f33 s33 x34 (i64.wrap (x35 + 1)) < μ2 n91 f91 s91 n101 f101 s101
  x11 n12 f12 s12 x13 x261 x271 n33 f33 s33 x34 x35 else if x13 = true then R (PV.tup [Z6 0, Z6 0, Zb false]) else V1 else R (PV.tup [Z6 0, Z6 0, Zb false])
theorem zsj (tc tg tj tf tp : PV) (M S : List (PV × PV)) (n f : Bool) (es : LL) (n2 f2 : Bool) (ss : LL) (J : Bool -> Bool -> LL -> Bool -> Bool -> LL -> Int -> Int -> Prop) (μ : Bool -> Bool -> LL -> Bool -> Bool -> LL -> Int -> Int -> Nat) (J2 : Bool -> Bool -> LL -> Bool -> Bool -> LL -> Int -> Bool -> Bool -> LL -> Bool -> Int -> Int -> Bool -> Bool -> LL -> Int -> Int -> Bool -> Bool -> LL -> Bool -> Bool -> LL -> Int -> Bool -> Bool -> LL -> Bool -> Int -> Int -> Bool -> Bool -> LL -> Int -> Int -> Prop) (μ2 : Bool -> Bool -> LL -> Bool -> Bool -> LL -> Int -> Bool -> Bool -> LL -> Bool -> Int -> Int -> Bool -> Bool -> LL -> Int -> Int -> Nat) {R : PV -> Prop} (h : zh1 tc tg tj tf tp M S n f es n2 f2 ss J μ J2 μ2 R) : PCall Tryz.prog 27 [.ptr [tc, tg, tj, tf, tp, .mp M, .mp S], .sl n f es, .sl n2 f2 ss] R :=
 PCall.of Tryz.func27 (by kernel_rfl) (by kernel_rfl) (zl (by kernel_rfl)) (Eq.mpr (by kernel_rfl : aP Tryz.prog (fun _ => none) Tryz.f27 [0, 1, 2, 6, 7, 8, 9, 10, 11, 12, 13, 15, 21, 26, 27, 28, 33, 34, 35, 36, 55, 63, 72] (fun zz_ => match zz_ with | 6 => some ⟨Bool × Bool × LL × Bool × Bool × LL × Int × Int, fun s => zah tc tg tj tf tp M S n f es n2 f2 ss s.1 s.2.1 s.2.2.1 s.2.2.2.1 s.2.2.2.2.1 s.2.2.2.2.2.1 s.2.2.2.2.2.2.1 s.2.2.2.2.2.2.2, fun _ s => J s.1 s.2.1 s.2.2.1 s.2.2.2.1 s.2.2.2.2.1 s.2.2.2.2.2.1 s.2.2.2.2.2.2.1 s.2.2.2.2.2.2.2, fun s => μ s.1 s.2.1 s.2.2.1 s.2.2.2.1 s.2.2.2.2.1 s.2.2.2.2.2.1 s.2.2.2.2.2.2.1 s.2.2.2.2.2.2.2, fun e h => (gN e 9, gF e 9, gS e 9, gN e 10, gF e 10, gS e 10, gI e 26, gI e 27), [], [9, 10, 26, 27], [], fun p => ∀ (n9 f9 : Bool) (s9 : LL) (n10 f10 : Bool) (s10 : LL) (x26 x27 : Int), p (n9, f9, s9, n10, f10, s10, x26, x27), fun p h s => h s.1 s.2.1 s.2.2.1 s.2.2.2.1 s.2.2.2.2.1 s.2.2.2.2.2.1 s.2.2.2.2.2.2.1 s.2.2.2.2.2.2.2⟩ | 10 => some ⟨Bool × Bool × LL × Bool × Bool × LL × Int × Bool × Bool × LL × Bool × Int × Int × Bool × Bool × LL × Int × Int, fun s => zai tc tg tj tf tp M S n f es n2 f2 ss s.1 s.2.1 s.2.2.1 s.2.2.2.1 s.2.2.2.2.1 s.2.2.2.2.2.1 s.2.2.2.2.2.2.1 s.2.2.2.2.2.2.2.1 s.2.2.2.2.2.2.2.2.1 s.2.2.2.2.2.2.2.2.2.1 s.2.2.2.2.2.2.2.2.2.2.1 s.2.2.2.2.2.2.2.2.2.2.2.1 s.2.2.2.2.2.2.2.2.2.2.2.2.1 s.2.2.2.2.2.2.2.2.2.2.2.2.2.1 s.2.2.2.2.2.2.2.2.2.2.2.2.2.2.1 s.2.2.2.2.2.2.2.2.2.2.2.2.2.2.2.1 s.2.2.2.2.2.2.2.2.2.2.2.2.2.2.2.2.1 s.2.2.2.2.2.2.2.2.2.2.2.2.2.2.2.2.2, fun t s => J2 t.1 t.2.1 t.2.2.1 t.2.2.2.1 t.2.2.2.2.1 t.2.2.2.2.2.1 t.2.2.2.2.2.2.1 t.2.2.2.2.2.2.2.1 t.2.2.2.2.2.2.2.2.1 t.2.2.2.2.2.2.2.2.2.1 t.2.2.2.2.2.2.2.2.2.2.1 t.2.2.2.2.2.2.2.2.2.2.2.1 t.2.2.2.2.2.2.2.2.2.2.2.2.1 t.2.2.2.2.2.2.2.2.2.2.2.2.2.1 t.2.2.2.2.2.2.2.2.2.2.2.2.2.2.1 t.2.2.2.2.2.2.2.2.2.2.2.2.2.2.2.1 t.2.2.2.2.2.2.2.2.2.2.2.2.2.2.2.2.1 t.2.2.2.2.2.2.2.2.2.2.2.2.2.2.2.2.2 s.1 s.2.1 s.2.2.1 s.2.2.2.1 s.2.2.2.2.1 s.2.2.2.2.2.1 s.2.2.2.2.2.2.1 s.2.2.2.2.2.2.2.1 s.2.2.2.2.2.2.2.2.1 s.2.2.2.2.2.2.2.2.2.1 s.2.2.2.2.2.2.2.2.2.2.1 s.2.2.2.2.2.2.2.2.2.2.2.1 s.2.2.2.2.2.2.2.2.2.2.2.2.1 s.2.2.2.2.2.2.2.2.2.2.2.2.2.1 s.2.2.2.2.2.2.2.2.2.2.2.2.2.2.1 s.2.2.2.2.2.2.2.2.2.2.2.2.2.2.2.1 s.2.2.2.2.2.2.2.2.2.2.2.2.2.2.2.2.1 s.2.2.2.2.2.2.2.2.2.2.2.2.2.2.2.2.2, fun s => μ2 s.1 s.2.1 s.2.2.1 s.2.2.2.1 s.2.2.2.2.1 s.2.2.2.2.2.1 s.2.2.2.2.2.2.1 s.2.2.2.2.2.2.2.1 s.2.2.2.2.2.2.2.2.1 s.2.2.2.2.2.2.2.2.2.1 s.2.2.2.2.2.2.2.2.2.2.1 s.2.2.2.2.2.2.2.2.2.2.2.1 s.2.2.2.2.2.2.2.2.2.2.2.2.1 s.2.2.2.2.2.2.2.2.2.2.2.2.2.1 s.2.2.2.2.2.2.2.2.2.2.2.2.2.2.1 s.2.2.2.2.2.2.2.2.2.2.2.2.2.2.2.1 s.2.2.2.2.2.2.2.2.2.2.2.2.2.2.2.2.1 s.2.2.2.2.2.2.2.2.2.2.2.2.2.2.2.2.2, fun e h => (gN e 9, gF e 9, gS e 9, gN e 10, gF e 10, gS e 10, gI e 11, gN e 12, gF e 12, gS e 12, gB e 13, gI e 26, gI e 27, gN e 33, gF e 33, gS e 33, gI e 34, gI e 35), [], [9, 10, 11, 12, 13, 26, 27, 33, 34, 35], [], fun p => ∀ (n9 f9 : Bool) (s9 : LL) (n10 f10 : Bool) (s10 : LL) (x11 : Int) (n12 f12 : Bool) (s12 : LL) (x13 : Bool) (x26 x27 : Int) (n33 f33 : Bool) (s33 : LL) (x34 x35 : Int), p (n9, f9, s9, n10, f10, s10, x11, n12, f12, s12, x13, x26, x27, n33, f33, s33, x34, x35), fun p h s => h s.1 s.2.1 s.2.2.1 s.2.2.2.1 s.2.2.2.2.1 s.2.2.2.2.2.1 s.2.2.2.2.2.2.1 s.2.2.2.2.2.2.2.1 s.2.2.2.2.2.2.2.2.1 s.2.2.2.2.2.2.2.2.2.1 s.2.2.2.2.2.2.2.2.2.2.1 s.2.2.2.2.2.2.2.2.2.2.2.1 s.2.2.2.2.2.2.2.2.2.2.2.2.1 s.2.2.2.2.2.2.2.2.2.2.2.2.2.1 s.2.2.2.2.2.2.2.2.2.2.2.2.2.2.1 s.2.2.2.2.2.2.2.2.2.2.2.2.2.2.2.1 s.2.2.2.2.2.2.2.2.2.2.2.2.2.2.2.2.1 s.2.2.2.2.2.2.2.2.2.2.2.2.2.2.2.2.2⟩ | _ => none) (Tryz.f27.body.getD .skip) [.ptr [tc, tg, tj, tf, tp, .mp M, .mp S], .sl n f es, .sl n2 f2 ss] R = _) h)

def tY (tc tg tj tf tp : PV) (M S : List (PV × PV)) (n f : Bool) (es : LL) (x5 : Int) (n10 f10 : Bool) (s10 : LL) (x11 x12 : Int) : Env × Hp := ([(0, LV.pv (PV.ptr [tc, tg, tj, tf, tp, PV.mp M, PV.mp S])), (5, Y6 x5), (10, .pv (.sl n10 f10 s10)), (11, Y6 x11), (12, Y6 x12)], [])
def zh2 (tc tg tj tf tp : PV) (M S : List (PV × PV)) (n f : Bool) (es : LL) (J : Int -> Bool -> Bool -> LL -> Int -> Int -> Prop) (μ : Int -> Bool -> Bool -> LL -> Int -> Int -> Nat) (R : PV -> Prop) : Prop :=
 PCall Tryz.prog 78 [PV.ptr [tc, tg, tj, tf, tp, PV.mp M, PV.mp S], PV.sl n f es] fun v => ∃ n1 f1 es1, v = PV.sl n1 f1 es1 /\ (aB (tY tc tg tj tf tp M S n f es (0 : Int) n1 f1 es1 (↑es1.length :
 Int) (0 : Int)) /\ J (0 : Int) n1 f1 es1 (↑es1.length : Int) (0 : Int)) /\ ∀ (x5 : Int) (n10 f10 : Bool) (s10 : LL) (x11 x12 : Int), J x5 n10 f10 s10 x11 x12 -> if decide (x12 < x11) = true then aL s10 x12 1 /\ ∃ n2, (s10.getD
 x12.toNat []).head? = some (Z3 n2) /\ PCall Tryz.prog 80 [PV.ptr [tc, tg, tj, tf, tp, PV.mp M, PV.mp S], Z3 n2] fun v1 => ∃ n3, v1 = Z6 n3 /\ if (n3 != 0) = true then aB (tY tc tg tj tf tp M S n f es (i64.wrap (x5
 + 1)) n10 f10 s10 x11 (i64.wrap (x12 + 1))) /\ J (i64.wrap (x5 + 1)) n10 f10 s10 x11 (i64.wrap (x12 + 1)) /\ μ (i64.wrap (x5 + 1)) n10 f10 s10 x11 (i64.wrap (x12 + 1)) < μ x5 n10 f10 s10 x11 x12 else
 aB (tY tc tg tj tf tp M S n f es x5 n10 f10 s10 x11 (i64.wrap (x12 + 1))) /\ J x5 n10 f10 s10 x11 (i64.wrap (x12 + 1)) /\ μ x5 n10 f10 s10 x11 (i64.wrap (x12 + 1)) < μ x5 n10 f10 s10 x11 x12 else R (Z6 x5)
theorem zsk (tc tg tj tf tp : PV) (M S : List (PV × PV)) (n f : Bool) (es : LL) (J : Int -> Bool -> Bool -> LL -> Int -> Int -> Prop) (μ : Int -> Bool -> Bool -> LL -> Int -> Int -> Nat) {R : PV -> Prop} (h : zh2 tc tg tj tf tp M S n f es J μ R) : PCall Tryz.prog 36 [.ptr [tc, tg, tj, tf, tp, .mp M, .mp S], .sl n f es] R :=
 PCall.of Tryz.func36 (by kernel_rfl) (by kernel_rfl) (zl (by kernel_rfl)) (Eq.mpr (by kernel_rfl : aP Tryz.prog (fun _ => none) Tryz.f36 [0, 1, 4, 5, 7, 10, 11, 12, 13, 19] (fun zz_ => match zz_ with | 3 => some ⟨Int × Bool × Bool × LL × Int × Int, fun s => tY tc tg tj tf tp M S n f es s.1 s.2.1 s.2.2.1 s.2.2.2.1 s.2.2.2.2.1 s.2.2.2.2.2, fun _ s => J s.1 s.2.1 s.2.2.1 s.2.2.2.1 s.2.2.2.2.1 s.2.2.2.2.2, fun s => μ s.1 s.2.1 s.2.2.1 s.2.2.2.1 s.2.2.2.2.1 s.2.2.2.2.2, fun e h => (gI e 5, gN e 10, gF e 10, gS e 10, gI e 11, gI e 12), [], [0, 5, 10, 11, 12], [], fun p => ∀ (x5 : Int) (n10 f10 : Bool) (s10 : LL) (x11 x12 : Int), p (x5, n10, f10, s10, x11, x12), fun p h s => h s.1 s.2.1 s.2.2.1 s.2.2.2.1 s.2.2.2.2.1 s.2.2.2.2.2⟩ | _ => none) (Tryz.f36.body.getD .skip) [.ptr [tc, tg, tj, tf, tp, .mp M, .mp S], .sl n f es] R = _) h)

def zaj (tc tg tj tf tp : PV) (M S : List (PV × PV)) (n f : Bool) (es : LL) (n10 f10 : Bool) (s10 : LL) (x11 x12 : Int) (n_0 : Bool) (s_0 : LL) : Env × Hp := ([(1, LV.pv (PV.sl n f es)), (5, LV.own 0), (10, .pv (.sl n10 f10 s10)), (11, Y6 x11), (12, Y6 x12)], [.sl (21, 1) true n_0 s_0])
def zh3 (tc tg tj tf tp : PV) (M S : List (PV × PV)) (n f : Bool) (es : LL) (J : Bool -> Bool -> LL -> Int -> Int -> Bool -> LL -> Prop) (μ : Bool -> Bool -> LL -> Int -> Int -> Bool -> LL -> Nat) (R : PV -> Prop) : Prop :=
 PCall Tryz.prog 69 [PV.ptr [tc, tg, tj, tf, tp, PV.mp M, PV.mp S], PV.sl n f es] fun v => ∃ n1 f1 es1, v = PV.sl n1 f1 es1 /\ (aB (zaj tc tg tj tf tp M S n f es n1 f1 es1 (↑es1.length : Int) (0 :
  Int) true []) /\ J n1 f1 es1 (↑es1.length : Int) (0 : Int) true []) /\ ∀ (n10 f10 : Bool) (s10 : LL) (x11 x12 : Int) (n_0 : Bool) (s_0 : LL), J n10 f10 s10 x11 x12 n_0 s_0 ->
 let K3 := fun (y0_ y1_ : Bool) (y2_ : LL) (y3_ y4_ : Int) (y5_ : Bool) (y6_ : LL) => aB (zaj tc tg tj tf tp M S n f es y0_ y1_ y2_ y3_ y4_ y5_ y6_) /\ J y0_ y1_ y2_ y3_ y4_ y5_ y6_ /\ μ y0_ y1_ y2_ y3_ y4_ y5_ y6_ < μ
  n10 f10 s10 x11 x12 n_0 s_0; if decide (x12 < x11) = true then aL s10 x12 3 /\ ∃ n2, (s10.getD x12.toNat []).head? = some (Z6 n2) /\ ∃ n3, (s10.getD x12.toNat []).tail.head? = some (Z6 n3) /\ ∃ n4, ∃ (f2 : Bool),
  ∃ es2, (s10.getD x12.toNat []).tail.tail.head? = some (PV.sl n4 f2 es2) /\ if ((↑es2.length : Int) == 0) = true then (c6 es.length (some n2) (some n3) none /\ aQ es 1) /\ (aQ (List.drop n2.toNat (List.take n3.toNat es)) 1 /\
  (s_0.length + (List.drop n2.toNat (List.take n3.toNat es)).length) * 4 <= 140737488355328) /\ K3 n10 f10 s10 x11 (i64.wrap (x12 + 1)) (n_0 && (List.drop n2.toNat (List.take n3.toNat es)).isEmpty) (s_0 ++ List.drop n2.toNat
  (List.take n3.toNat es)) else (aQ es2 1 /\ (s_0.length + es2.length) * 4 <= 140737488355328) /\ K3 n10 f10 s10 x11 (i64.wrap (x12 + 1)) (n_0 && es2.isEmpty) (s_0 ++ es2) else R (PV.sl n_0 false s_0)
theorem zsl (tc tg tj tf tp : PV) (M S : List (PV × PV)) (n f : Bool) (es : LL) (J : Bool -> Bool -> LL -> Int -> Int -> Bool -> LL -> Prop) (μ : Bool -> Bool -> LL -> Int -> Int -> Bool -> LL -> Nat) {R : PV -> Prop} (h : zh3 tc tg tj tf tp M S n f es J μ R) : PCall Tryz.prog 37 [.ptr [tc, tg, tj, tf, tp, .mp M, .mp S], .sl n f es] R :=
 PCall.of Tryz.func37 (by kernel_rfl) (by kernel_rfl) (zl (by kernel_rfl)) (Eq.mpr (by kernel_rfl : aP Tryz.prog (fun _ => none) Tryz.f37 [0, 1, 4, 5, 7, 10, 11, 12, 13, 19] (fun zz_ => match zz_ with | 3 => some ⟨Bool × Bool × LL × Int × Int × Bool × LL, fun s => zaj tc tg tj tf tp M S n f es s.1 s.2.1 s.2.2.1 s.2.2.2.1 s.2.2.2.2.1 s.2.2.2.2.2.1 s.2.2.2.2.2.2, fun _ s => J s.1 s.2.1 s.2.2.1 s.2.2.2.1 s.2.2.2.2.1 s.2.2.2.2.2.1 s.2.2.2.2.2.2, fun s => μ s.1 s.2.1 s.2.2.1 s.2.2.2.1 s.2.2.2.2.1 s.2.2.2.2.2.1 s.2.2.2.2.2.2, fun e h => (gN e 10, gF e 10, gS e 10, gI e 11, gI e 12, oN h 0, oS h 0), [(5, 21, 1)], [1, 5, 10, 11, 12], [], fun p => ∀ (n10 f10 : Bool) (s10 : LL) (x11 x12 : Int) (n_0 : Bool) (s_0 : LL), p (n10, f10, s10, x11, x12, n_0, s_0), fun p h s => h s.1 s.2.1 s.2.2.1 s.2.2.2.1 s.2.2.2.2.1 s.2.2.2.2.2.1 s.2.2.2.2.2.2⟩ | _ => none) (Tryz.f37.body.getD .skip) [.ptr [tc, tg, tj, tf, tp, .mp M, .mp S], .sl n f es] R = _) h)

def tZ (n f : Bool) (es : LL) (n2 f2 : Bool) (ss : LL) (n6 f6 : Bool) (s6 : LL) (x7 : Int) (n_0 : Bool) (s_0 : LL) : Env × Hp := ([(0, LV.pv (PV.sl n f es)), (5, LV.own 0), (6, .pv (.sl n6 f6 s6)), (7, Y6 x7)], [.sl (21, 1) true n_0 s_0])
def zh4 (n f : Bool) (es : LL) (n2 f2 : Bool) (ss : LL) (J : Bool -> Bool -> LL -> Int -> Bool -> LL -> Prop) (μ : Bool -> Bool -> LL -> Int -> Bool -> LL -> Nat) (R : PV -> Prop) : Prop :=
 PCall Tryz.prog 32 [PV.sl n f es, PV.sl n2 f2 ss] fun v => ∃ n1 f1 es1, v = PV.sl n1 f1 es1 /\ (aB (tZ n f es n2 f2 ss n1 f1 es1 (0 : Int) true []) /\ J n1 f1 es1 (0 : Int) true []) /\ ∀ (n6 f6 :
 Bool) (s6 : LL) (x7 : Int) (n_0 : Bool) (s_0 : LL), J n6 f6 s6 x7 n_0 s_0 -> if decide (x7 < (↑s6.length : Int)) = true then aL s6 x7 1 /\ ∃ n3, (s6.getD x7.toNat []).head? = some (Z3 n3) /\ PCall Tryz.prog 75 [PV.sl n f es, Z3 n3]
 fun v1 => ∃ n4, v1 = Z6 n4 /\ if (n4 == 0) = true then aL s6 x7 1 /\ ∃ n5, (s6.getD x7.toNat []).head? = some (Z3 n5) /\ (aQ [[Z3 n5]] 1 /\ (s_0.length + 1) * 4 <= 140737488355328) /\ aB (tZ n f es n2 f2 ss n6 f6
 s6 (i64.wrap (x7 + 1)) (n_0 && false) (s_0 ++ [[Z3 n5]])) /\ J n6 f6 s6 (i64.wrap (x7 + 1)) (n_0 && false) (s_0 ++ [[Z3 n5]]) /\ μ n6 f6 s6 (i64.wrap (x7 + 1)) (n_0 && false) (s_0 ++ [[Z3 n5]]) < μ n6 f6 s6 x7 n_0 s_0
 else aB (tZ n f es n2 f2 ss n6 f6 s6 (i64.wrap (x7 + 1)) n_0 s_0) /\ J n6 f6 s6 (i64.wrap (x7 + 1)) n_0 s_0 /\ μ n6 f6 s6 (i64.wrap (x7 + 1)) n_0 s_0 < μ n6 f6 s6 x7 n_0 s_0 else R (PV.sl n_0 false s_0)
theorem zsm (n f : Bool) (es : LL) (n2 f2 : Bool) (ss : LL) (J : Bool -> Bool -> LL -> Int -> Bool -> LL -> Prop) (μ : Bool -> Bool -> LL -> Int -> Bool -> LL -> Nat) {R : PV -> Prop} (h : zh4 n f es n2 f2 ss J μ R) : PCall Tryz.prog 33 [.sl n f es, .sl n2 f2 ss] R :=
 PCall.of Tryz.func33 (by kernel_rfl) (by kernel_rfl) (zl (by kernel_rfl)) (Eq.mpr (by kernel_rfl : aP Tryz.prog (fun _ => none) Tryz.f33 [0, 1, 4, 5, 6, 7, 14, 23] (fun zz_ => match zz_ with | 4 => some ⟨Bool × Bool × LL × Int × Bool × LL, fun s => tZ n f es n2 f2 ss s.1 s.2.1 s.2.2.1 s.2.2.2.1 s.2.2.2.2.1 s.2.2.2.2.2, fun _ s => J s.1 s.2.1 s.2.2.1 s.2.2.2.1 s.2.2.2.2.1 s.2.2.2.2.2, fun s => μ s.1 s.2.1 s.2.2.1 s.2.2.2.1 s.2.2.2.2.1 s.2.2.2.2.2, fun e h => (gN e 6, gF e 6, gS e 6, gI e 7, oN h 0, oS h 0), [(5, 21, 1)], [0, 5, 6, 7], [], fun p => ∀ (n6 f6 : Bool) (s6 : LL) (x7 : Int) (n_0 : Bool) (s_0 : LL), p (n6, f6, s6, x7, n_0, s_0), fun p h s => h s.1 s.2.1 s.2.2.1 s.2.2.2.1 s.2.2.2.2.1 s.2.2.2.2.2⟩ | _ => none) (Tryz.f33.body.getD .skip) [.sl n f es, .sl n2 f2 ss] R = _) h)

def t6 (n f : Bool) (es : LL) (n2 f2 : Bool) (ss : LL) (n6 f6 : Bool) (s6 : LL) (x7 : Int) (n_0 : Bool) (s_0 : LL) : Env × Hp := ([(0, LV.pv (PV.sl n f es)), (5, LV.own 0), (6, .pv (.sl n6 f6 s6)), (7, Y6 x7)], [.sl (21, 1) true n_0 s_0])
def zh5 (n f : Bool) (es : LL) (n2 f2 : Bool) (ss : LL) (J : Bool -> Bool -> LL -> Int -> Bool -> LL -> Prop) (μ : Bool -> Bool -> LL -> Int -> Bool -> LL -> Nat) (R : PV -> Prop) : Prop :=
 PCall Tryz.prog 71 [PV.sl n f es, PV.sl n2 f2 ss] fun v => ∃ n1 f1 es1, v = PV.sl n1 f1 es1 /\ (aB (t6 n f es n2 f2 ss n1 f1 es1 (0 : Int) true []) /\ J n1 f1 es1 (0 : Int) true []) /\ ∀ (n6 f6 :
 Bool) (s6 : LL) (x7 : Int) (n_0 : Bool) (s_0 : LL), J n6 f6 s6 x7 n_0 s_0 -> if decide (x7 < (↑s6.length : Int)) = true then aL s6 x7 1 /\ ∃ n3 f3 es2, (s6.getD x7.toNat []).head? = some (PV.sl n3 f3 es2) /\
 PCall Tryz.prog 33 [PV.sl n f es, PV.sl n3 f3 es2] fun v1 => ∃ n4 f4 es3, v1 = PV.sl n4 f4 es3 /\ if ((↑es3.length : Int) == 0) = true then aL s6 x7 1 /\ ∃ n5 f5, ∃ (es4 : LL),
 (s6.getD x7.toNat []).head? = some (PV.sl n5 f5 es4) /\ (aQ es4 1 /\ (s_0.length + es4.length) * 4 <= 140737488355328) /\ aB (t6 n f es n2 f2 ss n6 f6 s6 (i64.wrap (x7 + 1)) (n_0 && es4.isEmpty) (s_0 ++ es4)) /\ J n6 f6 s6
 (i64.wrap (x7 + 1)) (n_0 && es4.isEmpty) (s_0 ++ es4) /\ μ n6 f6 s6 (i64.wrap (x7 + 1)) (n_0 && es4.isEmpty) (s_0 ++ es4) < μ n6 f6 s6 x7 n_0 s_0 else (aQ es3 1 /\ (s_0.length + es3.length) * 4 <= 140737488355328) /\ aB
 (t6 n f es n2 f2 ss n6 f6 s6 (i64.wrap (x7 + 1)) (n_0 && es3.isEmpty) (s_0 ++ es3)) /\ J n6 f6 s6 (i64.wrap (x7 + 1)) (n_0 && es3.isEmpty) (s_0 ++ es3) /\ μ n6 f6 s6 (i64.wrap (x7 + 1)) (n_0 && es3.isEmpty) (s_0 ++
 es3) < μ n6 f6 s6 x7 n_0 s_0 else R (PV.sl n_0 false s_0)
theorem zsn (n f : Bool) (es : LL) (n2 f2 : Bool) (ss : LL) (J : Bool -> Bool -> LL -> Int -> Bool -> LL -> Prop) (μ : Bool -> Bool -> LL -> Int -> Bool -> LL -> Nat) {R : PV -> Prop} (h : zh5 n f es n2 f2 ss J μ R) : PCall Tryz.prog 38 [.sl n f es, .sl n2 f2 ss] R :=
 PCall.of Tryz.func38 (by kernel_rfl) (by kernel_rfl) (zl (by kernel_rfl)) (Eq.mpr (by kernel_rfl : aP Tryz.prog (fun _ => none) Tryz.f38 [0, 1, 4, 5, 6, 7, 8, 15, 26] (fun zz_ => match zz_ with | 4 => some ⟨Bool × Bool × LL × Int × Bool × LL, fun s => t6 n f es n2 f2 ss s.1 s.2.1 s.2.2.1 s.2.2.2.1 s.2.2.2.2.1 s.2.2.2.2.2, fun _ s => J s.1 s.2.1 s.2.2.1 s.2.2.2.1 s.2.2.2.2.1 s.2.2.2.2.2, fun s => μ s.1 s.2.1 s.2.2.1 s.2.2.2.1 s.2.2.2.2.1 s.2.2.2.2.2, fun e h => (gN e 6, gF e 6, gS e 6, gI e 7, oN h 0, oS h 0), [(5, 21, 1)], [0, 5, 6, 7], [], fun p => ∀ (n6 f6 : Bool) (s6 : LL) (x7 : Int) (n_0 : Bool) (s_0 : LL), p (n6, f6, s6, x7, n_0, s_0), fun p h s => h s.1 s.2.1 s.2.2.1 s.2.2.2.1 s.2.2.2.2.1 s.2.2.2.2.2⟩ | _ => none) (Tryz.f38.body.getD .skip) [.sl n f es, .sl n2 f2 ss] R = _) h)

def zak  (R : PV -> Prop) : Prop :=
 PCall Tryz.prog 16 [] fun v => ∃ n f es, v = PV.sl n f es /\ PCall Tryz.prog 17 [PV.sl n f es] fun v1 => PCall Tryz.prog 27 [v1, PV.sl false true [[Z3 120], [Z3 233], [Z3 121]], PV.sl false true
 [[Z3 101]]] fun v2 => ∃ vs, v2 = PV.tup vs /\ vs.length = 3 /\ ∃ x, vs.head? = some x /\ ∃ n1, x = Z6 n1 /\ ∃ x1, vs.tail.head? = some x1 /\ ∃ n2, x1 = Z6 n2 /\ ∃ x2, vs.tail.tail.head? =
 some x2 /\ ∃ b, x2 = Zb b /\ if (n1 == 1 && n2 == 2 && b) = true then PCall Tryz.prog 35 [v1, PV.sl false true [[Z3 7785]]] fun v3 => ∃ n3 f1 es1, v3 = PV.sl n3 f1 es1 /\ PCall Tryz.prog 26 [PV.sl
 n3 f1 es1, PV.sl false true [[Z3 115]]] fun v4 => ∃ b1, v4 = Zb b1 /\ if b1 = true then PCall Tryz.prog 37 [v1, PV.sl false true [[Z3 233], [Z3 769]]] fun v5 => ∃ n4 f2 es2, v5 = PV.sl n4
 f2 es2 /\ PCall Tryz.prog 26 [PV.sl n4 f2 es2, PV.sl false true [[Z3 101]]] fun v6 => ∃ b2, v6 = Zb b2 /\ R (Zb b2) else R (Zb false) else R (Zb false)
theorem zso  {R : PV -> Prop} (h : zak  R) : PCall Tryz.prog 29 [] R :=
 PCall.of Tryz.func29 (by kernel_rfl) (by kernel_rfl) (zl (by kernel_rfl)) (Eq.mpr (by kernel_rfl : aP Tryz.prog (fun _ => none) Tryz.f29 [0, 1, 2, 3, 4] (fun _ => none) (Tryz.f29.body.getD .skip) [] R = zak  R) h)

def zh6 (n f : Bool) (es : LL) (R : PV -> Prop) : Prop :=
 PCall Tryz.prog 14 [PV.sl n f es, Z6 80] fun v => ∃ n1 f1 es1, v = PV.sl n1 f1 es1 /\ PCall Tryz.prog 16 [] fun v1 => ∃ n2 f2 es2, v1 = PV.sl n2 f2 es2 /\ PCall
 Tryz.prog 17 [PV.sl n2 f2 es2] fun v2 => PCall Tryz.prog 35 [v2, PV.sl n1 f1 es1] fun v3 => ∃ n3 f3 es3, v3 = PV.sl n3 f3 es3 /\ PCall Tryz.prog 33 [PV.sl n2 f2 es2, PV.sl n1 f1 es1] fun (v4 : PV) =>
 ∃ n4 f4 es4, v4 = PV.sl n4 f4 es4 /\ PCall Tryz.prog 26 [PV.sl n3 f3 es3, PV.sl n4 f4 es4] fun v5 => ∃ b, v5 = Zb b /\ if b = true then PCall Tryz.prog 36 [v2, PV.sl n1 f1 es1] fun v6 => ∃
 (n5 : Int), v6 = Z6 n5 /\ PCall Tryz.prog 32 [PV.sl n2 f2 es2, PV.sl n1 f1 es1] fun v7 => ∃ n6 f5 es5, v7 = PV.sl n6 f5 es5 /\ PCall Tryz.prog 33 [PV.sl n2 f2 es2, PV.sl n1 f1 es1] fun v8 => ∃ (n7 :
 Bool), ∃ f6 es6, v8 = PV.sl n7 f6 es6 /\ if (n5 == i64.wrap ((↑es5.length : Int) - (↑es6.length : Int))) = true then PCall Tryz.prog 37 [v2, PV.sl n1 f1 es1] fun v9 => ∃ n8 f7, ∃ (es7 :
 LL), v9 = PV.sl n8 f7 es7 /\ PCall Tryz.prog 38 [PV.sl n2 f2 es2, PV.sl n1 f1 es1] fun v10 => ∃ n9 f8 es8, v10 = PV.sl n9 f8 es8 /\ PCall Tryz.prog 26 [PV.sl n8 f7 es7, PV.sl n9 f8 es8] fun v11 => ∃
 (b1 : Bool), v11 = Zb b1 /\ if b1 = true then PCall Tryz.prog 29 [] fun v12 => ∃ b2, v12 = Zb b2 /\ R (Zb b2) else R (Zb false) else R (Zb false) else R (Zb false)
theorem zsp (n f : Bool) (es : LL) {R : PV -> Prop} (h : zh6 n f es R) : PCall Tryz.prog 8 [.sl n f es] R :=
 PCall.of Tryz.func8 (by kernel_rfl) (by kernel_rfl) (zl (by kernel_rfl)) (Eq.mpr (by kernel_rfl : aP Tryz.prog (fun _ => none) Tryz.f8 [0, 2, 3, 4] (fun _ => none) (Tryz.f8.body.getD .skip) [.sl n f es] R = _) h)

end Go.Eng



namespace Go.Eng
open Go Go.Proofs Go.Eng.Rows Go.Eng.Trie Go.Eng.Srt
theorem zsq {L : List Int} {i : Nat} {e : List PV} (h : (aA L)[i]? = some e) : ∃ x, e = [.int .i32 x] := by
 unfold aA at h
 rw [List.getElem?_map] at h
 cases hx : L[i]? with
 | none => rw [hx] at h; cases h
 | some x => rw [hx] at h; cases h; exact ⟨x, rfl⟩
theorem ACall.lend {P : Program} {f : Nat} {p : PV} {ty ty2 : Nat × Nat} {m m2 n : Bool} {es : List (List PV)} {Φ : Bool -> List Int -> Prop} (hc : ACall P f [.pv p, .pv (.sl n false es)] [] fun r h' => ∃ n2 L, r = .own 0 /\ h' = [.sl ty2 m2 n2 (aA L)] /\ Φ n2 L) :
 ACall P f [.pv p, .own 0] [.sl ty m n es] fun r h' => ∃ n2 L, r = .own 1 /\ h' = [.sl ty m n es, .sl ty2 m2 n2 (aA L)] /\ Φ n2 L :=
 ⟨hc.1, fun w I G cargs hh hsz hrel => by
  have hcl : ∀ b, AllB I [Ob.sl ty m n es] G b -> b < w.heap.size := fun b hb => hb.elim (hh.cl b) hh.blk_lt
  have h0 := hrel 0 _ rfl
  have h1 := hrel 1 _ rfl
  have hrep := oV hh h1 (rfl : iI [Ob.sl ty m n es] (.own 0) = some (.sl n false es))
  refine (hc.2 w (AllB I [Ob.sl ty m n es] G) G cargs (HRel.nil G hcl) hsz fun i v hi => ?_).mono ?_
  ·match i, hi with
   | 0, hi =>
     cases hi
     generalize cargs.getD 0 undef = c0 at h0
     cases h0 with
     | pv _ _ h0 => exact .pv _ _ (h0.mono (fun _ _ _ => rfl) (fun b hb _ => .inl hb))
   | 1, hi => cases hi; exact .pv _ _ hrep
  rintro e w' ⟨cv, r, h', I2, G2, e1, ⟨n2, L, rfl, rfl, hφ⟩, e3, e4, e5⟩
  have t := e5.t
  have noN : ∀ b, ¬aW [] G b := fun b ⟨o, ob, ho, _⟩ => by simp at ho
  have hk : Keeps w I w' I := ⟨fun b _ hlt => t.keep b hlt (noN b), fun b hb _ => hb⟩
  have o0 := hh.obs 0 _ rfl
  have x0 := e3.obs 0 _ rfl
  have two : ∀ {o : Nat} {ob : Ob}, [Ob.sl ty m n es, Ob.sl ty2 m2 n2 (aA L)][o]? = some ob -> (o = 0 /\ ob = .sl ty m n es) ∨ (o = 1 /\ ob = .sl ty2 m2 n2 (aA L)) := fun {o ob} h => by
   match o, h with
   | 0, h => cases h; exact .inl ⟨rfl, rfl⟩
   | 1, h => cases h; exact .inr ⟨rfl, rfl⟩
   | o + 2, h => simp at h
  have lt0 : (Ob.sl ty m n es).alive (G 0) -> (G 0).blk < w.heap.size := fun ha => hh.blk_lt ⟨0, _, rfl, ha, rfl⟩
  have ge1 : (Ob.sl ty2 m2 n2 (aA L)).alive (G2 0) -> w.heap.size <= (G2 0).blk := fun ha => (t.own2 _ ⟨0, _, rfl, ha, rfl⟩).elim (fun h => absurd h (noN _)) id
  refine ⟨cv, .own 1, _, I, fun o => if o = 0 then G 0 else G2 0, e1, ⟨n2, L, rfl, rfl, hφ⟩, ⟨fun o ob ho => ?_, fun o o' ob ob' ho ha ho' ha' hb => ?_, fun o ob ho ha => ?_, fun b hb => Nat.lt_of_lt_of_le (hh.cl b hb) t.size⟩, ?_, ⟨⟨t.os, t.tape, t.output, t.size, fun b hb _ => t.keep b hb (noN b), fun b hb => hb, fun b hb => .inl hb, fun b hb => ?_, t.frz, t.drawn⟩, by simp, fun o ob' ho hx hf => ?_⟩⟩
  ·rcases two ho with ⟨rfl, rfl⟩ | ⟨rfl, rfl⟩
   ·show ORel w' I _ _ (G 0) _
    cases n with
    | true => exact o0
    | false =>
      obtain ⟨q1, q2, q3, q4, q5, q6⟩ := o0
      refine ⟨q1, q2, q3, q4, q5, fun hcap => ?_⟩
      obtain ⟨vs, f1, f2, f3⟩ := q6 hcap
      exact ⟨vs, (t.keep _ (lt0 ⟨rfl, hcap⟩) (noN _)).trans f1, f2, fun i e he k u hu => ⟨(f3 i e he k u hu).1.mono hk.1 hk.2, (f3 i e he k u hu).2⟩⟩
   ·show ORel w' I _ _ (G2 0) _
    cases n2 with
    | true => exact x0
    | false =>
      obtain ⟨q1, q2, q3, q4, q5, q6⟩ := x0
      refine ⟨q1, q2, q3, q4, q5, fun hcap => ?_⟩
      obtain ⟨vs, f1, f2, f3⟩ := q6 hcap
      refine ⟨vs, f1, f2, fun i e he k u hu => ?_⟩
      obtain ⟨g1, g2⟩ := f3 i e he k u hu
      refine ⟨?_, g2⟩
      obtain ⟨x, rfl⟩ := zsq he
      match k, hu with
      | 0, hu =>
        cases hu
        generalize vs.getD _ undef = c at g1
        cases g1; exact .int _ _
      | k + 1, hu => simp at hu
  ·rcases two ho with ⟨rfl, rfl⟩ | ⟨rfl, rfl⟩ <;> rcases two ho' with ⟨rfl, rfl⟩ | ⟨rfl, rfl⟩
   ·rfl
   ·have := lt0 ha
    have h2 := ge1 ha'
    have hb : (G 0).blk = (G2 0).blk := hb
    omega
   ·have := lt0 ha'
    have h2 := ge1 ha
    have hb : (G2 0).blk = (G 0).blk := hb
    omega
   ·rfl
  ·rcases two ho with ⟨rfl, rfl⟩ | ⟨rfl, rfl⟩
   ·exact hh.nI 0 _ rfl ha
   ·intro hI
    exact e3.nI 0 _ rfl ha (t.i1 _ (.inl hI))
  ·cases e4 with
   | ownNil _ _ _ _ g1 => cases g1; exact .ownNil 1 _ _ _ rfl
   | own _ _ _ _ ad g0 g1 =>
     cases g1
     exact .own (G := fun o => if o = 0 then G 0 else G2 0) 1 _ _ _ ad g0 rfl
  ·obtain ⟨o, ob, ho, ha, hbl⟩ := hb
   rcases two ho with ⟨rfl, rfl⟩ | ⟨rfl, rfl⟩
   ·exact .inl ⟨0, _, rfl, ha, hbl⟩
   ·exact .inr (by have := ge1 ha; have hbl : (G2 0).blk = b := hbl; omega)
  ·have : o = 0 := by simp at ho; exact ho
   subst this
   cases hx
   exact ⟨rfl, _, rfl, hf⟩⟩
section
variable {rows : List Row} {v : PV}
theorem zh7 (hp : dD rows) (hk : dN rows) (hv : dM rows v) (n f : Bool) (L : List Int) (hr : R32 L) (hL : L.length < 1000000) : ACall Tryz.prog 78 [.pv v, .pv (.sl n f (aA L))] [] fun r h' => ∃ nl, r = .own 0 /\ h' = [.sl (21, 1) false nl (aA (cR rows L))] := by
 obtain ⟨tc, tg, tj, tf, tp, made, sec, rfl, ht, hm⟩ := hv
 have hT : ∀ r : Int, (-2147483648 <= r /\ r <= 2147483647) -> PCall Tryz.prog 80 [.ptr [tc, tg, tj, tf, tp, .mp (d8 made), .mp (gM sec)], .int .i32 r] fun v => v = .int .i64 (aG rows 1 r) := fun r hr => p9 _ _ ht hr
 refine zsg _ _ _ _ _ _ _ _ _ _ (fun i h0 _ s => h0 = .ptr [tc, tg, tj, tf, tp, .mp (d8 made), .mp (gM sec)] /\ 0 <= i /\ i <= L.length /\ s = aA ((L.take i.toNat).flatMap (aV rows 8))) (fun i _ _ _ => L.length - i.toNat) ?_
 unfold zhy
 refine ⟨rfl, ⟨rfl, rfl, Int.le_refl _, by omega, rfl⟩, ?_⟩
 rintro i h0 n1 _ ⟨rfl, i0, i1, rfl⟩
 refine aD (fun hc => ?_) (fun hc => ?_)
 ·simp only [decide_eq_true_eq, aS] at hc
  have hi : i.toNat < L.length := by omega
  obtain ⟨g1, g2⟩ := gO i0 hi
  have hx := hr _ (List.getElem_mem hi)
  have hw : i64.wrap (i + 1) = i + 1 := aC (by omega) (by omega)
  have hfl := tW rows (L.take i.toNat)
  rw [List.length_take] at hfl
  refine ⟨g1, L[i.toNat], by rw [g2]; rfl, ?_⟩
  refine (zqm _ _ hp ht 8 _ n1 _ (by omega) hx (by omega)).mono ?_
  rintro r h' ⟨nl, rfl, rfl⟩
  rw [hw]
  exact ⟨(nl, _), ⟨rfl, rfl⟩, ⟨trivial, trivial, trivial⟩, rfl, ⟨rfl, by omega, by omega, by rw [show (i + 1).toNat = i.toNat + 1 by omega, zhn rows hi]; rfl⟩, by dsimp only; omega⟩
 ·simp only [decide_eq_true_eq, aS] at hc
  rw [List.take_of_length_le (by omega)]
  have hfl := tW rows L
  have hord : ACall Tryz.prog 121 [.pv (.ptr [tc, tg, tj, tf, tp, .mp (d8 made), .mp (gM sec)]), .pv (.sl n1 false (aA (L.flatMap (aV rows 8))))] [] fun r h' => ∃ n2 L2, r = .own 0 /\ h' = [.sl (21, 1) false n2 (aA L2)] /\ L2 = cR rows L :=
   (zrf hk hT (zrx hT) _ (zhm hp hr) (by omega)).mono fun r h' ⟨h1, h2⟩ => ⟨_, _, h1, h2, rfl⟩
  refine (ACall.lend (ty := (21, 1)) (m := false) hord).mono ?_
  rintro _ _ ⟨n2, L2, rfl, rfl, rfl⟩
  exact ⟨(n2, _), ⟨rfl, rfl⟩, ⟨⟨rfl, rfl, rfl⟩, trivial⟩, n2, rfl, rfl⟩
end
end Go.Eng



namespace Go.Eng.Srt
open Go Go.Eng
section
variable {key : Int -> Int} (hk : ∀ x, 0 <= key x)
include hk
end
end Go.Eng.Srt
namespace Go.Eng.Rows
open Go Go.Eng Go.Eng.Trie Go.Eng.Srt
section
variable {rows : List Row}
def CSt.pre (Q : List Int) (st : CSt) : CSt := ⟨Q ++ st.P, st.s, st.M⟩
end
end Go.Eng.Rows



namespace Go.Eng.Rows
open Go Go.Eng Go.Eng.Trie Go.Eng.Srt
theorem zsr {L : List Int} {j b : Nat} (h : j <= b) (hb : b <= L.length) : L.drop j = dI L j b ++ L.drop b := by
 have h1 : L = L.take b ++ L.drop b := (List.take_append_drop b L).symm
 have h2 : L.drop j = (L.take b ++ L.drop b).drop j := by rw [<- h1]
 rw [h2, List.drop_append_of_le_length (by rw [List.length_take]; omega)]; rfl
theorem zss {L : List Int} {a i : Nat} (h : a < i) (hi : i <= L.length) : dI L a i = L.getD a 0 :: dI L (a + 1) i := by
 unfold dI
 rw [List.drop_eq_getElem_cons (by rw [List.length_take]; omega), List.getElem_take]
 simp only [List.getD, List.getElem?_eq_getElem (show a < L.length by omega), Option.getD_some]
theorem drop_cons {L : List Int} {b : Nat} (h : b < L.length) : L.drop b = L.getD b 0 :: L.drop (b + 1) := by
 rw [List.drop_eq_getElem_cons h]
 simp only [List.getD, List.getElem?_eq_getElem h, Option.getD_some]
section
variable {rows : List Row}
end
end Go.Eng.Rows



namespace Go.Eng.Rows
open Go Go.Eng Go.Eng.Trie Go.Eng.Srt
section
variable (p : List Int -> Option (Nat × Nat)) (ls : List (List Int)) (s : Int)
end
section
variable {p : List Int -> Option (Nat × Nat)} {ls : List (List Int)} {s : Int}
end
section
variable (p : List Int -> Option (Nat × Nat)) (L : List Int)
end
def Inc (n : Nat) : Nat -> List (Nat × Nat) -> Prop
 | i, [] => i <= n
 | i, (a, b) :: ps => i <= a /\ a < b /\ Inc n b ps
theorem Inc.le {n : Nat} : ∀ {ps : List (Nat × Nat)} {i : Nat}, Inc n i ps -> i <= n
 | [], i, h => h
 | (a, b) :: ps, i, h => by have := h.2.2.le; have := h.1; have := h.2.1; omega
theorem Inc.len {n : Nat} : ∀ {ps : List (Nat × Nat)} {i : Nat}, Inc n i ps -> ps.length + i <= n
 | [], i, h => by have : i <= n := h; simpa using this
 | (a, b) :: ps, i, h => by have := h.2.2.len; have := h.1; have := h.2.1; rw [List.length_cons]; omega
section
variable {p : List Int -> Option (Nat × Nat)} {L : List Int}
end
end Go.Eng.Rows



namespace Go.Eng.Rows
open Go Go.Eng Go.Eng.Trie Go.Eng.Srt
def aI (rows : List Row) (r : Int) : Int := if 44032 <= r /\ r <= 55203 then (if (r - 44032).tmod 28 = 0 then 12 else 13) else aG rows 4 r
def bH (rows : List Row) (r : Int) : Int := if aG rows 6 r ≠ 0 then aG rows 6 r else if (aI rows r = 4 ∨ aI rows r = 5) /\ r ≠ 8204 then 3 else 0
def cC (b : Int) : Bool := decide (b = 3) || (decide (b = 1) || decide (b = 2))
def l9 (a b : Int) : Bool :=
 if a = 9 then decide (b = 9) || (decide (b = 10) || (decide (b = 12) || decide (b = 13)))
 else if a = 12 ∨ a = 10 then decide (b = 10) || decide (b = 11)
 else if a = 13 ∨ a = 11 then decide (b = 11) else false
def fP (a b : Int) : Bool :=
 if a = 1 then decide (b = 2) else if a = 2 ∨ a = 3 then false
 else if b = 1 ∨ b = 2 ∨ b = 3 then false else if b = 4 ∨ b = 5 ∨ b = 8 then true
 else if a = 7 then true else l9 a b
structure SSt where
 (some : Bool) (last pict conj : Int) (odd : Bool)
def dG (rows : List Row) (st : SSt) (r : Int) : SSt :=
 ⟨true, aI rows r,
  if bM rows 5 r = true then 1 else if st.pict = 1 /\ aI rows r = 4 then 1 else if st.pict = 1 /\ aI rows r = 5 then 2 else 0,
  if bH rows r = 2 then 1 else if st.conj ≠ 0 /\ bH rows r = 1 then 2 else if st.conj ≠ 0 /\ bH rows r = 3 then st.conj else 0,
  decide (aI rows r = 6) && !st.odd⟩
def qM (rows : List Row) (st : SSt) (r : Int) : Bool :=
 !fP st.last (aI rows r) && (!(decide (st.pict = 2) && bM rows 5 r) && (!(decide (st.conj = 2) && decide (bH rows r = 2)) && !(st.odd && decide (aI rows r = 6))))
def nK (rows : List Row) (st : SSt) (r : Int) : Bool := !st.some || qM rows st r
def st0 : SSt := ⟨false, 0, 0, 0, false⟩
def aY (rows : List Row) (L : List Int) (a : Nat) : Nat -> SSt
 | 0 => st0
 | k + 1 => dG rows (aY rows L a k) (L.getD (a + k) 0)
def eG (rows : List Row) (L : List Int) (i : Nat) : Bool := nK rows (aY rows L 0 i) (L.getD i 0)
structure eH (rows : List Row) : Prop where
 pict : ∀ r, bM rows 5 r = true -> cC (aI rows r) = false /\ aI rows r ≠ 5
 conj : ∀ r, bH rows r = 0 ∨ bH rows r = 1 ∨ bH rows r = 2 ∨ bH rows r = 3
 cons : ∀ r, bH rows r ≠ 0 -> cC (aI rows r) = false
 join : ∀ r, bH rows r = 1 ∨ bH rows r = 3 -> aI rows r = 4 ∨ aI rows r = 5 ∨ aI rows r = 8
theorem zst {a b : Int} (h : cC a = true ∨ cC b = true) (h2 : ¬(a = 1 /\ b = 2)) : fP a b = false := by
 unfold cC at h
 simp only [Bool.or_eq_true, decide_eq_true_eq] at h
 unfold fP
 by_cases h1 : a = 1
 ·rw [if_pos h1]; exact decide_eq_false fun h3 => h2 ⟨h1, h3⟩
 ·rw [if_neg h1]
  by_cases h3 : a = 2 ∨ a = 3
  ·rw [if_pos h3]
  ·rw [if_neg h3, if_pos (by omega)]
theorem zsu {a b : Int} (h : cC a = false) (h2 : cC b = false) (h3 : b = 4 ∨ b = 5 ∨ b = 8) : fP a b = true := by
 unfold cC at h h2
 simp only [Bool.or_eq_false_iff, decide_eq_false_iff_not] at h h2
 unfold fP
 rw [if_neg h.2.1, if_neg (by omega), if_neg (by omega), if_pos h3]
section
variable {rows : List Row} {L : List Int}
theorem zal {a k : Nat} : (aY rows L a (k + 1)).last = aI rows (L.getD (a + k) 0) := rfl
theorem zsv {a k : Nat} : (aY rows L a (k + 1)).some = true := rfl
theorem zh8 {a : Nat} (ht : eH rows) : ∀ k, (aY rows L a k).pict ≠ 0 -> cC (aY rows L a k).last = false
 | 0, h => absurd rfl h
 | k + 1, h => by
   rw [zal]
   by_cases h1 : bM rows 5 (L.getD (a + k) 0) = true
   ·exact (ht.pict _ h1).1
   ·have h' : (if (aY rows L a k).pict = 1 /\ aI rows (L.getD (a + k) 0) = 4 then (1 : Int) else if (aY rows L a k).pict = 1 /\ aI rows (L.getD (a + k) 0) = 5 then 2 else 0) ≠ 0 := by
     have h2 : (dG rows (aY rows L a k) (L.getD (a + k) 0)).pict ≠ 0 := h
     unfold dG at h2; simp only [if_neg h1] at h2; exact h2
    have : aI rows (L.getD (a + k) 0) = 4 ∨ aI rows (L.getD (a + k) 0) = 5 := by
     split at h'
     ·rename_i h3; exact .inl h3.2
     ·split at h'
      ·rename_i h3; exact .inr h3.2
      ·exact absurd rfl h'
    unfold cC
    rcases this with e | e <;> rw [e] <;> rfl
theorem zh9 {a : Nat} (ht : eH rows) : ∀ k, (aY rows L a k).conj ≠ 0 -> cC (aY rows L a k).last = false
 | 0, h => absurd rfl h
 | k + 1, h => by
   rw [zal]
   apply ht.cons
   intro h0
   apply h
   show (dG rows (aY rows L a k) (L.getD (a + k) 0)).conj = 0
   unfold dG
   simp only [h0]
   rw [if_neg (by decide), if_neg (fun h => absurd h.2 (by decide)), if_neg (fun h => absurd h.2 (by decide))]
theorem zia (k : Nat) : eG rows L (k + 1) = qM rows (aY rows L 0 (k + 1)) (L.getD (k + 1) 0) := by
 unfold eG nK; rw [zsv]; rfl
theorem zib (ht : eH rows) {a : Nat} (hb : eG rows L a = true) : ∀ k, aY rows L a (k + 1) = aY rows L 0 (a + (k + 1))
 | 0 => by
   cases a with
   | zero => rfl
   | succ a =>
     rw [zia] at hb
     show dG rows st0 (L.getD (a + 1 + 0) 0) = dG rows (aY rows L 0 (a + 1)) (L.getD (0 + (a + 1)) 0)
     rw [show a + 1 + 0 = a + 1 by omega, show 0 + (a + 1) = a + 1 by omega]
     have hp := zh8 (a := 0) (L := L) ht (a + 1)
     have hc := zh9 (a := 0) (L := L) ht (a + 1)
     generalize aY rows L 0 (a + 1) = st at *
     generalize L.getD (a + 1) 0 = r at *
     unfold qM at hb
     simp only [Bool.and_eq_true, Bool.not_eq_true', Bool.and_eq_false_iff] at hb
     obtain ⟨h1, h2, h3, h4⟩ := hb
     have hs : aI rows r = 4 ∨ aI rows r = 5 ∨ aI rows r = 8 -> cC st.last = true := fun h => by
      cases hh : cC st.last with
      | true => rfl
      | false => rw [zsu hh (by unfold cC; rcases h with e | e | e <;> rw [e] <;> rfl) h] at h1; cases h1
     unfold dG st0
     have e1 : (if bM rows 5 r = true then (1 : Int) else if (0 : Int) = 1 /\ aI rows r = 4 then 1 else if (0 : Int) = 1 /\ aI rows r = 5 then 2 else 0) = (if bM rows 5 r = true then 1 else if st.pict = 1 /\ aI rows r = 4 then 1 else if st.pict = 1 /\ aI rows r = 5 then 2 else 0) := by
      by_cases h5 : bM rows 5 r = true
      ·rw [if_pos h5, if_pos h5]
      ·rw [if_neg h5, if_neg h5, if_neg (by omega), if_neg (by omega)]
       have : ∀ b, (b = 4 ∨ b = 5 ∨ b = 8) -> ¬(st.pict = 1 /\ aI rows r = b) := fun b hb h => by
        have := hs (by rw [h.2]; exact hb)
        rw [hp (by omega)] at this; cases this
       rw [if_neg (this 4 (by omega)), if_neg (this 5 (by omega))]
     have e2 : (if bH rows r = 2 then (1 : Int) else if (0 : Int) ≠ 0 /\ bH rows r = 1 then 2 else if (0 : Int) ≠ 0 /\ bH rows r = 3 then 0 else 0) = (if bH rows r = 2 then 1 else if st.conj ≠ 0 /\ bH rows r = 1 then 2 else if st.conj ≠ 0 /\ bH rows r = 3 then st.conj else 0) := by
      by_cases h5 : bH rows r = 2
      ·rw [if_pos h5, if_pos h5]
      ·rw [if_neg h5, if_neg h5, if_neg (by omega), if_neg (by omega)]
       have : ∀ c, (c = 1 ∨ c = 3) -> ¬(st.conj ≠ 0 /\ bH rows r = c) := fun c hc2 h => by
        have := hs (ht.join r (by rw [h.2]; exact hc2))
        rw [hc h.1] at this; cases this
       rw [if_neg (this 1 (by omega)), if_neg (this 3 (by omega))]
     have e3 : (decide (aI rows r = 6) && !false) = (decide (aI rows r = 6) && !st.odd) := by
      rcases h4 with h4 | h4
      ·rw [h4]
      ·rw [h4]; rfl
     dsimp only at e1 e2 e3 ⊢
     rw [e1, e2, e3]
 | k + 1 => by
   show dG rows (aY rows L a (k + 1)) (L.getD (a + (k + 1)) 0) = dG rows (aY rows L 0 (a + (k + 1))) (L.getD (0 + (a + (k + 1))) 0)
   rw [zib ht hb k, Nat.zero_add]
theorem zsw (ht : eH rows) {a : Nat} (hb : eG rows L a = true) (k : Nat) : nK rows (aY rows L a (k + 1)) (L.getD (a + (k + 1)) 0) = eG rows L (a + (k + 1)) := by
 rw [zib ht hb k]; rfl
end
def eW (rows : List Row) (L : List Int) : Nat -> Nat -> Nat
 | 0, i => i
 | k + 1, i => if eG rows L i = true then i else eW rows L k (i + 1)
def bN (rows : List Row) (L : List Int) (a : Nat) : Nat := eW rows L (L.length - (a + 1)) (a + 1)
theorem zic (rows : List Row) (L : List Int) : ∀ k i, i <= eW rows L k i /\ eW rows L k i <= i + k /\ (eW rows L k i = i + k ∨ eG rows L (eW rows L k i) = true)
 | 0, i => ⟨Nat.le_refl _, Nat.le_refl _, .inl rfl⟩
 | k + 1, i => by
   rw [eW]
   split
   ·rename_i h; exact ⟨Nat.le_refl _, by omega, .inr h⟩
   ·obtain ⟨h1, h2, h3⟩ := zic rows L k (i + 1)
    exact ⟨by omega, by omega, h3.imp (fun e => by omega) id⟩
def iY (rows : List Row) (L : List Int) : Nat -> Nat -> List (List Int)
 | 0, _ => []
 | k + 1, i => if i < L.length then dI L i (bN rows L i) :: iY rows L k (bN rows L i) else []
def cA (rows : List Row) (L : List Int) (i : Nat) : List (List Int) := iY rows L (L.length + 1) i
theorem nL {rows : List Row} {L : List Int} {i : Nat} (h : i < L.length) : i < bN rows L i /\ bN rows L i <= L.length /\ (bN rows L i = L.length ∨ eG rows L (bN rows L i) = true) := by
 obtain ⟨h1, h2, h3⟩ := zic rows L (L.length - (i + 1)) (i + 1)
 unfold bN
 exact ⟨by omega, by omega, h3.imp (fun e => by omega) id⟩
theorem zid (rows : List Row) (L : List Int) : ∀ k i, L.length + 1 <= k + i -> iY rows L k i = iY rows L (k + 1) i
 | 0, i, h => by rw [iY, iY, if_neg (by omega)]
 | k + 1, i, h => by
   rw [iY, iY]
   by_cases hi : i < L.length
   ·rw [if_pos hi, if_pos hi, zid rows L k _ (by have := (nL (rows := rows) hi).1; omega)]
   ·rw [if_neg hi, if_neg hi]
theorem nM {rows : List Row} {L : List Int} {i : Nat} (h : L.length <= i) : cA rows L i = [] := by unfold cA; rw [iY, if_neg (by omega)]
theorem t7 {rows : List Row} {L : List Int} {i : Nat} (h : i < L.length) : cA rows L i = dI L i (bN rows L i) :: cA rows L (bN rows L i) := by
 have := (nL (rows := rows) h).1
 unfold cA
 rw [<- zid rows L L.length (bN rows L i) (by omega), iY, if_pos h]
section
variable {rows : List Row} {L : List Int}
theorem zsx (ht : eH rows) (k : Nat) : eG rows L (k + 1) =
 (if aI rows (L.getD k 0) = 1 /\ aI rows (L.getD (k + 1) 0) = 2 then false
  else if cC (aI rows (L.getD k 0)) = true ∨ cC (aI rows (L.getD (k + 1) 0)) = true then true
  else if l9 (aI rows (L.getD k 0)) (aI rows (L.getD (k + 1) 0)) = true ∨ (aI rows (L.getD (k + 1) 0) = 4 ∨ aI rows (L.getD (k + 1) 0) = 5 ∨ aI rows (L.getD (k + 1) 0) = 8 ∨ aI rows (L.getD k 0) = 7) then false
  else !(decide (bH rows (L.getD (k + 1) 0) = 2) && decide ((aY rows L 0 (k + 1)).conj = 2)) && (!(bM rows 5 (L.getD (k + 1) 0) && decide ((aY rows L 0 (k + 1)).pict = 2)) && !(decide (aI rows (L.getD (k + 1) 0) = 6) && (aY rows L 0 (k + 1)).odd))) := by
 rw [zia]
 have hl : (aY rows L 0 (k + 1)).last = aI rows (L.getD k 0) := by rw [zal, Nat.zero_add]
 have hp := zh8 (a := 0) (L := L) ht (k + 1)
 have hc := zh9 (a := 0) (L := L) ht (k + 1)
 have ho : (aY rows L 0 (k + 1)).odd = true -> aI rows (L.getD k 0) = 6 := fun h => by
  have h' : (decide (aI rows (L.getD (0 + k) 0) = 6) && !(aY rows L 0 k).odd) = true := h
  simp only [Bool.and_eq_true, decide_eq_true_eq, Nat.zero_add] at h'; exact h'.1
 have h5 := ht.pict (L.getD (k + 1) 0)
 have h6 := ht.cons (L.getD (k + 1) 0)
 rw [hl] at hp hc
 generalize aY rows L 0 (k + 1) = st at *
 generalize L.getD (k + 1) 0 = r at *
 generalize L.getD k 0 = q at *
 unfold qM
 rw [hl]
 have hhard : cC (aI rows q) = true ∨ cC (aI rows r) = true -> (!(decide (st.pict = 2) && bM rows 5 r) && (!(decide (st.conj = 2) && decide (bH rows r = 2)) && !(st.odd && decide (aI rows r = 6)))) = true := fun h => by
  have g1 : (decide (st.pict = 2) && bM rows 5 r) = false := by
   rw [Bool.and_eq_false_iff, decide_eq_false_iff_not]
   rcases h with h | h
   ·exact .inl fun e => by rw [hp (by omega)] at h; cases h
   ·right
    cases ht5 : bM rows 5 r with
    | false => rfl
    | true => rw [(h5 ht5).1] at h; cases h
  have g2 : (decide (st.conj = 2) && decide (bH rows r = 2)) = false := by
   rw [Bool.and_eq_false_iff, decide_eq_false_iff_not, decide_eq_false_iff_not]
   rcases h with h | h
   ·exact .inl fun e => by rw [hc (by omega)] at h; cases h
   ·exact .inr fun e => by rw [h6 (by omega)] at h; cases h
  have g3 : (st.odd && decide (aI rows r = 6)) = false := by
   rw [Bool.and_eq_false_iff, decide_eq_false_iff_not]
   rcases h with h | h
   ·left
    cases hod : st.odd with
    | false => rfl
    | true => rw [ho hod] at h; cases h
   ·exact .inr fun e => by rw [e] at h; cases h
  rw [g1, g2, g3]; rfl
 by_cases c1 : aI rows q = 1 /\ aI rows r = 2
 ·rw [if_pos c1]
  have : fP (aI rows q) (aI rows r) = true := by rw [c1.1, c1.2]; rfl
  rw [this]; rfl
 rw [if_neg c1]
 by_cases c2 : cC (aI rows q) = true ∨ cC (aI rows r) = true
 ·rw [if_pos c2, hhard c2, zst c2 c1]; rfl
 rw [if_neg c2]
 have c3 : cC (aI rows q) = false /\ cC (aI rows r) = false := by
  constructor
  ·cases h : cC (aI rows q) with
   | false => rfl
   | true => exact absurd (.inl h) c2
  ·cases h : cC (aI rows r) with
   | false => rfl
   | true => exact absurd (.inr h) c2
 have hst : fP (aI rows q) (aI rows r) = true ↔ (l9 (aI rows q) (aI rows r) = true ∨ (aI rows r = 4 ∨ aI rows r = 5 ∨ aI rows r = 8 ∨ aI rows q = 7)) := by
  obtain ⟨q1, q2⟩ := c3
  generalize aI rows q = a at *
  generalize aI rows r = b at *
  unfold cC at q1 q2
  simp only [Bool.or_eq_false_iff, decide_eq_false_iff_not] at q1 q2
  unfold fP
  rw [if_neg q1.2.1, if_neg (by omega), if_neg (by omega)]
  by_cases d1 : b = 4 ∨ b = 5 ∨ b = 8
  ·rw [if_pos d1]; exact ⟨fun _ => .inr (by omega), fun _ => rfl⟩
  ·rw [if_neg d1]
   by_cases d2 : a = 7
   ·rw [if_pos d2]; exact ⟨fun _ => .inr (by omega), fun _ => rfl⟩
   ·rw [if_neg d2]; exact ⟨fun h => .inl h, fun h => h.resolve_right (by omega)⟩
 by_cases c4 : l9 (aI rows q) (aI rows r) = true ∨ (aI rows r = 4 ∨ aI rows r = 5 ∨ aI rows r = 8 ∨ aI rows q = 7)
 ·rw [if_pos c4, hst.2 c4]; rfl
 ·rw [if_neg c4]
  have : fP (aI rows q) (aI rows r) = false := by
   cases h : fP (aI rows q) (aI rows r) with
   | false => rfl
   | true => exact absurd (hst.1 h) c4
  rw [this]
  simp only [Bool.not_false, Bool.true_and]
  rw [Bool.and_comm (decide (bH rows r = 2)), Bool.and_comm (bM rows 5 r), Bool.and_comm (decide (aI rows r = 6))]
  cases (decide (st.conj = 2) && decide (bH rows r = 2)) <;> cases (decide (st.pict = 2) && bM rows 5 r) <;> rfl
theorem zsy (k : Nat) : (aY rows L 0 (k + 1)).conj = if bH rows (L.getD k 0) = 2 then 1 else if (aY rows L 0 k).conj ≠ 0 /\ bH rows (L.getD k 0) = 1 then 2 else if (aY rows L 0 k).conj ≠ 0 /\ bH rows (L.getD k 0) = 3 then (aY rows L 0 k).conj else 0 := by
 show (dG rows (aY rows L 0 k) (L.getD (0 + k) 0)).conj = _
 rw [Nat.zero_add]; rfl
theorem zie (k : Nat) : (aY rows L 0 (k + 1)).pict = if bM rows 5 (L.getD k 0) = true then 1 else if (aY rows L 0 k).pict = 1 /\ aI rows (L.getD k 0) = 4 then 1 else if (aY rows L 0 k).pict = 1 /\ aI rows (L.getD k 0) = 5 then 2 else 0 := by
 show (dG rows (aY rows L 0 k) (L.getD (0 + k) 0)).pict = _
 rw [Nat.zero_add]; rfl
theorem zsz (k : Nat) : (aY rows L 0 (k + 1)).odd = (decide (aI rows (L.getD k 0) = 6) && !(aY rows L 0 k).odd) := by
 show (dG rows (aY rows L 0 k) (L.getD (0 + k) 0)).odd = _
 rw [Nat.zero_add]; rfl
end
end Go.Eng.Rows



namespace Go.Eng.Rows
open Go Go.Eng Go.Eng.Trie Go.Eng.Srt
def t8 (rows : List Row) (hard : List Int) (lo hi : Int) : Bool := rows.all fun y => !(decide (y.kind = 4) && hard.contains y.a) || (decide (y.to < lo) || decide (hi < y.fr))
theorem zif {rows : List Row} {hard : List Int} {lo hi r : Int} (h : t8 rows hard lo hi = true) (h0 : hard.contains 0 = false) (h1 : hard.contains 12 = false) (h2 : hard.contains 13 = false) (hr : lo <= r /\ r <= hi) : hard.contains (aI rows r) = false := by
 unfold aI
 split
 ·split <;> assumption
 ·unfold aG
  cases hf : bR rows 4 r with
  | none => exact h0
  | some p =>
    obtain ⟨x, hx, hk, ha, _, h3, h4, _⟩ := jQ hf
    dsimp only
    rw [<- ha]
    have := List.all_eq_true.1 h x hx
    simp only [Bool.or_eq_true, Bool.not_eq_true', Bool.and_eq_false_iff, decide_eq_true_eq, decide_eq_false_iff_not] at this
    rcases this with (h5 | h5) | h5 | h5
    ·exact absurd hk h5
    ·exact h5
    ·omega
    ·omega
def zs0 (rows : List Row) : Bool := rows.all fun x =>
 (!(decide (x.kind = 5) && decide (x.a = 1)) || t8 rows [1, 2, 3, 5] x.fr x.to) &&
 (!decide (x.kind = 6) || (t8 rows [1, 2, 3] x.fr x.to && ((decide (0 <= x.a) && decide (x.a <= 2)) && (!decide (x.a = 1) || (decide (x.fr = x.to) && (decide (aI rows x.fr = 4) || (decide (aI rows x.fr = 5) || decide (aI rows x.fr = 8))))))))
theorem zs1 {b : Int} (h : ([1, 2, 3] : List Int).contains b = false) : cC b = false := by
 simp only [List.contains_cons, List.contains_nil, Bool.or_false, Bool.or_eq_false_iff, beq_eq_false_iff_ne, ne_eq] at h
 unfold cC
 simp only [Bool.or_eq_false_iff, decide_eq_false_iff_not]; omega
theorem zs2 {rows : List Row} (h : zs0 rows = true) : eH rows := by
 have hall := List.all_eq_true.1 h
 have h6 : ∀ r, aG rows 6 r ≠ 0 -> ∃ x ∈ rows, x.kind = 6 /\ x.a = aG rows 6 r /\ x.fr <= r /\ r <= x.to := fun r hr => by
  unfold aG at hr ⊢
  cases hf : bR rows 6 r with
  | none => rw [hf] at hr; exact absurd rfl hr
  | some p =>
    obtain ⟨x, hx, hk, ha, _, h3, h4, _⟩ := jQ hf
    exact ⟨x, hx, hk, ha, h3, h4⟩
 have g6 : ∀ x ∈ rows, x.kind = 6 -> t8 rows [1, 2, 3] x.fr x.to = true /\ (0 <= x.a /\ x.a <= 2) /\ (x.a ≠ 1 ∨ (x.fr = x.to /\ (aI rows x.fr = 4 ∨ aI rows x.fr = 5 ∨ aI rows x.fr = 8))) := fun x hx hk => by
  have := hall x hx
  simp only [Bool.and_eq_true, Bool.or_eq_true, Bool.not_eq_true', decide_eq_true_eq, decide_eq_false_iff_not] at this
  rcases this.2 with h | h
  ·exact absurd hk h
  ·exact h
 refine ⟨fun r hr => ?_, fun r => ?_, fun r hr => ?_, fun r hr => ?_⟩
 ·unfold bM at hr
  cases hf : bR rows 5 r with
  | none => rw [hf] at hr; cases hr
  | some p =>
    rw [hf] at hr
    obtain ⟨x, hx, hk, ha, _, h3, h4, _⟩ := jQ hf
    have := hall x hx
    simp only [Bool.and_eq_true, Bool.or_eq_true, Bool.not_eq_true', Bool.and_eq_false_iff, decide_eq_false_iff_not] at this
    rcases this.1 with (h5 | h5) | h5
    ·exact absurd hk h5
    ·exact absurd (ha.trans (of_decide_eq_true hr)) h5
    ·have := zif h5 (by decide) (by decide) (by decide) ⟨h3, h4⟩
     simp only [List.contains_cons, List.contains_nil, Bool.or_false, Bool.or_eq_false_iff, beq_eq_false_iff_ne, ne_eq] at this
     refine ⟨?_, this.2.2.2⟩
     unfold cC
     simp only [Bool.or_eq_false_iff, decide_eq_false_iff_not]; exact ⟨this.2.2.1, this.1, this.2.1⟩
 ·unfold bH
  split
  ·rename_i hn
   obtain ⟨x, hx, hk, ha, _, _⟩ := h6 r hn
   have := (g6 x hx hk).2.1
   omega
  ·split
   ·exact .inr (.inr (.inr rfl))
   ·exact .inl rfl
 ·unfold bH at hr
  split at hr
  ·rename_i hn
   obtain ⟨x, hx, hk, ha, h3, h4⟩ := h6 r hn
   exact zs1 (zif (g6 x hx hk).1 (by decide) (by decide) (by decide) ⟨h3, h4⟩)
  ·split at hr
   ·rename_i h4
    unfold cC
    rcases h4.1 with e | e <;> rw [e] <;> rfl
   ·exact absurd rfl hr
 ·unfold bH at hr
  split at hr
  ·rename_i hn
   obtain ⟨x, hx, hk, ha, h3, h4⟩ := h6 r hn
   obtain ⟨_, g2, g3⟩ := g6 x hx hk
   have h1 : x.a = 1 := by omega
   obtain ⟨g4, g5⟩ := g3.resolve_left (fun h => h h1)
   rw [show r = x.fr by omega]; exact g5
  ·split at hr
   ·rename_i h4
    rcases h4.1 with e | e
    ·exact .inl e
    ·exact .inr (.inl e)
   ·omega
end Go.Eng.Rows
namespace Go.Eng
open Go.Eng.Rows
theorem qN : eH tab := zs2 (by kernel_rfl)
end Go.Eng



namespace Go.Eng.Srt
open Go Go.Eng
end Go.Eng.Srt
namespace Go.Eng.Rows
open Go Go.Eng Go.Eng.Trie Go.Eng.Srt
def cX (rows : List Row) (l : List Int) : List Int := (cR rows l).filter fun r => decide (aG rows 1 r = 0)
section
variable {rows : List Row}
def uA (rows : List Row) (l : List Int) : Nat := ((cR rows l).filter fun r => !decide (aG rows 1 r = 0)).length
theorem zs3 (rows : List Row) (l : List Int) : uA rows l + (cX rows l).length = (cR rows l).length := by
 unfold uA cX
 generalize cR rows l = d
 induction d with
 | nil => rfl
 | cons x d ih =>
   rw [List.filter_cons, List.filter_cons]
   by_cases h : aG rows 1 x = 0
   ·rw [decide_eq_true h]; simp only [Bool.not_true, List.length_cons, if_true]
    rw [if_neg (by decide)]; omega
   ·rw [decide_eq_false h]; simp only [Bool.not_false, List.length_cons, if_true]
    rw [if_neg (by decide)]; omega
theorem uB (hk : dN rows) (l : List Int) : (cX rows l).length <= 768 * l.length := Nat.le_trans (List.length_filter_le _ _) (tU hk l)
def dU (rows : List Row) (c : List Int) : List Int := if cX rows c = [] then c else cX rows c
end
def cY (C : List (List Int)) (i : Nat) : Nat := (C.take i).flatten.length
theorem zig {C : List (List Int)} {i : Nat} (h : i < C.length) : cY C (i + 1) = cY C i + (C.getD i []).length := by
 unfold cY
 rw [<- List.take_append_getElem h, List.flatten_append, List.length_append]
 simp [List.getD, h]
theorem zam (C : List (List Int)) (i : Nat) : cY C i <= C.flatten.length := by
 have := congrArg (List.length ∘ List.flatten) (List.take_append_drop i C)
 simp only [Function.comp, List.flatten_append, List.length_append] at this
 unfold cY; omega
theorem zs4 (C : List (List Int)) (i : Nat) : C.flatten.take (cY C i) = (C.take i).flatten := by
 have : C.flatten = (C.take i).flatten ++ (C.drop i).flatten := by rw [<- List.flatten_append, List.take_append_drop]
 rw [this]; exact List.take_left'  rfl
theorem zs5 (C : List (List Int)) {i k : Nat} (h : i <= k) : dI C.flatten (cY C i) (cY C k) = ((C.take k).drop i).flatten := by
 unfold dI
 rw [zs4]
 have e : (C.take k).flatten = (C.take i).flatten ++ ((C.take k).drop i).flatten := by
  rw [<- List.flatten_append]; congr 1
  have := List.take_append_drop i (C.take k)
  rw [List.take_take, Nat.min_eq_left h] at this; exact this.symm
 rw [e]; exact List.drop_left' rfl
section
variable (ks : List (List Int))
def inK (rest : List Int) (k : Nat) : Nat -> Option Nat
 | 0 => none
 | n + 1 => if ks.getD k [] = rest.take (ks.getD k []).length then
  (if rest.length = (ks.getD k []).length then some k else inK (rest.drop (ks.getD k []).length) (k + 1) n) else none
def iE (want key : List Int) (k : Nat) : Nat -> Option Nat
 | 0 => none
 | n + 1 => if key ++ ks.getD k [] = want then some k else iE want (key ++ ks.getD k []) (k + 1) n
def gP (want : List Int) (i : Nat) : Nat -> Option (Nat × Nat)
 | 0 => none
 | n + 1 => match iE ks want [] i (n + 1) with
   | some k => some (i, k)
   | none => gP want (i + 1) n
end
section
variable {ks : List (List Int)} {want : List Int}
theorem zih : ∀ {n k : Nat} {key : List Int}, ¬key <+: want -> iE ks want key k n = none
 | 0, _, _, _ => rfl
 | n + 1, k, key, h => by
   rw [iE, if_neg fun e => h ⟨_, e⟩]
   exact zih fun h2 => h (List.IsPrefix.trans ⟨_, rfl⟩ h2)
theorem zii : ∀ {n k : Nat} {key rest : List Int}, rest ≠ [] -> key ++ rest = want -> inK ks rest k n = iE ks want key k n
 | 0, _, _, _, _, _ => rfl
 | n + 1, k, key, rest, h0, h => by
   rw [inK, iE]
   by_cases hp : ks.getD k [] = rest.take (ks.getD k []).length
   ·rw [if_pos hp]
    have e : rest = ks.getD k [] ++ rest.drop (ks.getD k []).length := by
     conv => lhs; rw [<- List.take_append_drop (ks.getD k []).length rest, <- hp]
    have el : rest.length = (ks.getD k []).length + (rest.drop (ks.getD k []).length).length := by
     conv => lhs; rw [e, List.length_append]
    by_cases hl : rest.length = (ks.getD k []).length
    ·rw [if_pos hl, if_pos]
     rw [<- h]
     have : rest.drop (ks.getD k []).length = [] := List.eq_nil_of_length_eq_zero (by omega)
     rw [this, List.append_nil] at e
     rw [<- e]
    ·rw [if_neg hl, if_neg]
     ·exact zii (fun e2 => by rw [e2] at el; simp only [List.length_nil] at el; omega) (by rw [List.append_assoc, <- e, h])
     ·intro e2
      have := congrArg List.length e2
      rw [<- h, List.length_append, List.length_append] at this
      omega
   ·rw [if_neg hp]
    have hn : ¬ks.getD k [] <+: rest := fun ⟨t, e⟩ => hp (by rw [<- e]; exact (List.take_left' rfl).symm)
    have hn2 : ¬key ++ ks.getD k [] <+: want := fun ⟨t, e⟩ => by
     rw [<- h, List.append_assoc] at e
     exact hn ⟨t, List.append_cancel_left e⟩
    rw [if_neg fun e => hn2 ⟨[], by rw [List.append_nil]; exact e⟩]
    exact (zih hn2).symm
def jX (ks : List (List Int)) (k : Nat) : Nat := (ks.drop k).flatten.length
theorem zan {k : Nat} (h : k < ks.length) : jX ks k = (ks.getD k []).length + jX ks (k + 1) := by
 unfold jX
 rw [List.drop_eq_getElem_cons h, List.flatten_cons, List.length_append]
 simp [List.getD, h]
theorem zij : ∀ {n k : Nat} {key : List Int}, k + n = ks.length -> key.length + jX ks k < want.length -> iE ks want key k n = none
 | 0, _, _, _, _ => rfl
 | n + 1, k, key, h, hl => by
   have hs := zan (ks := ks) (k := k) (by omega)
   rw [iE, if_neg]
   ·exact zij (by omega) (by rw [List.length_append]; omega)
   ·intro e
    have := congrArg List.length e
    rw [List.length_append] at this; omega
theorem zik : ∀ {n i : Nat}, i + n = ks.length -> jX ks i < want.length -> gP ks want i n = none
 | 0, _, _, _ => rfl
 | n + 1, i, h, hl => by
   rw [gP, zij (by omega) (by simpa using hl)]
   dsimp only
   have := zan (ks := ks) (k := i) (by omega)
   exact zik (by omega) (by omega)
end
def uC (rows : List Row) (L P : List Int) : Option (Nat × Nat) :=
 if cX rows P = [] then some (0, 0) else (gP ((cA rows L 0).map (cX rows)) (cX rows P) 0 (cA rows L 0).length).map fun p => (cY (cA rows L 0) p.1, cY (cA rows L 0) (p.2 + 1))
section
variable {rows : List Row} {L : List Int}
theorem zil : ∀ (n i : Nat), L.length - i <= n -> (cA rows L i).flatten = L.drop i
 | 0, i, h => by rw [nM (by omega), List.drop_eq_nil_of_le (by omega)]; rfl
 | n + 1, i, h => by
   by_cases hi : i < L.length
   ·obtain ⟨h1, h2, _⟩ := nL (rows := rows) hi
    rw [t7 hi, List.flatten_cons, zil n _ (by omega), zsr (j := i) (b := bN rows L i) (by omega) h2]
   ·rw [nM (by omega), List.drop_eq_nil_of_le (by omega)]; rfl
theorem mA (rows : List Row) (L : List Int) : (cA rows L 0).flatten = L := by rw [zil L.length 0 (by omega)]; rfl
theorem zim : ∀ (n i : Nat), L.length - i <= n -> ∀ c ∈ cA rows L i, c ≠ []
 | 0, i, h, c, hc => by rw [nM (by omega)] at hc; cases hc
 | n + 1, i, h, c, hc => by
   by_cases hi : i < L.length
   ·obtain ⟨h1, h2, _⟩ := nL (rows := rows) hi
    rw [t7 hi] at hc
    rcases List.mem_cons.1 hc with rfl | hc
    ·rw [zss h1 h2]; exact List.cons_ne_nil _ _
    ·exact zim n _ (by omega) c hc
   ·rw [nM (by omega)] at hc; cases hc
end
end Go.Eng.Rows



namespace Go.Eng
open Go Go.Proofs
def zin (tc tg tj tf tp : PV) (M S : List (PV × PV)) (r : Int) (R : PV -> Prop) : Prop :=
 if (decide (r >= 44032) && decide (r <= 55203) && (i32.wrap (r - 44032)).tmod (28 : Int) == 0) = true then R (Z6 12) else if (decide (r >= 44032) && decide (r <= 55203)) = true then R (Z6 13) else (∃ ps, some tg = some
 (PV.ptr ps) /\ PCall Tryz.prog 122 [PV.ptr ps, Z6 (i64.wrap r)] fun v => ∃ n, v = Z6 n /\ R (Z6 n)) ∨ some tg = some PV.nilp /\ PCall Tryz.prog 122 [PV.nilp, Z6 (i64.wrap r)] fun v => ∃ n, v = Z6 n /\
 R (Z6 n)
theorem zs6 (tc tg tj tf tp : PV) (M S : List (PV × PV)) (r : Int) {R : PV -> Prop} (h : zin tc tg tj tf tp M S r R) : PCall Tryz.prog 163 [.ptr [tc, tg, tj, tf, tp, .mp M, .mp S], .int .i32 r] R :=
 PCall.of Tryz.func163 (by kernel_rfl) (by kernel_rfl) (zl (by kernel_rfl)) (Eq.mpr (by kernel_rfl : aP Tryz.prog (fun _ => none) Tryz.f163 [0, 1, 4, 5, 18, 25] (fun _ => none) (Tryz.f163.body.getD .skip) [.ptr [tc, tg, tj, tf, tp, .mp M, .mp S], .int .i32 r] R = _) h)

def zio (tc tg tj tf tp : PV) (M S : List (PV × PV)) (r : Int) (R : PV -> Prop) : Prop :=
 (∃ ps, some tj = some (PV.ptr ps) /\ PCall Tryz.prog 122 [PV.ptr ps, Z6 (i64.wrap r)] fun v => ∃ n, v = Z6 n /\ if (n != 0) = true then R (Z6 n) else PCall Tryz.prog 163 [PV.ptr [tc, tg, tj, tf, tp, PV.mp M,
 PV.mp S], Z3 r] fun v1 => ∃ n1, v1 = Z6 n1 /\ if ((n1 == 4 || n1 == 5) && r != 8204) = true then R (Z6 3) else R (Z6 0)) ∨ some tj = some PV.nilp /\ PCall Tryz.prog 122 [PV.nilp, Z6 (i64.wrap r)] fun v => ∃ (n :
 Int), v = Z6 n /\ if (n != 0) = true then R (Z6 n) else PCall Tryz.prog 163 [PV.ptr [tc, tg, tj, tf, tp, PV.mp M, PV.mp S], Z3 r] fun v1 => ∃ n1, v1 = Z6 n1 /\ if ((n1 == 4 || n1 == 5) && r != 8204) = true then R (Z6 3) else R
 (Z6 0)
theorem zs7 (tc tg tj tf tp : PV) (M S : List (PV × PV)) (r : Int) {R : PV -> Prop} (h : zio tc tg tj tf tp M S r R) : PCall Tryz.prog 165 [.ptr [tc, tg, tj, tf, tp, .mp M, .mp S], .int .i32 r] R :=
 PCall.of Tryz.func165 (by kernel_rfl) (by kernel_rfl) (zl (by kernel_rfl)) (Eq.mpr (by kernel_rfl : aP Tryz.prog (fun _ => none) Tryz.f165 [0, 1, 4, 5, 6, 8, 17, 31] (fun _ => none) (Tryz.f165.body.getD .skip) [.ptr [tc, tg, tj, tf, tp, .mp M, .mp S], .int .i32 r] R = _) h)

def ziq (tc tg tj tf tp : PV) (M S : List (PV × PV)) (r : Int) (R : PV -> Prop) : Prop :=
 (∃ ps, some tf = some (PV.ptr ps) /\ PCall Tryz.prog 102 [PV.ptr ps, Z6 (i64.wrap r)] fun v => ∃ cs, v = PV.agg cs /\ cs.length = 4 /\ ∃ b, cs.head? = some (Zb b) /\ ∃ b1, cs.tail.head? =
 some (Zb b1) /\ ∃ b2, cs.tail.tail.head? = some (Zb b2) /\ ∃ b3, cs.tail.tail.tail.head? = some (Zb b3) /\ R (Zb b)) ∨ some tf = some PV.nilp /\ PCall Tryz.prog 102 [PV.nilp, Z6 (i64.wrap r)] fun v => ∃ (cs :
 List PV), v = PV.agg cs /\ cs.length = 4 /\ ∃ b, cs.head? = some (Zb b) /\ ∃ b1, cs.tail.head? = some (Zb b1) /\ ∃ b2, cs.tail.tail.head? = some (Zb b2) /\ ∃ b3, cs.tail.tail.tail.head? = some (Zb b3) /\ R (Zb
 b)
theorem zs8 (tc tg tj tf tp : PV) (M S : List (PV × PV)) (r : Int) {R : PV -> Prop} (h : ziq tc tg tj tf tp M S r R) : PCall Tryz.prog 164 [.ptr [tc, tg, tj, tf, tp, .mp M, .mp S], .int .i32 r] R :=
 PCall.of Tryz.func164 (by kernel_rfl) (by kernel_rfl) (zl (by kernel_rfl)) (Eq.mpr (by kernel_rfl : aP Tryz.prog (fun _ => none) Tryz.f164 [0, 1, 4] (fun _ => none) (Tryz.f164.body.getD .skip) [.ptr [tc, tg, tj, tf, tp, .mp M, .mp S], .int .i32 r] R = _) h)

def zir (n f : Bool) (es : LL) (r : Int) (R : PV -> Prop) : Prop :=
 if (decide (r >= 44032) && decide (r <= 55203)) = true then if ((i32.wrap (r - 44032)).tmod (28 : Int) == 0) = true then R (Z6 12) else R (Z6 13) else PCall Tryz.prog 112 [PV.sl n f es, Z6 4, Z3 r] fun v => ∃ n1, v = Z6
 n1 /\ R (Z6 n1)
theorem zs9 (n f : Bool) (es : LL) (r : Int) {R : PV -> Prop} (h : zir n f es r R) : PCall Tryz.prog 113 [.sl n f es, .int .i32 r] R :=
 PCall.of Tryz.func113 (by kernel_rfl) (by kernel_rfl) (zl (by kernel_rfl)) (Eq.mpr (by kernel_rfl : aP Tryz.prog (fun _ => none) Tryz.f113 [0, 1, 4, 10, 14] (fun _ => none) (Tryz.f113.body.getD .skip) [.sl n f es, .int .i32 r] R = _) h)

def zis (n f : Bool) (es : LL) (r : Int) (R : PV -> Prop) : Prop :=
 PCall Tryz.prog 112 [PV.sl n f es, Z6 6, Z3 r] fun v => ∃ n1, v = Z6 n1 /\ if (n1 != 0) = true then R (Z6 n1) else PCall Tryz.prog 113 [PV.sl n f es, Z3 r] fun v1 => ∃ n2, v1 = Z6 n2 /\ if ((n2 == 4 || n2 == 5) &&
 r != 8204) = true then R (Z6 3) else R (Z6 0)
theorem zta (n f : Bool) (es : LL) (r : Int) {R : PV -> Prop} (h : zis n f es r R) : PCall Tryz.prog 141 [.sl n f es, .int .i32 r] R :=
 PCall.of Tryz.func141 (by kernel_rfl) (by kernel_rfl) (zl (by kernel_rfl)) (Eq.mpr (by kernel_rfl : aP Tryz.prog (fun _ => none) Tryz.f141 [0, 1, 4, 5, 6, 11, 25] (fun _ => none) (Tryz.f141.body.getD .skip) [.sl n f es, .int .i32 r] R = _) h)

def zit (a b : Int) (R : PV -> Prop) : Prop :=
 let X := if (a == 13) = true then if (a == 13) = true then R (Zb (b == 11)) else R (Zb false) else if (a == 11) = true then R (Zb (b == 11)) else R (Zb false)
 let A := if (a == 7) = true then R (Zb true) else if (a == 9) = true then R (Zb (b == 9 || b == 10 || b == 12 || b == 13)) else if (a == 12) = true then if (a == 12) = true then R (Zb (b == 10 || b == 11)) else X else if (a == 10) = true then R (Zb (b == 10 || b == 11)) else X
 let B := if (b == 4) = true then if (b == 4) = true then R (Zb true) else A else if (b == 5) = true then if (b == 5) = true then R (Zb true) else A else if (b == 8) = true then R (Zb true) else A
 let C := if (b == 1) = true then if (b == 1) = true then R (Zb false) else B else if (b == 2) = true then if (b == 2) = true then R (Zb false) else B else if (b == 3) = true then R (Zb false) else B
 if (a == 1) = true then R (Zb (b == 2)) else if (a == 2) = true then if (a == 2) = true then R (Zb false) else C else if (a == 3) = true then R (Zb false) else C
theorem ztb (a b : Int) {R : PV -> Prop} (h : zit a b R) : PCall Tryz.prog 166 [.int .i64 a, .int .i64 b] R :=
 PCall.of Tryz.func166 (by kernel_rfl) (by kernel_rfl) (zl (by kernel_rfl)) (Eq.mpr (by kernel_rfl : aP Tryz.prog (fun _ => none) Tryz.f166 [0, 1, 4, 5, 6, 10, 13, 14, 18, 22, 23, 25, 41, 50] (fun _ => none) (Tryz.f166.body.getD .skip) [.int .i64 a, .int .i64 b] R = _) h)

def ziu (so od : Bool) (la pi co : Int) (tc tg tj tf tp : PV) (M S : List (PV × PV)) (r : Int) (R : PV -> Prop) : Prop :=
 PCall Tryz.prog 163 [PV.ptr [tc, tg, tj, tf, tp, PV.mp M, PV.mp S], Z3 r] fun v => ∃ n, v = Z6 n /\ PCall Tryz.prog 164 [PV.ptr [tc, tg, tj, tf, tp, PV.mp M, PV.mp S], Z3 r] fun v1 => ∃ b, v1 = Zb b /\ PCall
 Tryz.prog 165 [PV.ptr [tc, tg, tj, tf, tp, PV.mp M, PV.mp S], Z3 r] fun v2 => ∃ n1, v2 = Z6 n1 /\ PCall Tryz.prog 166 [Z6 la, Z6 n] fun v3 => ∃ b1, v3 = Zb b1 /\
 let C : Int -> Bool -> Bool -> Prop := fun p o c => if (n1 == 2) = true then R (PV.tup [PV.agg [Zb true, Z6 n, Z6 p, Z6 1, Zb o], Zb c]) else if (co != 0 && n1 == 1) = true then R (PV.tup [PV.agg [Zb true, Z6 n, Z6 p, Z6 2, Zb o], Zb c]) else if (co != 0 && n1 == 3) = true then R (PV.tup [PV.agg [Zb true, Z6 n, Z6 p, Z6 co, Zb o], Zb c]) else R (PV.tup [PV.agg [Zb true, Z6 n, Z6 p, Z6 0, Zb o], Zb c])
 let D : Bool -> Bool -> Prop := fun o c => if b = true then C 1 o c else if (pi == 1 && n == 4) = true then C 1 o c else if (pi == 1 && n == 5) = true then C 2 o c else C 0 o c
 let E : Bool -> Prop := fun c => if (n == 6) = true then D (!od) c else D false c
 if (!b1) = true then if (!(pi == 2 && b)) = true then if (!(co == 2 && n1 == 2)) = true then E (!so || !(od && n == 6)) else E (!so || false) else E (!so || false) else E (!so || false)
theorem ztc (so od : Bool) (la pi co : Int) (tc tg tj tf tp : PV) (M S : List (PV × PV)) (r : Int) {R : PV -> Prop} (h : ziu so od la pi co tc tg tj tf tp M S r R) : PCall Tryz.prog 146 [.agg [.bool so, .int .i64 la, .int .i64 pi, .int .i64 co, .bool od], .ptr [tc, tg, tj, tf, tp, .mp M, .mp S], .int .i32 r] R :=
 PCall.of Tryz.func146 (by kernel_rfl) (by kernel_rfl) (zl (by kernel_rfl)) (Eq.mpr (by kernel_rfl : aP Tryz.prog (fun _ => none) Tryz.f146 [0, 1, 2, 3, 6, 7, 8, 9, 10, 11, 12, 64, 67, 76, 85, 89, 98] (fun _ => none) (Tryz.f146.body.getD .skip) [.agg [.bool so, .int .i64 la, .int .i64 pi, .int .i64 co, .bool od], .ptr [tc, tg, tj, tf, tp, .mp M, .mp S], .int .i32 r] R = _) h)

def nN (tc tg tj tf tp : PV) (M S : List (PV × PV)) (n f : Bool) (es : LL) (k x2 : Int) (h0_0 : Bool) (h0_1 h0_2 h0_3 : Int) (h0_4 : Bool) : Env × Hp := ([(0, LV.pv (PV.ptr [tc, tg, tj, tf, tp, PV.mp M, PV.mp S])), (1, LV.pv (PV.sl n f es)), (2, Y6 x2), (7, LV.box 0 0)], [.box [.pv (.bool h0_0), Y6 h0_1, Y6 h0_2, Y6 h0_3, .pv (.bool h0_4)]])
def ziv (tc tg tj tf tp : PV) (M S : List (PV × PV)) (n f : Bool) (es : LL) (k : Int) (J : Int -> Bool -> Int -> Int -> Int -> Bool -> Prop) (μ : Int -> Bool -> Int -> Int -> Int -> Bool -> Nat) (R : PV -> Prop) : Prop :=
 if (decide (k < 0) || decide (k >= (↑es.length : Int))) = true then R (Z6 (↑es.length : Int)) else aL es k 1 /\ ∃ n1, (es.getD k.toNat []).head? = some (Z3 n1) /\ PCall Tryz.prog 146 [PV.agg [Zb false, Z6 0, Z6 0, Z6 0, Zb false],
 PV.ptr [tc, tg, tj, tf, tp, PV.mp M, PV.mp S], Z3 n1] fun v => ∃ vs, v = PV.tup vs /\ vs.length = 2 /\ ∃ x, vs.head? = some x /\ ∃ cs, x = PV.agg cs /\ cs.length = 5 /\ ∃ b, cs.head? = some (Zb b) /\
 ∃ n2, cs.tail.head? = some (Z6 n2) /\ ∃ n3, cs.tail.tail.head? = some (Z6 n3) /\ ∃ n4, cs.tail.tail.tail.head? = some (Z6 n4) /\ ∃ b1, cs.tail.tail.tail.tail.head? = some (Zb b1) /\ ∃ x1, vs.tail.head? =
 some x1 /\ ∃ b2, x1 = Zb b2 /\ (aB (nN tc tg tj tf tp M S n f es k (i64.wrap (k + 1)) b n2 n3 n4 b1) /\ J (i64.wrap (k + 1)) b n2 n3 n4 b1) /\ ∀ (x2 : Int) (h0_0 : Bool) (h0_1 h0_2 h0_3 : Int) (h0_4 : Bool), J x2
 h0_0 h0_1 h0_2 h0_3 h0_4 -> if decide (x2 < (↑es.length : Int)) = true then aL es x2 1 /\ ∃ n5, (es.getD x2.toNat []).head? = some (Z3 n5) /\ (PCall Tryz.prog 146 [PV.agg [Zb h0_0, Z6 h0_1, Z6 h0_2, Z6 h0_3, Zb h0_4], PV.ptr [tc,
 tg, tj, tf, tp, PV.mp M, PV.mp S], Z3 n5] fun v1 => ∃ vs1, v1 = PV.tup vs1 /\ vs1.length = 2 /\ ∃ x3, vs1.head? = some x3 /\ ∃ cs1, x3 = PV.agg cs1 /\ cs1.length = 5 /\ ∃ b3, cs1.head? = some (Zb b3)
 /\ ∃ n6, cs1.tail.head? = some (Z6 n6) /\ ∃ n7, cs1.tail.tail.head? = some (Z6 n7) /\ ∃ n8, cs1.tail.tail.tail.head? = some (Z6 n8) /\ ∃ b4, cs1.tail.tail.tail.tail.head? = some (Zb b4) /\ ∃ (x4 : PV),
 vs1.tail.head? = some x4 /\ ∃ b5, x4 = Zb b5 /\ (if b5 = true then R (Z6 x2) else aB (nN tc tg tj tf tp M S n f es k (i64.wrap (x2 + 1)) b3 n6 n7 n8 b4) /\ J (i64.wrap (x2 + 1)) b3 n6 n7 n8 b4 /\ μ
 (i64.wrap (x2 + 1)) b3 n6 n7 n8 b4 < μ x2 h0_0 h0_1 h0_2 h0_3 h0_4) /\ Dup (if b5 = true then R (Z6 x2) else aB (nN tc tg tj tf tp M S n f es k (i64.wrap (x2 + 1)) b3 n6 n7 n8 b4) /\ J (i64.wrap (x2 + 1)) b3 n6
 n7 n8 b4 /\ μ (i64.wrap (x2 + 1)) b3 n6 n7 n8 b4 < μ x2 h0_0 h0_1 h0_2 h0_3 h0_4)) /\ PCall Tryz.prog 146 [PV.agg [Zb h0_0, Z6 h0_1, Z6 h0_2, Z6 h0_3, Zb h0_4], PV.ptr [tc, tg, tj, tf, tp, PV.mp M, PV.mp S], Z3 n5] fun v1 => ∃
 (vs1 : List PV), v1 = PV.tup vs1 /\ vs1.length = 2 /\ ∃ x3, vs1.head? = some x3 /\ ∃ cs1, x3 = PV.agg cs1 /\ cs1.length = 5 /\ ∃ b3, cs1.head? = some (Zb b3) /\ ∃ n6, cs1.tail.head? = some (Z6 n6) /\ ∃ (n7 :
 Int), cs1.tail.tail.head? = some (Z6 n7) /\ ∃ n8, cs1.tail.tail.tail.head? = some (Z6 n8) /\ ∃ b4, cs1.tail.tail.tail.tail.head? = some (Zb b4) /\ ∃ x4, vs1.tail.head? = some x4 /\ ∃ b5, x4 = Zb b5 /\ (if b5 =
 true then R (Z6 x2) else aB (nN tc tg tj tf tp M S n f es k (i64.wrap (x2 + 1)) b3 n6 n7 n8 b4) /\ J (i64.wrap (x2 + 1)) b3 n6 n7 n8 b4 /\ μ (i64.wrap (x2 + 1)) b3 n6 n7 n8 b4 < μ x2 h0_0 h0_1 h0_2 h0_3 h0_4) /\
 if b5 = true then R (Z6 x2) else aB (nN tc tg tj tf tp M S n f es k (i64.wrap (x2 + 1)) b3 n6 n7 n8 b4) /\ J (i64.wrap (x2 + 1)) b3 n6 n7 n8 b4 /\ μ (i64.wrap (x2 + 1)) b3 n6 n7 n8 b4 < μ x2 h0_0 h0_1 h0_2 h0_3
 h0_4 else R (Z6 x2)
theorem ztd (tc tg tj tf tp : PV) (M S : List (PV × PV)) (n f : Bool) (es : LL) (k : Int) (J : Int -> Bool -> Int -> Int -> Int -> Bool -> Prop) (μ : Int -> Bool -> Int -> Int -> Int -> Bool -> Nat) {R : PV -> Prop} (h : ziv tc tg tj tf tp M S n f es k J μ R) : PCall Tryz.prog 123 [.ptr [tc, tg, tj, tf, tp, .mp M, .mp S], .sl n f es, .int .i64 k] R :=
 PCall.of Tryz.func123 (by kernel_rfl) (by kernel_rfl) (zl (by kernel_rfl)) (Eq.mpr (by kernel_rfl : aP Tryz.prog (fun _ => none) Tryz.f123 [0, 1, 2, 6, 7, 9, 10, 18, 36, 49] (fun zz_ => match zz_ with | 5 => some ⟨Int × Bool × Int × Int × Int × Bool, fun s => nN tc tg tj tf tp M S n f es k s.1 s.2.1 s.2.2.1 s.2.2.2.1 s.2.2.2.2.1 s.2.2.2.2.2, fun _ s => J s.1 s.2.1 s.2.2.1 s.2.2.2.1 s.2.2.2.2.1 s.2.2.2.2.2, fun s => μ s.1 s.2.1 s.2.2.1 s.2.2.2.1 s.2.2.2.2.1 s.2.2.2.2.2, fun e h => (gI e 2, hB h 0 0, hI h 0 1, hI h 0 2, hI h 0 3, hB h 0 4), [], [0, 1, 2, 7], [], fun p => ∀ (x2 : Int) (h0_0 : Bool) (h0_1 h0_2 h0_3 : Int) (h0_4 : Bool), p (x2, h0_0, h0_1, h0_2, h0_3, h0_4), fun p h s => h s.1 s.2.1 s.2.2.1 s.2.2.2.1 s.2.2.2.2.1 s.2.2.2.2.2⟩ | _ => none) (Tryz.f123.body.getD .skip) [.ptr [tc, tg, tj, tf, tp, .mp M, .mp S], .sl n f es, .int .i64 k] R = _) h)

def zao (tc tg tj tf tp : PV) (M S : List (PV × PV)) (n f : Bool) (es : LL) (x6 : Int) (n_0 : Bool) (s_0 : LL) : Env × Hp := ([(0, LV.pv (PV.ptr [tc, tg, tj, tf, tp, PV.mp M, PV.mp S])), (1, LV.pv (PV.sl n f es)), (5, LV.own 0), (6, Y6 x6)], [.sl (23, 1) true n_0 s_0])
def ziw (tc tg tj tf tp : PV) (M S : List (PV × PV)) (n f : Bool) (es : LL) (J : Int -> Bool -> LL -> Prop) (μ : Int -> Bool -> LL -> Nat) (R : PV -> Prop) : Prop :=
 (aB (zao tc tg tj tf tp M S n f es (0 : Int) true []) /\ J (0 : Int) true []) /\ ∀ (x6 : Int) (n_0 : Bool) (s_0 : LL), J x6 n_0 s_0 -> if decide (x6 < (↑es.length : Int)) = true then PCall Tryz.prog 123 [PV.ptr [tc, tg, tj, tf, tp, PV.mp
 M, PV.mp S], PV.sl n f es, Z6 x6] fun v => ∃ n1, v = Z6 n1 /\ (c6 es.length (some x6) (some n1) none /\ aQ es 1) /\ PCall Tryz.prog 63 [PV.sl n (f && decide (n1 = (↑es.length : Int))) (List.drop x6.toNat (List.take n1.toNat
 es))] fun v1 => ∃ n2 f1 es1, v1 = PV.sl n2 f1 es1 /\ (aQ [[PV.sl n2 f1 es1]] 1 /\ (s_0.length + 1) * 24 <= 140737488355328) /\ aB (zao tc tg tj tf tp M S n f es n1 (n_0 && false) (s_0 ++ [[PV.sl n2 f1
 es1]])) /\ J n1 (n_0 && false) (s_0 ++ [[PV.sl n2 f1 es1]]) /\ μ n1 (n_0 && false) (s_0 ++ [[PV.sl n2 f1 es1]]) < μ x6 n_0 s_0 else R (PV.sl n_0 false s_0)
theorem zte (tc tg tj tf tp : PV) (M S : List (PV × PV)) (n f : Bool) (es : LL) (J : Int -> Bool -> LL -> Prop) (μ : Int -> Bool -> LL -> Nat) {R : PV -> Prop} (h : ziw tc tg tj tf tp M S n f es J μ R) : PCall Tryz.prog 81 [.ptr [tc, tg, tj, tf, tp, .mp M, .mp S], .sl n f es] R :=
 PCall.of Tryz.func81 (by kernel_rfl) (by kernel_rfl) (zl (by kernel_rfl)) (Eq.mpr (by kernel_rfl : aP Tryz.prog (fun _ => none) Tryz.f81 [0, 1, 4, 5, 6, 7, 11] (fun zz_ => match zz_ with | 3 => some ⟨Int × Bool × LL, fun s => zao tc tg tj tf tp M S n f es s.1 s.2.1 s.2.2, fun _ s => J s.1 s.2.1 s.2.2, fun s => μ s.1 s.2.1 s.2.2, fun e h => (gI e 6, oN h 0, oS h 0), [(5, 23, 1)], [0, 1, 5, 6], [], fun p => ∀ (x6 : Int) (n_0 : Bool) (s_0 : LL), p (x6, n_0, s_0), fun p h s => h s.1 s.2.1 s.2.2⟩ | _ => none) (Tryz.f81.body.getD .skip) [.ptr [tc, tg, tj, tf, tp, .mp M, .mp S], .sl n f es] R = _) h)

def zix (a : Int) (R : PV -> Prop) : Prop :=
 R (Zb (a == 3 || a == 1 || a == 2))
theorem ztf (a : Int) {R : PV -> Prop} (h : zix a R) : PCall Tryz.prog 114 [.int .i64 a] R :=
 PCall.of Tryz.func114 (by kernel_rfl) (by kernel_rfl) (zl (by kernel_rfl)) (Eq.mpr (by kernel_rfl : aP Tryz.prog (fun _ => none) Tryz.f114 [0, 2] (fun _ => none) (Tryz.f114.body.getD .skip) [.int .i64 a] R = _) h)

def ziy (a b : Int) (R : PV -> Prop) : Prop :=
 if (a == 9) = true then R (Zb (b == 9 || b == 10 || b == 12 || b == 13)) else if (a == 12 || a == 10) = true then R (Zb (b == 10 || b == 11)) else if (a == 13 || a == 11) = true then R (Zb (b == 11)) else R (Zb false)
theorem ztg (a b : Int) {R : PV -> Prop} (h : ziy a b R) : PCall Tryz.prog 115 [.int .i64 a, .int .i64 b] R :=
 PCall.of Tryz.func115 (by kernel_rfl) (by kernel_rfl) (zl (by kernel_rfl)) (Eq.mpr (by kernel_rfl : aP Tryz.prog (fun _ => none) Tryz.f115 [0, 1, 4, 6, 26, 38] (fun _ => none) (Tryz.f115.body.getD .skip) [.int .i64 a, .int .i64 b] R = _) h)

def uD (n f : Bool) (es : LL) (n2 f2 : Bool) (ss : LL) (k : Int) (x7 : Bool) (x8 : Int) : Env × Hp := ([(0, LV.pv (PV.sl n f es)), (1, LV.pv (PV.sl n2 f2 ss)), (7, .pv (.bool x7)), (8, Y6 x8)], [])
def ziz (n f : Bool) (es : LL) (n2 f2 : Bool) (ss : LL) (k : Int) (J : Bool -> Int -> Prop) (μ : Bool -> Int -> Nat) (R : PV -> Prop) : Prop :=
 aL ss k 1 /\ ∃ n1, (ss.getD k.toNat []).head? = some (Z3 n1) /\ PCall Tryz.prog 141 [PV.sl n f es, Z3 n1] fun v => ∃ n3, v = Z6 n3 /\ if (n3 != 2) = true then R (Zb false) else (aB (uD n f es n2 f2 ss k false
 (i64.wrap (k - 1))) /\ J false (i64.wrap (k - 1))) /\ ∀ (x7 : Bool) (x8 : Int), J x7 x8 -> if decide (x8 >= 0) = true then aL ss x8 1 /\ ∃ n4, (ss.getD x8.toNat []).head? = some (Z3 n4) /\ PCall Tryz.prog 141 [PV.sl n f
 es, Z3 n4] fun v1 => ∃ n5, v1 = Z6 n5 /\ if (n5 == 2) = true then R (Zb x7) else if (n5 == 0) = true then R (Zb false) else if (n5 == 1) = true then aB (uD n f es n2 f2 ss k true (i64.wrap (x8 - 1))) /\ J true
 (i64.wrap (x8 - 1)) /\ μ true (i64.wrap (x8 - 1)) < μ x7 x8 else aB (uD n f es n2 f2 ss k x7 (i64.wrap (x8 - 1))) /\ J x7 (i64.wrap (x8 - 1)) /\ μ x7 (i64.wrap (x8 - 1)) < μ x7 x8 else R (Zb
 false)
theorem zth (n f : Bool) (es : LL) (n2 f2 : Bool) (ss : LL) (k : Int) (J : Bool -> Int -> Prop) (μ : Bool -> Int -> Nat) {R : PV -> Prop} (h : ziz n f es n2 f2 ss k J μ R) : PCall Tryz.prog 116 [.sl n f es, .sl n2 f2 ss, .int .i64 k] R :=
 PCall.of Tryz.func116 (by kernel_rfl) (by kernel_rfl) (zl (by kernel_rfl)) (Eq.mpr (by kernel_rfl : aP Tryz.prog (fun _ => none) Tryz.f116 [0, 1, 2, 6, 7, 8, 9, 16, 20, 30, 33, 35] (fun zz_ => match zz_ with | 5 => some ⟨Bool × Int, fun s => uD n f es n2 f2 ss k s.1 s.2, fun _ s => J s.1 s.2, fun s => μ s.1 s.2, fun e h => (gB e 7, gI e 8), [], [0, 1, 7, 8], [], fun p => ∀ (x7 : Bool) (x8 : Int), p (x7, x8), fun p h s => h s.1 s.2⟩ | _ => none) (Tryz.f116.body.getD .skip) [.sl n f es, .sl n2 f2 ss, .int .i64 k] R = _) h)

def zap (n f : Bool) (es : LL) (n2 f2 : Bool) (ss : LL) (k x7 : Int) : Env × Hp := ([(0, LV.pv (PV.sl n f es)), (1, LV.pv (PV.sl n2 f2 ss)), (7, Y6 x7)], [])
def zi0 (n f : Bool) (es : LL) (n2 f2 : Bool) (ss : LL) (k : Int) (J : Int -> Prop) (μ : Int -> Nat) (R : PV -> Prop) : Prop :=
 aL ss k 1 /\ ∃ n1, (ss.getD k.toNat []).head? = some (Z3 n1) /\ PCall Tryz.prog 112 [PV.sl n f es, Z6 5, Z3 n1] fun v => ∃ n3, v = Z6 n3 /\ if (n3 != 1) = true then R (Zb false) else aL ss (i64.wrap (k - 1))
 1 /\ ∃ n4, (ss.getD (i64.wrap (k - 1)).toNat []).head? = some (Z3 n4) /\ PCall Tryz.prog 113 [PV.sl n f es, Z3 n4] fun v1 => ∃ n5, v1 = Z6 n5 /\ if (n5 != 5) = true then R (Zb false) else (aB (zap n f es n2
 f2 ss k (i64.wrap (k - 2))) /\ J (i64.wrap (k - 2))) /\ ∀ (x7 : Int), J x7 -> if decide (x7 >= 0) = true then aL ss x7 1 /\ ∃ n6, (ss.getD x7.toNat []).head? = some (Z3 n6) /\ PCall Tryz.prog 112 [PV.sl n f es, Z6 5, Z3
 n6] fun v2 => ∃ n7, v2 = Z6 n7 /\ if (n7 == 1) = true then R (Zb true) else aL ss x7 1 /\ ∃ n8, (ss.getD x7.toNat []).head? = some (Z3 n8) /\ PCall Tryz.prog 113 [PV.sl n f es, Z3 n8] fun v3 => ∃ n9, v3 =
 Z6 n9 /\ if (n9 != 4) = true then R (Zb false) else aB (zap n f es n2 f2 ss k (i64.wrap (x7 - 1))) /\ J (i64.wrap (x7 - 1)) /\ μ (i64.wrap (x7 - 1)) < μ x7 else R (Zb false)
theorem zti (n f : Bool) (es : LL) (n2 f2 : Bool) (ss : LL) (k : Int) (J : Int -> Prop) (μ : Int -> Nat) {R : PV -> Prop} (h : zi0 n f es n2 f2 ss k J μ R) : PCall Tryz.prog 117 [.sl n f es, .sl n2 f2 ss, .int .i64 k] R :=
 PCall.of Tryz.func117 (by kernel_rfl) (by kernel_rfl) (zl (by kernel_rfl)) (Eq.mpr (by kernel_rfl : aP Tryz.prog (fun _ => none) Tryz.f117 [0, 1, 2, 6, 7, 24, 28, 37, 44] (fun zz_ => match zz_ with | 4 => some ⟨Int × Unit, fun s => zap n f es n2 f2 ss k s.1, fun _ s => J s.1, fun s => μ s.1, fun e h => (((gI e 7), ())), [], [0, 1, 7], [], fun p => ∀ (x7 : Int), p (x7, ()), fun p h s => h s.1⟩ | _ => none) (Tryz.f117.body.getD .skip) [.sl n f es, .sl n2 f2 ss, .int .i64 k] R = _) h)

def zaq (n f : Bool) (es : LL) (n2 f2 : Bool) (ss : LL) (k x7 x8 : Int) : Env × Hp := ([(0, LV.pv (PV.sl n f es)), (1, LV.pv (PV.sl n2 f2 ss)), (7, Y6 x7), (8, Y6 x8)], [])
def zi1 (n f : Bool) (es : LL) (n2 f2 : Bool) (ss : LL) (k : Int) (J : Int -> Int -> Prop) (μ : Int -> Int -> Nat) (R : PV -> Prop) : Prop :=
 aL ss k 1 /\ ∃ n1, (ss.getD k.toNat []).head? = some (Z3 n1) /\ PCall Tryz.prog 113 [PV.sl n f es, Z3 n1] fun v => ∃ n3, v = Z6 n3 /\ if (n3 != 6) = true then R (Zb false) else (aB (zaq n f es n2 f2 ss k (0 :
 Int) (i64.wrap (k - 1))) /\ J (0 : Int) (i64.wrap (k - 1))) /\ ∀ (x7 x8 : Int), J x7 x8 -> if decide (x8 >= 0) = true then aL ss x8 1 /\ ∃ n4, (ss.getD x8.toNat []).head? = some (Z3 n4) /\ PCall Tryz.prog 113 [PV.sl n f
 es, Z3 n4] fun v1 => ∃ n5, v1 = Z6 n5 /\ if (n5 == 6) = true then aB (zaq n f es n2 f2 ss k (i64.wrap (x7 + 1)) (i64.wrap (x8 - 1))) /\ J (i64.wrap (x7 + 1)) (i64.wrap (x8 - 1)) /\ μ
 (i64.wrap (x7 + 1)) (i64.wrap (x8 - 1)) < μ x7 x8 else R (Zb (x7.tmod (2 : Int) == 1)) else R (Zb (x7.tmod (2 : Int) == 1))
theorem ztj (n f : Bool) (es : LL) (n2 f2 : Bool) (ss : LL) (k : Int) (J : Int -> Int -> Prop) (μ : Int -> Int -> Nat) {R : PV -> Prop} (h : zi1 n f es n2 f2 ss k J μ R) : PCall Tryz.prog 118 [.sl n f es, .sl n2 f2 ss, .int .i64 k] R :=
 PCall.of Tryz.func118 (by kernel_rfl) (by kernel_rfl) (zl (by kernel_rfl)) (Eq.mpr (by kernel_rfl : aP Tryz.prog (fun _ => none) Tryz.f118 [0, 1, 2, 6, 7, 8, 15, 28] (fun zz_ => match zz_ with | 5 => some ⟨Int × Int, fun s => zaq n f es n2 f2 ss k s.1 s.2, fun _ s => J s.1 s.2, fun s => μ s.1 s.2, fun e h => (gI e 7, gI e 8), [], [0, 1, 7, 8], [], fun p => ∀ (x7 x8 : Int), p (x7, x8), fun p h s => h s.1 s.2⟩ | _ => none) (Tryz.f118.body.getD .skip) [.sl n f es, .sl n2 f2 ss, .int .i64 k] R = _) h)

def zi2 (n f : Bool) (es : LL) (n2 f2 : Bool) (ss : LL) (k : Int) (R : PV -> Prop) : Prop :=
 if (k == 0) = true then R (Zb true) else aL ss (i64.wrap (k - 1)) 1 /\ ∃ n1, (ss.getD (i64.wrap (k - 1)).toNat []).head? = some (Z3 n1) /\ aL ss k 1 /\ ∃ n3, (ss.getD k.toNat []).head? = some (Z3 n3) /\
 PCall Tryz.prog 113 [PV.sl n f es, Z3 n1] fun v => ∃ n4, v = Z6 n4 /\ PCall Tryz.prog 113 [PV.sl n f es, Z3 n3] fun v1 => ∃ n5, v1 = Z6 n5 /\ if (n4 == 1 && n5 == 2) = true then R (Zb false) else PCall Tryz.prog
 114 [Z6 n4] fun v2 => ∃ b, v2 = Zb b /\ if b = true then R (Zb true) else PCall Tryz.prog 114 [Z6 n5] fun v3 => ∃ b1, v3 = Zb b1 /\ if b1 = true then R (Zb true) else PCall Tryz.prog 115 [Z6 n4, Z6 n5] fun (v4 :
 PV) => ∃ b2, v4 = Zb b2 /\ if (b2 || n5 == 4 || n5 == 5 || n5 == 8 || n4 == 7) = true then R (Zb false) else PCall Tryz.prog 116 [PV.sl n f es, PV.sl n2 f2 ss, Z6 k] fun v5 => ∃ b3, v5 = Zb b3 /\ if (!b3) = true then
 PCall Tryz.prog 117 [PV.sl n f es, PV.sl n2 f2 ss, Z6 k] fun v6 => ∃ b4, v6 = Zb b4 /\ if (!b4) = true then PCall Tryz.prog 118 [PV.sl n f es, PV.sl n2 f2 ss, Z6 k] fun v7 => ∃ b5, v7 = Zb b5 /\ R (Zb !b5) else R
 (Zb false) else R (Zb false)
theorem ztk (n f : Bool) (es : LL) (n2 f2 : Bool) (ss : LL) (k : Int) {R : PV -> Prop} (h : zi2 n f es n2 f2 ss k R) : PCall Tryz.prog 76 [.sl n f es, .sl n2 f2 ss, .int .i64 k] R :=
 PCall.of Tryz.func76 (by kernel_rfl) (by kernel_rfl) (zl (by kernel_rfl)) (Eq.mpr (by kernel_rfl : aP Tryz.prog (fun _ => none) Tryz.f76 [0, 1, 2, 6, 7, 8, 10, 29, 35, 54] (fun _ => none) (Tryz.f76.body.getD .skip) [.sl n f es, .sl n2 f2 ss, .int .i64 k] R = _) h)

def zar (n f : Bool) (es : LL) (n2 f2 : Bool) (ss : LL) (k x7 : Int) : Env × Hp := ([(0, LV.pv (PV.sl n f es)), (1, LV.pv (PV.sl n2 f2 ss)), (7, Y6 x7)], [])
def zi3 (n f : Bool) (es : LL) (n2 f2 : Bool) (ss : LL) (k : Int) (J : Int -> Prop) (μ : Int -> Nat) (R : PV -> Prop) : Prop :=
 (aB (zar n f es n2 f2 ss k (i64.wrap (k + 1))) /\ J (i64.wrap (k + 1))) /\ ∀ (x7 : Int), J x7 -> if decide (x7 < (↑ss.length : Int)) = true then PCall Tryz.prog 76 [PV.sl n f es, PV.sl n2 f2 ss, Z6 x7] fun v => ∃ (b
 : Bool), v = Zb b /\ if b = true then R (Z6 x7) else aB (zar n f es n2 f2 ss k (i64.wrap (x7 + 1))) /\ J (i64.wrap (x7 + 1)) /\ μ (i64.wrap (x7 + 1)) < μ x7 else R (Z6 (↑ss.length : Int))
theorem ztl (n f : Bool) (es : LL) (n2 f2 : Bool) (ss : LL) (k : Int) (J : Int -> Prop) (μ : Int -> Nat) {R : PV -> Prop} (h : zi3 n f es n2 f2 ss k J μ R) : PCall Tryz.prog 105 [.sl n f es, .sl n2 f2 ss, .int .i64 k] R :=
 PCall.of Tryz.func105 (by kernel_rfl) (by kernel_rfl) (zl (by kernel_rfl)) (Eq.mpr (by kernel_rfl : aP Tryz.prog (fun _ => none) Tryz.f105 [0, 1, 2, 6, 7, 13, 19] (fun zz_ => match zz_ with | 2 => some ⟨Int × Unit, fun s => zar n f es n2 f2 ss k s.1, fun _ s => J s.1, fun s => μ s.1, fun e h => (((gI e 7), ())), [], [0, 1, 7], [], fun p => ∀ (x7 : Int), p (x7, ()), fun p h s => h s.1⟩ | _ => none) (Tryz.f105.body.getD .skip) [.sl n f es, .sl n2 f2 ss, .int .i64 k] R = _) h)

def zas (n f : Bool) (es : LL) (n2 f2 : Bool) (ss : LL) (x6 : Int) (n_0 : Bool) (s_0 : LL) : Env × Hp := ([(0, LV.pv (PV.sl n f es)), (1, LV.pv (PV.sl n2 f2 ss)), (5, LV.own 0), (6, Y6 x6)], [.sl (23, 1) true n_0 s_0])
def zi4 (n f : Bool) (es : LL) (n2 f2 : Bool) (ss : LL) (J : Int -> Bool -> LL -> Prop) (μ : Int -> Bool -> LL -> Nat) (R : PV -> Prop) : Prop :=
 (aB (zas n f es n2 f2 ss (0 : Int) true []) /\ J (0 : Int) true []) /\ ∀ (x6 : Int) (n_0 : Bool) (s_0 : LL), J x6 n_0 s_0 -> if decide (x6 < (↑ss.length : Int)) = true then PCall Tryz.prog 105 [PV.sl n f es, PV.sl n2 f2 ss, Z6 x6] fun (v
 : PV) => ∃ n1, v = Z6 n1 /\ (c6 ss.length (some x6) (some n1) none /\ aQ ss 1) /\ (aQ [[PV.sl n2 (f2 && decide (n1 = (↑ss.length : Int))) (List.drop x6.toNat (List.take n1.toNat ss))]] 1 /\ (s_0.length + 1) * 24 <= 140737488355328)
 /\ aB (zas n f es n2 f2 ss n1 (n_0 && false) (s_0 ++ [[PV.sl n2 (f2 && decide (n1 = (↑ss.length : Int))) (List.drop x6.toNat (List.take n1.toNat ss))]])) /\ J n1 (n_0 && false) (s_0 ++ [[PV.sl n2 (f2 && decide (n1 = (↑ss.length : Int)))
 (List.drop x6.toNat (List.take n1.toNat ss))]]) /\ μ n1 (n_0 && false) (s_0 ++ [[PV.sl n2 (f2 && decide (n1 = (↑ss.length : Int))) (List.drop x6.toNat (List.take n1.toNat ss))]]) < μ x6 n_0 s_0 else R (PV.sl n_0 false s_0)
theorem ztm (n f : Bool) (es : LL) (n2 f2 : Bool) (ss : LL) (J : Int -> Bool -> LL -> Prop) (μ : Int -> Bool -> LL -> Nat) {R : PV -> Prop} (h : zi4 n f es n2 f2 ss J μ R) : PCall Tryz.prog 71 [.sl n f es, .sl n2 f2 ss] R :=
 PCall.of Tryz.func71 (by kernel_rfl) (by kernel_rfl) (zl (by kernel_rfl)) (Eq.mpr (by kernel_rfl : aP Tryz.prog (fun _ => none) Tryz.f71 [0, 1, 4, 5, 6, 7, 11] (fun zz_ => match zz_ with | 3 => some ⟨Int × Bool × LL, fun s => zas n f es n2 f2 ss s.1 s.2.1 s.2.2, fun _ s => J s.1 s.2.1 s.2.2, fun s => μ s.1 s.2.1 s.2.2, fun e h => (gI e 6, oN h 0, oS h 0), [(5, 23, 1)], [0, 1, 5, 6], [], fun p => ∀ (x6 : Int) (n_0 : Bool) (s_0 : LL), p (x6, n_0, s_0), fun p h s => h s.1 s.2.1 s.2.2⟩ | _ => none) (Tryz.f71.body.getD .skip) [.sl n f es, .sl n2 f2 ss] R = _) h)

end Go.Eng



namespace Go.Eng
open Go Go.Proofs Go.Eng.Rows Go.Eng.Trie Go.Eng.Srt
def zat (st : SSt) : PV := .agg [.bool st.some, .int .i64 st.last, .int .i64 st.pict, .int .i64 st.conj, .bool st.odd]
theorem zi5 {r : Int} (h : 44032 <= r /\ r <= 55203) : i32.wrap (r - 44032) = r - 44032 := d7 (by omega) (by omega)
section
variable {rows : List Row} {v : PV}
theorem zi6 (hv : dM rows v) {r : Int} (hr : -2147483648 <= r /\ r <= 2147483647) : PCall Tryz.prog 163 [v, .int .i32 r] fun x => x = .int .i64 (aI rows r) := by
 obtain ⟨tc, tg, tj, tf, tp, made, sec, rfl, ht, hm⟩ := hv
 refine zs6 _ _ _ _ _ _ _ _ ?_; unfold zin
 by_cases hh : 44032 <= r /\ r <= 55203
 ·rw [zi5 hh]
  by_cases hm28 : (r - 44032).tmod 28 = 0
  ·refine bK (by simp [hh, hm28]) ?_
   unfold aI; rw [if_pos hh, if_pos hm28]
  ·refine bL (by simp [hm28]) (bK (by simp [hh]) ?_)
   unfold aI; rw [if_pos hh, if_neg hm28]
 ·refine bL (by simp; omega) (bL (by simp; omega) ?_)
  obtain ⟨ps, rfl⟩ := ht.g.ptr
  refine .inl ⟨ps, rfl, ?_⟩
  have hw : i64.wrap r = r := aC (by omega) (by omega)
  rw [hw]
  refine (yH ht.g r (by omega)).mono ?_
  rintro _ rfl
  refine ⟨_, rfl, ?_⟩
  rw [y7]; unfold aI; rw [if_neg hh]
theorem ztn (hv : dM rows v) {r : Int} (hr : -2147483648 <= r /\ r <= 2147483647) : PCall Tryz.prog 165 [v, .int .i32 r] fun x => x = .int .i64 (bH rows r) := by
 have hb := zi6 hv hr
 obtain ⟨tc, tg, tj, tf, tp, made, sec, rfl, ht, hm⟩ := hv
 refine zs7 _ _ _ _ _ _ _ _ ?_; unfold zio
 obtain ⟨ps, rfl⟩ := ht.j.ptr
 refine .inl ⟨ps, rfl, ?_⟩
 have hw : i64.wrap r = r := aC (by omega) (by omega)
 rw [hw]
 refine (yH ht.j r (by omega)).mono ?_
 rintro _ rfl
 refine ⟨_, rfl, ?_⟩
 rw [y7]
 unfold bH
 refine aD (fun hc => ?_) (fun hc => ?_)
 ·simp only [bne_iff_ne, ne_eq] at hc
  rw [if_pos hc]
 ·simp only [bne_iff_ne, ne_eq, Decidable.not_not] at hc
  rw [if_neg (fun h => h hc)]
  refine hb.mono ?_
  rintro _ rfl
  refine ⟨_, rfl, aD (fun h2 => ?_) (fun h2 => ?_)⟩
  ·simp only [Bool.and_eq_true, Bool.or_eq_true, beq_iff_eq, bne_iff_ne, ne_eq] at h2
   rw [if_pos h2]
  ·simp only [Bool.and_eq_true, Bool.or_eq_true, beq_iff_eq, bne_iff_ne, ne_eq] at h2
   rw [if_neg h2]
theorem zto (hv : dM rows v) {r : Int} (hr : -2147483648 <= r /\ r <= 2147483647) : PCall Tryz.prog 164 [v, .int .i32 r] fun x => x = .bool (bM rows 5 r) := by
 obtain ⟨tc, tg, tj, tf, tp, made, sec, rfl, ht, hm⟩ := hv
 refine zs8 _ _ _ _ _ _ _ _ ?_; unfold ziq
 obtain ⟨ps, rfl⟩ := ht.f.ptr
 refine .inl ⟨ps, rfl, ?_⟩
 have hw : i64.wrap r = r := aC (by omega) (by omega)
 rw [hw]
 refine (zfz ht.f r (by omega)).mono ?_
 rintro _ rfl
 rw [zgs]
 exact ⟨_, rfl, rfl, _, rfl, _, rfl, _, rfl, _, rfl, rfl⟩
theorem mB (n f : Bool) (hl : rows.length < 1000000) {r : Int} (hr : -2147483648 <= r /\ r <= 2147483647) : PCall Tryz.prog 113 [.sl n f (bE rows), .int .i32 r] fun x => x = .int .i64 (aI rows r) := by
 refine zs9 _ _ _ _ ?_; unfold zir
 refine aD (fun hh => ?_) (fun hh => ?_)
 ·simp only [Bool.and_eq_true, decide_eq_true_eq, ge_iff_le] at hh
  rw [zi5 hh]
  unfold aI; rw [if_pos hh]
  refine aD (fun h2 => ?_) (fun h2 => ?_)
  ·simp only [beq_iff_eq] at h2; rw [if_pos h2]
  ·simp only [beq_iff_eq] at h2; rw [if_neg h2]
 ·simp only [Bool.and_eq_true, decide_eq_true_eq, ge_iff_le] at hh
  refine (qC n f 4 r hl hr).mono ?_
  rintro _ rfl
  unfold aI; rw [if_neg hh]
  exact ⟨_, rfl, rfl⟩
theorem zi7 (n f : Bool) (hl : rows.length < 1000000) {r : Int} (hr : -2147483648 <= r /\ r <= 2147483647) : PCall Tryz.prog 141 [.sl n f (bE rows), .int .i32 r] fun x => x = .int .i64 (bH rows r) := by
 refine zta _ _ _ _ ?_; unfold zis
 refine (qC n f 6 r hl hr).mono ?_
 rintro _ rfl
 refine ⟨_, rfl, ?_⟩
 unfold bH
 refine aD (fun hc => ?_) (fun hc => ?_)
 ·simp only [bne_iff_ne, ne_eq] at hc
  rw [if_pos hc]
 ·simp only [bne_iff_ne, ne_eq, Decidable.not_not] at hc
  rw [if_neg (fun h => h hc)]
  refine (mB n f hl hr).mono ?_
  rintro _ rfl
  refine ⟨_, rfl, aD (fun h2 => ?_) (fun h2 => ?_)⟩
  ·simp only [Bool.and_eq_true, Bool.or_eq_true, beq_iff_eq, bne_iff_ne, ne_eq] at h2
   rw [if_pos h2]
  ·simp only [Bool.and_eq_true, Bool.or_eq_true, beq_iff_eq, bne_iff_ne, ne_eq] at h2
   rw [if_neg h2]
theorem ztp (a b : Int) : PCall Tryz.prog 166 [.int .i64 a, .int .i64 b] fun x => x = .bool (fP a b) := by
 refine ztb _ _ ?_; unfold zit
 simp only [beq_iff_eq]
 have hd : ∀ x y : Int, (x == y) = decide (x = y) := fun x y => by by_cases h : x = y <;> simp [h]
 simp only [hd]
 unfold fP l9
 rcases (by omega : b = 1 ∨ b = 2 ∨ b = 3 ∨ b = 4 ∨ b = 5 ∨ b = 8 ∨ (b ≠ 1 /\ b ≠ 2 /\ b ≠ 3 /\ b ≠ 4 /\ b ≠ 5 /\ b ≠ 8)) with rfl | rfl | rfl | rfl | rfl | rfl | ⟨b1, b2, b3, b4, b5, b8⟩
 all_goals
  rcases (by omega : a = 1 ∨ a = 2 ∨ a = 3 ∨ a = 7 ∨ a = 9 ∨ a = 10 ∨ a = 11 ∨ a = 12 ∨ a = 13 ∨ (a ≠ 1 /\ a ≠ 2 /\ a ≠ 3 /\ a ≠ 7 /\ a ≠ 9 /\ a ≠ 10 /\ a ≠ 11 /\ a ≠ 12 /\ a ≠ 13)) with rfl | rfl | rfl | rfl | rfl | rfl | rfl | rfl | rfl | ⟨a1, a2, a3, a7, a9, a10, a11, a12, a13⟩
 all_goals simp [*, Bool.or_assoc]
theorem ztq (hv : dM rows v) (st : SSt) {r : Int} (hr : -2147483648 <= r /\ r <= 2147483647) : PCall Tryz.prog 146 [zat st, v, .int .i32 r] fun x => x = .tup [zat (dG rows st r), .bool (nK rows st r)] := by
 have h1 := zi6 hv hr
 have h2 := zto hv hr
 have h3 := ztn hv hr
 obtain ⟨tc, tg, tj, tf, tp, made, sec, rfl, ht, hm⟩ := hv
 obtain ⟨so, la, pi, co, od⟩ := st
 refine ztc _ _ _ _ _ _ _ _ _ _ _ _ _ ?_; unfold ziu
 refine h1.mono ?_
 rintro _ rfl
 refine ⟨_, rfl, ?_⟩
 refine h2.mono ?_
 rintro _ rfl
 refine ⟨_, rfl, ?_⟩
 refine h3.mono ?_
 rintro _ rfl
 refine ⟨_, rfl, ?_⟩
 refine (ztp la (aI rows r)).mono ?_
 rintro _ rfl
 refine ⟨_, rfl, ?_⟩
 unfold dG nK qM zat
 dsimp only
 have hd : ∀ x y : Int, (x == y) = decide (x = y) := fun x y => by by_cases h : x = y <;> simp [h]
 have hd2 : ∀ x y : Int, (x != y) = !decide (x = y) := fun x y => by by_cases h : x = y <;> simp [h]
 simp only [hd, hd2]
 generalize fP la (aI rows r) = b1
 generalize bM rows 5 r = b
 generalize bH rows r = c
 generalize aI rows r = n
 by_cases n6 : n = 6
 ·subst n6
  cases b1 <;> cases b <;> by_cases p2 : pi = 2 <;> by_cases c2 : c = 2 <;> by_cases k2 : co = 2 <;> by_cases c1 : c = 1 <;> by_cases c3 : c = 3 <;> by_cases k0 : co = 0 <;> first | omega | simp [*]
 ·by_cases p1 : pi = 1
  ·subst p1
   by_cases n4 : n = 4
   ·subst n4
    cases b1 <;> cases b <;> by_cases c2 : c = 2 <;> by_cases k2 : co = 2 <;> by_cases c1 : c = 1 <;> by_cases c3 : c = 3 <;> by_cases k0 : co = 0 <;> first | omega | simp [*]
   ·by_cases n5 : n = 5
    ·subst n5
     cases b1 <;> cases b <;> by_cases c2 : c = 2 <;> by_cases k2 : co = 2 <;> by_cases c1 : c = 1 <;> by_cases c3 : c = 3 <;> by_cases k0 : co = 0 <;> first | omega | simp [*]
    ·cases b1 <;> cases b <;> by_cases c2 : c = 2 <;> by_cases k2 : co = 2 <;> by_cases c1 : c = 1 <;> by_cases c3 : c = 3 <;> by_cases k0 : co = 0 <;> first | omega | simp [*]
  ·cases b1 <;> cases b <;> by_cases p2 : pi = 2 <;> by_cases c2 : c = 2 <;> by_cases k2 : co = 2 <;> by_cases c1 : c = 1 <;> by_cases c3 : c = 3 <;> by_cases k0 : co = 0 <;> first | omega | simp [*]
end
end Go.Eng



namespace Go.Eng
open Go Go.Proofs Go.Eng.Rows Go.Eng.Trie Go.Eng.Srt
theorem fQ {L : List Int} (h : R32 L) (i : Nat) : -2147483648 <= L.getD i 0 /\ L.getD i 0 <= 2147483647 := by
 by_cases hi : i < L.length
 ·rw [show L.getD i 0 = L[i] by simp [List.getD, hi]]; exact h _ (List.getElem_mem hi)
 ·rw [show L.getD i 0 = 0 by simp [List.getD, hi]]; omega
theorem gQ {l : List Int} {i : Int} (h0 : 0 <= i) (hi : i.toNat < l.length) : aL (aA l) i 1 /\ (aA l).getD i.toNat [] = [.int .i32 (l.getD i.toNat 0)] := by
 obtain ⟨h1, h2⟩ := gO h0 hi
 exact ⟨h1, by rw [h2]; simp [List.getD, hi]⟩
section
variable {rows : List Row} {v : PV}
theorem zi8 {L : List Int} {i : Nat} (hi : i < L.length) (hb : eG rows L i = false) : eW rows L (L.length - i) i = eW rows L (L.length - (i + 1)) (i + 1) := by
 rw [show L.length - i = (L.length - (i + 1)) + 1 by omega, eW, if_neg (by rw [hb]; decide)]
theorem zi9 {L : List Int} {i : Nat} (hi : i < L.length) (hb : eG rows L i = true) : eW rows L (L.length - i) i = i := by
 rw [show L.length - i = (L.length - (i + 1)) + 1 by omega, eW, if_pos hb]
theorem ztr (ht : eH rows) (hv : dM rows v) (n f : Bool) (L : List Int) (hr : R32 L) (hL : L.length < 1000000000000) (k : Int) (k0 : 0 <= k) (k1 : k < L.length) (hb : eG rows L k.toNat = true) :
 PCall Tryz.prog 123 [v, .sl n f (aA L), .int .i64 k] fun x => x = .int .i64 (bN rows L k.toNat : Nat) := by
 have hs := fun st {r : Int} hr => ztq hv st (r := r) hr
 obtain ⟨tc, tg, tj, tf, tp, made, sec, rfl, ht', hm⟩ := hv
 refine ztd _ _ _ _ _ _ _ _ _ _ _
  (fun i so la pi co od => (k + 1 <= i /\ i <= L.length) /\ aY rows L k.toNat (i.toNat - k.toNat) = ⟨so, la, pi, co, od⟩ /\ bN rows L k.toNat = eW rows L (L.length - i.toNat) i.toNat) (fun i _ _ _ _ _ => L.length - i.toNat) ?_
 unfold ziv
 have hl8 : ((aA L).length : Int) = L.length := by rw [aS]
 rw [hl8]
 refine bL (by simp; omega) ?_
 have hk : k.toNat < L.length := by omega
 obtain ⟨g1, g2⟩ := gQ k0 hk
 have hw : i64.wrap (k + 1) = k + 1 := aC (by omega) (by omega)
 refine ⟨g1, _, by rw [g2]; rfl, ?_⟩
 refine (hs st0 (fQ hr k.toNat)).mono ?_
 rintro _ rfl
 rw [hw]
 refine ⟨_, rfl, rfl, _, rfl, _, rfl, rfl, _, rfl, _, rfl, _, rfl, _, rfl, _, rfl, _, rfl, _, rfl, ⟨rfl, ⟨by omega, by omega⟩, ?_, ?_⟩, ?_⟩
 ·rw [show (k + 1).toNat - k.toNat = 1 by omega]; rfl
 ·rw [show (k + 1).toNat = k.toNat + 1 by omega]; rfl
 rintro i so la pi co od ⟨⟨i0, i1⟩, hst, hn⟩
 refine aD (fun hc => ?_) (fun hc => ?_)
 ·simp only [decide_eq_true_eq] at hc
  have hi : i.toNat < L.length := by omega
  obtain ⟨j, hj⟩ : ∃ j, i.toNat = k.toNat + (j + 1) := ⟨i.toNat - k.toNat - 1, by omega⟩
  obtain ⟨g1, g2⟩ := gQ (l := L) (i := i) (by omega) hi
  have hwi : i64.wrap (i + 1) = i + 1 := aC (by omega) (by omega)
  have hcut : nK rows ⟨so, la, pi, co, od⟩ (L.getD i.toNat 0) = eG rows L i.toNat := by
   rw [<- hst, hj, show k.toNat + (j + 1) - k.toNat = j + 1 by omega]
   exact zsw ht hb j
  have hstep : aY rows L k.toNat ((i + 1).toNat - k.toNat) = dG rows ⟨so, la, pi, co, od⟩ (L.getD i.toNat 0) := by
   rw [<- hst, show (i + 1).toNat - k.toNat = (i.toNat - k.toNat) + 1 by omega]
   show dG rows _ (L.getD (k.toNat + (i.toNat - k.toNat)) 0) = _
   rw [show k.toNat + (i.toNat - k.toNat) = i.toNat by omega]
  have body : ∀ K : Prop, K -> if eG rows L i.toNat = true then (PV.int .i64 i = .int .i64 (bN rows L k.toNat : Nat)) else K /\ ((k + 1 <= i + 1 /\ i + 1 <= L.length) /\ aY rows L k.toNat ((i + 1).toNat - k.toNat) = ⟨(dG rows ⟨so, la, pi, co, od⟩ (L.getD i.toNat 0)).some, (dG rows ⟨so, la, pi, co, od⟩ (L.getD i.toNat 0)).last, (dG rows ⟨so, la, pi, co, od⟩ (L.getD i.toNat 0)).pict, (dG rows ⟨so, la, pi, co, od⟩ (L.getD i.toNat 0)).conj, (dG rows ⟨so, la, pi, co, od⟩ (L.getD i.toNat 0)).odd⟩ /\ bN rows L k.toNat = eW rows L (L.length - (i + 1).toNat) (i + 1).toNat) /\ L.length - (i + 1).toNat < L.length - i.toNat := fun K hK => by
   split
   ·rename_i hbi
    rw [hn, zi9 hi hbi, show ((i.toNat : Nat) : Int) = i by omega]
   ·rename_i hbi
    refine ⟨hK, ⟨⟨by omega, by omega⟩, by rw [hstep], ?_⟩, by omega⟩
    rw [hn, zi8 hi (by simpa using hbi), show (i + 1).toNat = i.toNat + 1 by omega]
  have call := hs ⟨so, la, pi, co, od⟩ (fQ hr i.toNat)
  rw [hcut] at call
  rw [hwi]
  refine ⟨g1, _, by rw [g2]; rfl, call.mono ?_, call.mono ?_⟩
  ·rintro _ rfl
   exact ⟨_, rfl, rfl, _, rfl, _, rfl, rfl, _, rfl, _, rfl, _, rfl, _, rfl, _, rfl, _, rfl, _, rfl, body _ rfl, body _ rfl, body _ rfl⟩
  ·rintro _ rfl
   exact ⟨_, rfl, rfl, _, rfl, _, rfl, rfl, _, rfl, _, rfl, _, rfl, _, rfl, _, rfl, _, rfl, _, rfl, body _ rfl, body _ rfl⟩
 ·simp only [decide_eq_true_eq] at hc
  have hie : i.toNat = L.length := by omega
  rw [hn, show L.length - i.toNat = 0 by omega]
  show _ = PV.int .i64 ((i.toNat : Nat) : Int)
  rw [show ((i.toNat : Nat) : Int) = i by omega]
theorem zts (n f : Bool) (l : List Int) (hn : n = true -> l = []) (hl : l.length < 1000000000000) : PCall Tryz.prog 63 [.sl n f (aA l)] fun x => x = .sl n false (aA l) :=
 PCall.ofA (args := [_]) (zhg n f (aA l) (fun h => by rw [hn h]; rfl) ⟨rfl, .inl rfl, fun e he => (by cases he), cV _, by simp only [List.length_nil, aS]; omega⟩) fun r h' ⟨hr, hh⟩ => by subst hr; subst hh; exact ⟨_, rfl, rfl⟩
def gT (q : Bool × Bool × List Int) : List PV := [.sl q.1 q.2.1 (aA q.2.2)]
theorem zau (q : Bool × Bool × List Int) : (gT q).length = 1 := rfl
theorem ztt (ht : eH rows) (hv : dM rows v) (n f : Bool) (L : List Int) (hn0 : n = true -> L = []) (hr : R32 L) (hL : L.length < 100000000) :
 PCall Tryz.prog 81 [v, .sl n f (aA L)] fun x => ∃ (n : Bool) (Q : List (Bool × Bool × List Int)), x = .sl n false (Q.map gT) /\ Q.map (fun q => q.2.2) = cA rows L 0 /\ (∀ q ∈ Q, q.1 = true -> q.2.2 = []) /\ (n = true -> Q = []) := by
 have hnx := fun k k0 k1 hb => ztr ht hv n f L hr (by omega) k k0 k1 hb
 obtain ⟨tc, tg, tj, tf, tp, made, sec, rfl, ht', hm⟩ := hv
 refine zte _ _ _ _ _ _ _ _ _ _
  (fun i n s => (0 <= i /\ i <= L.length) /\ (i.toNat = L.length ∨ eG rows L i.toNat = true) /\ ∃ Q : List (Bool × Bool × List Int), s = Q.map gT /\ cA rows L 0 = Q.map (fun q => q.2.2) ++ cA rows L i.toNat /\ (∀ q ∈ Q, q.1 = true -> q.2.2 = []) /\ (n = true -> Q = []) /\ Q.length <= i.toNat) (fun i _ _ => L.length - i.toNat) ?_
 unfold ziw
 have hl8 : ((aA L).length : Int) = L.length := by rw [aS]
 rw [hl8]
 refine ⟨⟨rfl, ⟨Int.le_refl _, by omega⟩, .inr rfl, [], rfl, rfl, (fun q hq => by cases hq), (fun _ => rfl), Nat.le_refl _⟩, ?_⟩
 rintro i n2 _ ⟨⟨i0, i1⟩, hbeg, Q, rfl, hcl, hq, hnq, hql⟩
 refine aD (fun hc => ?_) (fun hc => ?_)
 ·simp only [decide_eq_true_eq] at hc
  have hi : i.toNat < L.length := by omega
  have hb := hbeg.resolve_left (by omega)
  obtain ⟨x1, x2, x3⟩ := nL (rows := rows) hi
  refine (hnx i i0 hc hb).mono ?_
  rintro _ rfl
  refine ⟨_, rfl, ⟨zac i0 (by omega) (by rw [aS]; omega), cV _⟩, ?_⟩
  rw [show (((bN rows L i.toNat : Nat) : Int)).toNat = bN rows L i.toNat by omega, zad]
  have hsl := zsc L i.toNat (bN rows L i.toNat)
  have hsn : n = true -> dI L i.toNat (bN rows L i.toNat) = [] := fun h => by rw [hn0 h] at hi; cases hi
  refine (zts n _ (dI L i.toNat (bN rows L i.toNat)) hsn (by omega)).mono ?_
  rintro _ rfl
  refine ⟨_, _, _, rfl, ⟨m9 (enc := gT) zau [(n, false, dI L i.toNat (bN rows L i.toNat))], by rw [List.length_map]; omega⟩, rfl, ⟨⟨by omega, by omega⟩, ?_, Q ++ [(n, false, dI L i.toNat (bN rows L i.toNat))], by rw [List.map_append]; rfl, ?_, fun q hq2 => ?_, fun h => by simp at h, ?_⟩, ?_⟩
  ·rw [show (((bN rows L i.toNat : Nat) : Int)).toNat = bN rows L i.toNat by omega]; exact x3
  ·rw [show (((bN rows L i.toNat : Nat) : Int)).toNat = bN rows L i.toNat by omega, hcl, t7 hi, List.map_append, List.append_assoc]; rfl
  ·rcases List.mem_append.1 hq2 with hq2 | hq2
   ·exact hq q hq2
   ·rw [List.mem_singleton.1 hq2]; exact hsn
  ·rw [show (((bN rows L i.toNat : Nat) : Int)).toNat = bN rows L i.toNat by omega, List.length_append, List.length_singleton]; omega
  ·dsimp only; omega
 ·simp only [decide_eq_true_eq] at hc
  rw [nM (i := i.toNat) (by omega), List.append_nil] at hcl
  exact ⟨n2, Q, rfl, hcl.symm, hq, hnq⟩
end
end Go.Eng



namespace Go.Eng
open Go Go.Proofs Go.Eng.Rows Go.Eng.Trie Go.Eng.Srt
section
variable {rows : List Row}
theorem uE (r : Int) : (aG rows 5 r = 1) ↔ bM rows 5 r = true := by
 unfold aG bM
 cases bR rows 5 r with
 | none => simp
 | some p => simp
theorem zja (a : Int) : PCall Tryz.prog 114 [.int .i64 a] fun x => x = .bool (cC a) := by
 refine ztf _ ?_; unfold zix cC
 have hd : ∀ x y : Int, (x == y) = decide (x = y) := fun x y => by by_cases h : x = y <;> simp [h]
 simp only [hd, Bool.or_assoc]
theorem ztu (a b : Int) : PCall Tryz.prog 115 [.int .i64 a, .int .i64 b] fun x => x = .bool (l9 a b) := by
 refine ztg _ _ ?_; unfold ziy l9
 have hd : ∀ x y : Int, (x == y) = decide (x = y) := fun x y => by by_cases h : x = y <;> simp [h]
 simp only [hd]
 by_cases h9 : a = 9
 ·rw [if_pos (by simp [h9]), if_pos h9]; simp only [Bool.or_assoc]
 ·rw [if_neg (by simp [h9]), if_neg h9]
  by_cases h12 : a = 12 ∨ a = 10
  ·rw [if_pos (by simpa using h12), if_pos h12]
  ·rw [if_neg (by simpa using h12), if_neg h12]
   by_cases h13 : a = 13 ∨ a = 11
   ·rw [if_pos (by simpa using h13), if_pos h13]
   ·rw [if_neg (by simpa using h13), if_neg h13]
def nO (rows : List Row) (L : List Int) (x : Bool) (j : Nat) : Bool := if x = true then decide ((aY rows L 0 j).conj ≠ 0) else decide ((aY rows L 0 j).conj = 2)
theorem ztv (ht : eH rows) (L : List Int) (x : Bool) (j : Nat) : nO rows L x (j + 1) =
 if bH rows (L.getD j 0) = 2 then x else if bH rows (L.getD j 0) = 0 then false else if bH rows (L.getD j 0) = 1 then nO rows L true j else nO rows L x j := by
 unfold nO
 rw [zsy]
 rcases ht.conj (L.getD j 0) with h | h | h | h <;> rw [h]
 ·cases x <;> simp
 ·by_cases h0 : (aY rows L 0 j).conj = 0
  ·cases x <;> simp [h0]
  ·cases x <;> simp [h0]
 ·cases x <;> simp
 ·by_cases h0 : (aY rows L 0 j).conj = 0
  ·cases x <;> simp [h0]
  ·cases x <;> simp [h0]
def mC (rows : List Row) (L : List Int) (j : Nat) : Bool := decide ((aY rows L 0 j).pict = 1)
theorem ztw (L : List Int) (j : Nat) : mC rows L (j + 1) = if bM rows 5 (L.getD j 0) = true then true else if aI rows (L.getD j 0) ≠ 4 then false else mC rows L j := by
 unfold mC
 rw [zie]
 generalize L.getD j 0 = r
 generalize (aY rows L 0 j).pict = p
 by_cases h1 : bM rows 5 r = true
 ·rw [if_pos h1, if_pos h1]; rfl
 ·rw [if_neg h1, if_neg h1]
  by_cases h2 : aI rows r = 4
  ·by_cases h3 : p = 1
   ·simp [h2, h3]
   ·simp [h2, h3]
  ·by_cases h3 : aI rows r = 5
   ·by_cases h4 : p = 1 <;> simp [h3, h4]
   ·simp [h2, h3]
theorem ztx (ht : eH rows) (L : List Int) (k : Nat) : decide ((aY rows L 0 (k + 1)).pict = 2) = (decide (aI rows (L.getD k 0) = 5) && mC rows L k) := by
 unfold mC
 rw [zie]
 generalize L.getD k 0 = r
 generalize (aY rows L 0 k).pict = p
 by_cases h1 : bM rows 5 r = true
 ·have := (ht.pict _ h1).2
  rw [if_pos h1]; simp [this]
 ·rw [if_neg h1]
  by_cases h3 : p = 1
  ·by_cases h5 : aI rows r = 5
   ·simp [h3, h5]
   ·by_cases h4 : aI rows r = 4 <;> simp [h3, h5, h4]
  ·simp [h3]
def qO (rows : List Row) (L : List Int) (x : Int) (j : Nat) : Bool := if x.tmod 2 = 1 then !(aY rows L 0 j).odd else (aY rows L 0 j).odd
theorem zty (L : List Int) {x : Int} (h0 : 0 <= x) (j : Nat) : qO rows L x (j + 1) = if aI rows (L.getD j 0) = 6 then qO rows L (x + 1) j else decide (x.tmod 2 = 1) := by
 unfold qO
 rw [zsz]
 rw [Int.tmod_eq_emod_of_nonneg h0, Int.tmod_eq_emod_of_nonneg (by omega : 0 <= x + 1)]
 generalize aI rows (L.getD j 0) = b
 generalize (aY rows L 0 j).odd = o
 by_cases h6 : b = 6
 ·rw [if_pos h6, h6]
  by_cases hx : x % 2 = 1
  ·rw [if_pos hx, if_neg (by omega)]; simp
  ·rw [if_neg hx, if_pos (by omega)]; simp
 ·rw [if_neg h6]
  by_cases hx : x % 2 = 1
  ·rw [if_pos hx]; simp [h6, hx]
  ·rw [if_neg hx]; simp [h6, hx]
variable (ht : eH rows) (n f n2 f2 : Bool) (hl : rows.length < 1000000) (L : List Int) (hr : R32 L) (hL : L.length < 1000000000000)
include ht hl hr hL
theorem ztz (k : Nat) (hk : k + 1 < L.length) : PCall Tryz.prog 116 [.sl n f (bE rows), .sl n2 f2 (aA L), .int .i64 ((k + 1 : Nat) : Int)] fun x => x = .bool (decide (bH rows (L.getD (k + 1) 0) = 2) && decide ((aY rows L 0 (k + 1)).conj = 2)) := by
 refine zth _ _ _ _ _ _ _ (fun x j => (-1 <= j /\ j < L.length) /\ decide ((aY rows L 0 (k + 1)).conj = 2) = nO rows L x (j + 1).toNat) (fun _ j => (j + 1).toNat) ?_
 unfold ziz
 obtain ⟨g1, g2⟩ := gQ (l := L) (i := ((k + 1 : Nat) : Int)) (by omega) (by omega)
 rw [show (((k + 1 : Nat) : Int)).toNat = k + 1 by omega] at g2 ⊢
 refine ⟨g1, _, by rw [g2]; rfl, ?_⟩
 refine (zi7 n f hl (fQ hr _)).mono ?_
 rintro _ rfl
 refine ⟨_, rfl, aD (fun hc => ?_) (fun hc => ?_)⟩
 ·simp only [bne_iff_ne, ne_eq] at hc
  rw [decide_eq_false hc, Bool.false_and]
 ·simp only [bne_iff_ne, ne_eq, Decidable.not_not] at hc
  rw [hc]
  have hw : i64.wrap (((k + 1 : Nat) : Int) - 1) = (k : Int) := by rw [aC (by omega) (by omega)]; omega
  rw [hw]
  refine ⟨⟨rfl, ⟨by omega, by omega⟩, by rw [show ((k : Int) + 1).toNat = k + 1 by omega]; rfl⟩, ?_⟩
  rintro x j ⟨⟨j0, j1⟩, he⟩
  simp only [decide_true, Bool.true_and]
  rw [he]
  refine aD (fun h => ?_) (fun h => ?_)
  ·simp only [decide_eq_true_eq, ge_iff_le] at h
   obtain ⟨g1, g2⟩ := gQ (l := L) (i := j) h (by omega)
   refine ⟨g1, _, by rw [g2]; rfl, ?_⟩
   have hs := ztv ht L x j.toNat
   rw [show j.toNat + 1 = (j + 1).toNat by omega] at hs
   have hwj : i64.wrap (j - 1) = j - 1 := aC (by omega) (by omega)
   rw [hwj]
   refine (zi7 n f hl (fQ hr _)).mono ?_
   rintro _ rfl
   refine ⟨_, rfl, aD (fun h2 => ?_) (fun h2 => aD (fun h0 => ?_) (fun h0 => aD (fun h1 => ?_) (fun h1 => ?_)))⟩
   ·simp only [beq_iff_eq] at h2
    rw [hs, if_pos h2]
   ·simp only [beq_iff_eq] at h2 h0
    rw [hs, if_neg h2, if_pos h0]
   ·simp only [beq_iff_eq] at h2 h0 h1
    rw [if_neg h2, if_neg h0, if_pos h1] at hs
    exact ⟨rfl, ⟨⟨by omega, by omega⟩, by rw [hs, show (j - 1 + 1).toNat = j.toNat by omega]⟩, by first | omega | (dsimp only; omega)⟩
   ·simp only [beq_iff_eq] at h2 h0 h1
    rw [if_neg h2, if_neg h0, if_neg h1] at hs
    exact ⟨rfl, ⟨⟨by omega, by omega⟩, by rw [hs, show (j - 1 + 1).toNat = j.toNat by omega]⟩, by first | omega | (dsimp only; omega)⟩
  ·simp only [decide_eq_true_eq, ge_iff_le] at h
   rw [show (j + 1).toNat = 0 by omega]
   unfold nO
   cases x <;> rfl
theorem zt0 (k : Nat) (hk : k + 1 < L.length) : PCall Tryz.prog 117 [.sl n f (bE rows), .sl n2 f2 (aA L), .int .i64 ((k + 1 : Nat) : Int)] fun x => x = .bool (bM rows 5 (L.getD (k + 1) 0) && decide ((aY rows L 0 (k + 1)).pict = 2)) := by
 refine zti _ _ _ _ _ _ _ (fun j => (-1 <= j /\ j < L.length) /\ mC rows L k = mC rows L (j + 1).toNat) (fun j => (j + 1).toNat) ?_
 unfold zi0
 rw [ztx ht]
 obtain ⟨g1, g2⟩ := gQ (l := L) (i := ((k + 1 : Nat) : Int)) (by omega) (by omega)
 rw [show (((k + 1 : Nat) : Int)).toNat = k + 1 by omega] at g2 ⊢
 refine ⟨g1, _, by rw [g2]; rfl, ?_⟩
 refine (qC n f 5 _ hl (fQ hr _)).mono ?_
 rintro _ rfl
 refine ⟨_, rfl, aD (fun hc => ?_) (fun hc => ?_)⟩
 ·simp only [bne_iff_ne, ne_eq, uE] at hc
  rw [Bool.eq_false_iff.2 hc, Bool.false_and]
 simp only [bne_iff_ne, ne_eq, Decidable.not_not, uE] at hc
 rw [hc]
 have hw : i64.wrap (((k + 1 : Nat) : Int) - 1) = (k : Int) := by rw [aC (by omega) (by omega)]; omega
 have hw2 : i64.wrap (((k + 1 : Nat) : Int) - 2) = (k : Int) - 1 := by rw [aC (by omega) (by omega)]; omega
 rw [hw, hw2]
 obtain ⟨k1, k2⟩ := gQ (l := L) (i := (k : Int)) (by omega) (by omega)
 refine ⟨k1, _, by rw [k2]; rfl, ?_⟩
 rw [show ((k : Int)).toNat = k by omega]
 refine (mB n f hl (fQ hr _)).mono ?_
 rintro _ rfl
 refine ⟨_, rfl, aD (fun h5 => ?_) (fun h5 => ?_)⟩
 ·simp only [bne_iff_ne, ne_eq] at h5
  rw [decide_eq_false h5, Bool.false_and, Bool.and_false]
 simp only [bne_iff_ne, ne_eq, Decidable.not_not] at h5
 rw [h5]
 simp only [decide_true, Bool.true_and]
 refine ⟨⟨rfl, ⟨by omega, by omega⟩, by rw [show ((k : Int) - 1 + 1).toNat = k by omega]⟩, ?_⟩
 rintro j ⟨⟨j0, j1⟩, he⟩
 rw [he]
 refine aD (fun h => ?_) (fun h => ?_)
 ·simp only [decide_eq_true_eq, ge_iff_le] at h
  obtain ⟨g1, g2⟩ := gQ (l := L) (i := j) h (by omega)
  refine ⟨g1, _, by rw [g2]; rfl, ?_⟩
  have hs := ztw (rows := rows) L j.toNat
  rw [show j.toNat + 1 = (j + 1).toNat by omega] at hs
  have hwj : i64.wrap (j - 1) = j - 1 := aC (by omega) (by omega)
  rw [hwj]
  refine (qC n f 5 _ hl (fQ hr _)).mono ?_
  rintro _ rfl
  refine ⟨_, rfl, aD (fun h2 => ?_) (fun h2 => ?_)⟩
  ·simp only [beq_iff_eq, uE] at h2
   rw [hs, if_pos h2]
  ·simp only [beq_iff_eq, uE] at h2
   refine ⟨g1, _, by rw [g2]; rfl, ?_⟩
   refine (mB n f hl (fQ hr _)).mono ?_
   rintro _ rfl
   refine ⟨_, rfl, aD (fun h4 => ?_) (fun h4 => ?_)⟩
   ·simp only [bne_iff_ne, ne_eq] at h4
    rw [hs, if_neg h2, if_pos h4]
   ·simp only [bne_iff_ne, ne_eq, Decidable.not_not] at h4
    rw [if_neg h2, if_neg (fun h => h h4)] at hs
    exact ⟨rfl, ⟨⟨by omega, by omega⟩, by rw [hs, show (j - 1 + 1).toNat = j.toNat by omega]⟩, by first | omega | (dsimp only; omega)⟩
 ·simp only [decide_eq_true_eq, ge_iff_le] at h
  rw [show (j + 1).toNat = 0 by omega]; rfl
theorem zt1 (k : Nat) (hk : k + 1 < L.length) : PCall Tryz.prog 118 [.sl n f (bE rows), .sl n2 f2 (aA L), .int .i64 ((k + 1 : Nat) : Int)] fun x => x = .bool (decide (aI rows (L.getD (k + 1) 0) = 6) && (aY rows L 0 (k + 1)).odd) := by
 refine ztj _ _ _ _ _ _ _ (fun x j => (-1 <= j /\ j < L.length) /\ (0 <= x /\ x + j <= k) /\ (aY rows L 0 (k + 1)).odd = qO rows L x (j + 1).toNat) (fun _ j => (j + 1).toNat) ?_
 unfold zi1
 obtain ⟨g1, g2⟩ := gQ (l := L) (i := ((k + 1 : Nat) : Int)) (by omega) (by omega)
 rw [show (((k + 1 : Nat) : Int)).toNat = k + 1 by omega] at g2 ⊢
 refine ⟨g1, _, by rw [g2]; rfl, ?_⟩
 refine (mB n f hl (fQ hr _)).mono ?_
 rintro _ rfl
 refine ⟨_, rfl, aD (fun hc => ?_) (fun hc => ?_)⟩
 ·simp only [bne_iff_ne, ne_eq] at hc
  rw [decide_eq_false hc, Bool.false_and]
 simp only [bne_iff_ne, ne_eq, Decidable.not_not] at hc
 rw [hc]
 have hw : i64.wrap (((k + 1 : Nat) : Int) - 1) = (k : Int) := by rw [aC (by omega) (by omega)]; omega
 rw [hw]
 refine ⟨⟨rfl, ⟨by omega, by omega⟩, ⟨Int.le_refl _, by omega⟩, by rw [show ((k : Int) + 1).toNat = k + 1 by omega]; rfl⟩, ?_⟩
 rintro x j ⟨⟨j0, j1⟩, ⟨x0, x1⟩, he⟩
 simp only [decide_true, Bool.true_and]
 rw [he]
 have hx : ∀ y : Int, (y.tmod 2 == 1) = decide (y.tmod 2 = 1) := fun y => by by_cases h : y.tmod 2 = 1 <;> simp [h]
 refine aD (fun h => ?_) (fun h => ?_)
 ·simp only [decide_eq_true_eq, ge_iff_le] at h
  obtain ⟨g1, g2⟩ := gQ (l := L) (i := j) h (by omega)
  refine ⟨g1, _, by rw [g2]; rfl, ?_⟩
  have hs := zty (rows := rows) L x0 j.toNat
  rw [show j.toNat + 1 = (j + 1).toNat by omega] at hs
  have hwj : i64.wrap (j - 1) = j - 1 := aC (by omega) (by omega)
  have hwx : i64.wrap (x + 1) = x + 1 := aC (by omega) (by omega)
  rw [hwj, hwx]
  refine (mB n f hl (fQ hr _)).mono ?_
  rintro _ rfl
  refine ⟨_, rfl, aD (fun h6 => ?_) (fun h6 => ?_)⟩
  ·simp only [beq_iff_eq] at h6
   rw [if_pos h6] at hs
   exact ⟨rfl, ⟨⟨by omega, by omega⟩, ⟨by omega, by omega⟩, by rw [hs, show (j - 1 + 1).toNat = j.toNat by omega]⟩, by first | omega | (dsimp only; omega)⟩
  ·simp only [beq_iff_eq] at h6
   rw [hs, if_neg h6, hx]
 ·simp only [decide_eq_true_eq, ge_iff_le] at h
  rw [show (j + 1).toNat = 0 by omega, hx]
  unfold qO
  show _ = PV.bool (if x.tmod 2 = 1 then !false else false)
  by_cases h1 : x.tmod 2 = 1 <;> simp [h1]
theorem zt2 (k : Int) (k0 : 0 <= k) (k1 : k < L.length) : PCall Tryz.prog 76 [.sl n f (bE rows), .sl n2 f2 (aA L), .int .i64 k] fun x => x = .bool (eG rows L k.toNat) := by
 refine ztk _ _ _ _ _ _ _ ?_; unfold zi2
 refine aD (fun h0 => ?_) (fun h0 => ?_)
 ·simp only [beq_iff_eq] at h0
  rw [h0]; rfl
 simp only [beq_iff_eq] at h0
 obtain ⟨j, rfl⟩ : ∃ j : Nat, k = ((j + 1 : Nat) : Int) := ⟨k.toNat - 1, by omega⟩
 have hw : i64.wrap (((j + 1 : Nat) : Int) - 1) = (j : Int) := by rw [aC (by omega) (by omega)]; omega
 rw [hw, show (((j + 1 : Nat) : Int)).toNat = j + 1 by omega, zsx ht]
 obtain ⟨g1, g2⟩ := gQ (l := L) (i := (j : Int)) (by omega) (by omega)
 obtain ⟨k1, k2⟩ := gQ (l := L) (i := ((j + 1 : Nat) : Int)) (by omega) (by omega)
 rw [show (((j + 1 : Nat) : Int)).toNat = j + 1 by omega] at k2
 rw [show ((j : Int)).toNat = j by omega] at g2 ⊢
 refine ⟨g1, _, by rw [g2]; rfl, k1, _, by rw [k2]; rfl, ?_⟩
 have c1 := ztz ht n f n2 f2 hl L hr hL j (by omega)
 have c2 := zt0 ht n f n2 f2 hl L hr hL j (by omega)
 have c3 := zt1 ht n f n2 f2 hl L hr hL j (by omega)
 refine (mB n f hl (fQ hr _)).mono ?_
 rintro _ rfl
 refine ⟨_, rfl, ?_⟩
 refine (mB n f hl (fQ hr _)).mono ?_
 rintro _ rfl
 refine ⟨_, rfl, ?_⟩
 generalize aI rows (L.getD j 0) = a at *
 generalize hb : aI rows (L.getD (j + 1) 0) = b at *
 refine aD (fun h1 => ?_) (fun h1 => ?_)
 ·simp only [Bool.and_eq_true, beq_iff_eq] at h1
  rw [if_pos h1]
 simp only [Bool.and_eq_true, beq_iff_eq] at h1
 rw [if_neg h1]
 refine (zja a).mono ?_
 rintro _ rfl
 refine ⟨_, rfl, aD (fun h2 => ?_) (fun h2 => ?_)⟩
 ·rw [if_pos (.inl h2)]
 refine (zja b).mono ?_
 rintro _ rfl
 refine ⟨_, rfl, aD (fun h3 => ?_) (fun h3 => ?_)⟩
 ·rw [if_pos (.inr h3)]
 rw [if_neg (fun h => h.elim h2 h3)]
 refine (ztu a b).mono ?_
 rintro _ rfl
 refine ⟨_, rfl, aD (fun h4 => ?_) (fun h4 => ?_)⟩
 ·simp only [Bool.or_eq_true, beq_iff_eq] at h4
  rw [if_pos (by rcases h4 with (((h | h) | h) | h) | h; exact .inl h; exact .inr (.inl h); exact .inr (.inr (.inl h)); exact .inr (.inr (.inr (.inl h))); exact .inr (.inr (.inr (.inr h))))]
 simp only [Bool.or_eq_true, beq_iff_eq] at h4
 rw [if_neg (by rintro (h | h | h | h | h); exact h4 (.inl (.inl (.inl (.inl h)))); exact h4 (.inl (.inl (.inl (.inr h)))); exact h4 (.inl (.inl (.inr h))); exact h4 (.inl (.inr h)); exact h4 (.inr h))]
 refine c1.mono ?_
 rintro _ rfl
 refine ⟨_, rfl, ?_⟩
 generalize (decide (bH rows (L.getD (j + 1) 0) = 2) && decide ((aY rows L 0 (j + 1)).conj = 2)) = x1
 cases x1 with
 | true => exact bL (by simp) rfl
 | false =>
   refine bK rfl ?_
   refine c2.mono ?_
   rintro _ rfl
   refine ⟨_, rfl, ?_⟩
   generalize (bM rows 5 (L.getD (j + 1) 0) && decide ((aY rows L 0 (j + 1)).pict = 2)) = x2
   cases x2 with
   | true => exact bL (by simp) rfl
   | false =>
     refine bK rfl ?_
     refine c3.mono ?_
     rintro _ rfl
     exact ⟨_, rfl, rfl⟩
theorem zt3 (k : Int) (k0 : 0 <= k) (k1 : k < L.length) : PCall Tryz.prog 105 [.sl n f (bE rows), .sl n2 f2 (aA L), .int .i64 k] fun x => x = .int .i64 (bN rows L k.toNat : Nat) := by
 refine ztl _ _ _ _ _ _ _ (fun i => (k + 1 <= i /\ i <= L.length) /\ bN rows L k.toNat = eW rows L (L.length - i.toNat) i.toNat) (fun i => L.length - i.toNat) ?_
 unfold zi3
 have hl8 : ((aA L).length : Int) = L.length := by rw [aS]
 have hw : i64.wrap (k + 1) = k + 1 := aC (by omega) (by omega)
 rw [hl8, hw]
 refine ⟨⟨rfl, ⟨by omega, by omega⟩, by rw [show (k + 1).toNat = k.toNat + 1 by omega]; rfl⟩, ?_⟩
 rintro i ⟨⟨i0, i1⟩, hn⟩
 refine aD (fun hc => ?_) (fun hc => ?_)
 ·simp only [decide_eq_true_eq] at hc
  have hi : i.toNat < L.length := by omega
  have hwi : i64.wrap (i + 1) = i + 1 := aC (by omega) (by omega)
  rw [hwi]
  refine (zt2 ht n f n2 f2 hl L hr hL i (by omega) hc).mono ?_
  rintro _ rfl
  refine ⟨_, rfl, aD (fun hb => ?_) (fun hb => ?_)⟩
  ·rw [hn, zi9 hi hb, show ((i.toNat : Nat) : Int) = i by omega]
  ·refine ⟨rfl, ⟨⟨by omega, by omega⟩, ?_⟩, by first | omega | (dsimp only; omega)⟩
   rw [hn, zi8 hi (by simpa using hb), show (i + 1).toNat = i.toNat + 1 by omega]
 ·simp only [decide_eq_true_eq] at hc
  rw [hn, show L.length - i.toNat = 0 by omega]
  show _ = PV.int .i64 ((i.toNat : Nat) : Int)
  rw [show ((i.toNat : Nat) : Int) = (L.length : Int) by omega]
theorem zt4 (hL2 : L.length < 100000000) : PCall Tryz.prog 71 [.sl n f (bE rows), .sl n2 f2 (aA L)] fun x => ∃ (n f : Bool) (Q : List (Bool × Bool × List Int)), x = .sl n f (Q.map gT) /\ Q.map (fun q => q.2.2) = cA rows L 0 := by
 refine ztm _ _ _ _ _ _
  (fun i n s => (0 <= i /\ i <= L.length) /\ ∃ Q : List (Bool × Bool × List Int), s = Q.map gT /\ cA rows L 0 = Q.map (fun q => q.2.2) ++ cA rows L i.toNat /\ Q.length <= i.toNat) (fun i _ _ => L.length - i.toNat) ?_
 unfold zi4
 have hl8 : ((aA L).length : Int) = L.length := by rw [aS]
 rw [hl8]
 refine ⟨⟨rfl, ⟨Int.le_refl _, by omega⟩, [], rfl, rfl, Nat.le_refl _⟩, ?_⟩
 rintro i n3 _ ⟨⟨i0, i1⟩, Q, rfl, hcl, hql⟩
 refine aD (fun hc => ?_) (fun hc => ?_)
 ·simp only [decide_eq_true_eq] at hc
  have hi : i.toNat < L.length := by omega
  obtain ⟨x1, x2, x3⟩ := nL (rows := rows) hi
  refine (zt3 ht n f n2 f2 hl L hr hL i i0 hc).mono ?_
  rintro _ rfl
  refine ⟨_, rfl, ⟨zac i0 (by omega) (by rw [aS]; omega), cV _⟩, ?_⟩
  rw [show (((bN rows L i.toNat : Nat) : Int)).toNat = bN rows L i.toNat by omega, zad]
  refine ⟨⟨m9 (enc := gT) zau [(n2, _, dI L i.toNat (bN rows L i.toNat))], by rw [List.length_map]; omega⟩, rfl, ⟨⟨by omega, by omega⟩, Q ++ [(n2, _, dI L i.toNat (bN rows L i.toNat))], by rw [List.map_append]; rfl, ?_, ?_⟩, ?_⟩
  ·rw [show (((bN rows L i.toNat : Nat) : Int)).toNat = bN rows L i.toNat by omega, hcl, t7 hi, List.map_append, List.append_assoc]; rfl
  ·rw [show (((bN rows L i.toNat : Nat) : Int)).toNat = bN rows L i.toNat by omega, List.length_append, List.length_singleton]; omega
  ·dsimp only; omega
 ·simp only [decide_eq_true_eq] at hc
  rw [nM (i := i.toNat) (by omega), List.append_nil] at hcl
  exact ⟨n3, false, Q, rfl, hcl.symm⟩
end
end Go.Eng


