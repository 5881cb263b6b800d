/- States run over the code: what each function gives, and what follows. -/
import Derived.Test.YtpadbcaocbghoaaGreatDoTb
open Go.IntKind (i64 i32)
open Go.Proofs.Tryz renaming prog → qa
open List renaming length_append → qb, drop → qc, length_map → qe, take_of_length_le → qh, append_assoc → qi, length_take → qj, flatten_cons → qm, getElem_mem → qp, append_nil → qt, map_append → qu, flatten_nil → qv, getD → qw, length_singleton → qx, length_drop → qz, length_nil → qaa, mem_of_mem_take → qac, length_cons → qad, getElem?_eq_getElem → qae, drop_length → qah, take_append_drop → qak, take → qal, mem_cons_of_mem → qam, replicate → qao, mem_cons_self → qar, getElem?_append_right → qas, getElem?_append_left → qat, mem_append → qav, find?_cons → qaw, flatten_append → qbb, getElem?_drop → qbd, mem_singleton → qbe, contains_cons → qbg, getElem?_map → qbj, flatMap_cons → qbk, contains_nil → qbl, range' → qbm, cons_append → qbo, take_length → qbq, drop_zero → qbu
open Int renaming toNat_natCast → qd, le_refl → qq, tmod_eq_emod_of_nonneg → qai, eq_ofNat_of_zero_le → qau, tdiv → qaz, natCast_mul → qbr
open Bool renaming and_eq_true → qf, or_eq_true → ql, not_eq_true' → qr, or_eq_false_iff → qag, true_and → qaj, false_and → qap, and_eq_false_iff → qay, or_assoc → qba, not_not → qbi, and_false → qbt, or_false → qbv, not_true → qbw, false_or → qbx
open Decidable renaming not_not → qg
open Nat renaming le_refl → qk, le_of_lt → qn, mul_le_mul_right → qy, zero_le → qaf, eq_zero_or_pos → qaq, le_of_ble_eq_true → qax, mul_le_mul_left → qbc, lt_of_lt_of_le → qbf, lt_of_le_of_lt → qbh, add_mul → qbn, div_eq_of_lt → qbp, mul_add_div → qbs
open Array renaming getD_eq_getD_getElem? → qo, getElem?_append_left → qab, replicate → qan
set_option linter.unusedVariables false
set_option linter.unusedSimpArgs false
set_option maxRecDepth 100000
set_option linter.constructorNameAsVariable false
namespace Go.Eng
open Go Go.Proofs Go.Eng.Rows Go.Eng.Srt
section
variable {key : Int -> Int} {T : PV} (lo hi : Nat) (nl : Bool)
abbrev kZ (nl : Bool) (T : PV) (t : List (List PV)) : Hp := [.sl (21, 1) false nl t, .box [.pv T]]
abbrev zcw (nl : Bool) (T : PV) (t : List (List PV)) (K : List (List PV) -> Prop) : LV -> Hp -> Prop := fun r h' => ∃ t1, (r = .tup [] /\ h' = kZ nl T t1) /\ (True /\ ((21, 1) = (21, 1) /\ nl = nl /\ t.length = t1.length) /\ True) /\ K t1
def wQ (T : PV) (mid e b : Int) (Q : LV -> Hp -> Prop) (t : List (List PV)) : Prop :=
 if (decide (mid < e) && decide (e < b)) = true then ACall qa 142 [.sub 0 lo hi, .pv (.int .i64 mid), .pv (.int .i64 e), .pv (.int .i64 b), .fn 111 [.box 1 0]] (kZ nl T t) (zcw nl T t fun t1 => Q (.tup []) (kZ nl T t1)) else Q (.tup []) (kZ nl T t)
def wR (T : PV) (a s mid e b : Int) (Q : LV -> Hp -> Prop) (t : List (List PV)) : Prop :=
 if (decide (a < s) && decide (s < mid)) = true then ACall qa 142 [.sub 0 lo hi, .pv (.int .i64 a), .pv (.int .i64 s), .pv (.int .i64 mid), .fn 111 [.box 1 0]] (kZ nl T t) (zcw nl T t (wQ lo hi nl T mid e b Q)) else wQ lo hi nl T mid e b Q t
def zcx (T : PV) (a s m mid e b : Int) (Q : LV -> Hp -> Prop) (t : List (List PV)) : Prop :=
 if (decide (s < m) && decide (m < e)) = true then ACall qa 144 [.sub 0 lo hi, .pv (.int .i64 s), .pv (.int .i64 m), .pv (.int .i64 e), .fn 111 [.box 1 0]] (kZ nl T t) (zcw nl T t (wR lo hi nl T a s mid e b Q)) else wR lo hi nl T a s mid e b Q t
theorem R32.of {l m : List Int} (h : R32 l) (hm : ∀ x ∈ m, x ∈ l) : R32 m := fun x hx => h x (hm x hx)
def zk8 (T : PV) (key : Int -> Int) (N : Int) : Prop := ∀ (P X Y R : List Int) (a m b : Int), 0 <= a -> P.length = lo + a.toNat -> m = a + X.length -> b = m + Y.length -> X ≠ [] -> Y ≠ [] -> (lo : Int) + b <= hi -> R32 (P ++ (X ++ (Y ++ R))) -> Srtd key X -> Srtd key Y -> b - a < N ->
 ACall qa 142 [.sub 0 lo hi, .pv (.int .i64 a), .pv (.int .i64 m), .pv (.int .i64 b), .fn 111 [.box 1 0]] (kZ nl T (aA (P ++ (X ++ (Y ++ R))))) (kY key nl T P (X ++ Y) R)
theorem zv6 {N : Int} (ih : zk8 lo hi nl T key N) (hlen : hi < 1000000000000) (P X1 X2 Y1 Y2 R : List Int) (a s m mid e b : Int) (ha : 0 <= a) (hP : P.length = lo + a.toNat) (h1 : s = a + X1.length) (h2 : m = s + X2.length) (h3 : e = m + Y1.length) (h4 : b = e + Y2.length) (h5 : mid = s + Y1.length)
 (hhi : (lo : Int) + b <= hi) (hr : R32 (P ++ (X1 ++ (X2 ++ (Y1 ++ (Y2 ++ R)))))) (hX : Srtd key (X1 ++ X2)) (hY : Srtd key (Y1 ++ Y2)) (f1 : ∀ x ∈ X2, ∀ y ∈ Y1, key y < key x) (f2 : ∀ x ∈ X1, ∀ y ∈ Y2, key x <= key y) (n1 : mid - a < N) (n2 : b - mid < N) :
 zcx lo hi nl T a s m mid e b (kY key nl T P ((X1 ++ X2) ++ (Y1 ++ Y2)) R) (aA (P ++ (X1 ++ (X2 ++ (Y1 ++ (Y2 ++ R)))))) := by
 have hl1 : ∀ {u v : List Int}, u.length = v.length -> (aA u).length = (aA v).length := fun h => by simp [h]
 obtain ⟨x1, x2, x3⟩ := j6.1 hX;obtain ⟨y1, y2, y3⟩ := j6.1 hY
 have t3 : ∀ S1 : List Int, Srtd key S1 -> Stab key (X1 ++ Y1) S1 -> wQ lo hi nl T mid e b (kY key nl T P ((X1 ++ X2) ++ (Y1 ++ Y2)) R) (aA (P ++ (S1 ++ (X2 ++ (Y2 ++ R))))) := fun S1 s1 k1 => by
  have kl := k1.len;rw [qb] at kl
  have fin : ∀ S2 : List Int, Srtd key S2 -> Stab key (X2 ++ Y2) S2 -> kY key nl T P ((X1 ++ X2) ++ (Y1 ++ Y2)) R (.tup []) (kZ nl T (aA (P ++ (S1 ++ (S2 ++ R))))) := fun S2 s2 k2 => by
   obtain ⟨c1, c2⟩ := zrp hX hY f1 f2 s1 k1 s2 k2;exact ⟨S1 ++ S2, rfl, by simp, c1, c2⟩
  unfold wQ;refine aD (fun hc => ?_) (fun hc => ?_)
  ·simp only [qf, aB] at hc;have nx : X2 ≠ [] := fun h => by subst h; simp at h2; omega
   have ny : Y2 ≠ [] := fun h => by subst h; simp at h4; omega
   have := ih (P ++ S1) X2 Y2 R mid e b (by omega) (by rw [qb]; omega) (by omega) h4 nx ny hhi (hr.of fun x hx => by
    simp only [qav] at hx ⊢;rcases hx with (hx | hx) | hx | hx | hx
    ·exact .inl hx
    ·rcases List.mem_append.1 (k1.mem.2 hx) with hx | hx
     ·exact .inr (.inl hx)
     ·exact .inr (.inr (.inr (.inl hx)))
    ·exact .inr (.inr (.inl hx))
    ·exact .inr (.inr (.inr (.inr (.inl hx))))
    ·exact .inr (.inr (.inr (.inr (.inr hx))))) x2 y2 n2
   rw [show P ++ (S1 ++ (X2 ++ (Y2 ++ R))) = (P ++ S1) ++ (X2 ++ (Y2 ++ R)) by simp];refine this.mono ?_;rintro r h' ⟨S2, rfl, rfl, s2, k2⟩;refine ⟨_, ⟨rfl, rfl⟩, ⟨trivial, ⟨rfl, rfl, hl1 ?_⟩, trivial⟩, ?_⟩
   ·have := k2.len;simp only [qb] at this ⊢; omega
   ·have := fin S2 s2 k2;rw [<- qi P] at this;exact this
  ·simp only [qf, aB] at hc
   have hz : X2 = [] ∨ Y2 = [] := by
    rcases qaq X2.length with h | h
    ·exact .inl (List.length_eq_zero_iff.1 h)
    ·exact .inr (List.length_eq_zero_iff.1 (by omega))
   have s2 : Srtd key (X2 ++ Y2) := by
    rcases hz with h | h
    ·subst h; exact y2
    ·subst h; simpa using x2
   have := fin (X2 ++ Y2) s2 (.refl _);rw [qi X2 Y2] at this;exact this
 have t2 : wR lo hi nl T a s mid e b (kY key nl T P ((X1 ++ X2) ++ (Y1 ++ Y2)) R) (aA (P ++ (X1 ++ (Y1 ++ (X2 ++ (Y2 ++ R)))))) := by
  unfold wR;refine aD (fun hc => ?_) (fun hc => ?_)
  ·simp only [qf, aB] at hc;have nx : X1 ≠ [] := fun h => by subst h; simp at h1; omega
   have ny : Y1 ≠ [] := fun h => by subst h; simp at h5; omega
   refine (ih P X1 Y1 (X2 ++ (Y2 ++ R)) a s mid ha hP h1 h5 nx ny (by omega) (hr.of fun x hx => by
    simp only [qav] at hx ⊢;rcases hx with hx | hx | hx | hx | hx | hx
    ·exact .inl hx
    ·exact .inr (.inl hx)
    ·exact .inr (.inr (.inr (.inl hx)))
    ·exact .inr (.inr (.inl hx))
    ·exact .inr (.inr (.inr (.inr (.inl hx))))
    ·exact .inr (.inr (.inr (.inr (.inr hx))))) x1 y1 n1).mono ?_
   rintro r h' ⟨S1, rfl, rfl, s1, k1⟩;refine ⟨_, ⟨rfl, rfl⟩, ⟨trivial, ⟨rfl, rfl, hl1 ?_⟩, trivial⟩, t3 S1 s1 k1⟩;have := k1.len;simp only [qb] at this ⊢; omega
  ·simp only [qf, aB] at hc
   have hz : X1 = [] ∨ Y1 = [] := by
    rcases qaq X1.length with h | h
    ·exact .inl (List.length_eq_zero_iff.1 h)
    ·exact .inr (List.length_eq_zero_iff.1 (by omega))
   have s2 : Srtd key (X1 ++ Y1) := by
    rcases hz with h | h
    ·subst h; exact y1
    ·subst h; simpa using x1
   have := t3 (X1 ++ Y1) s2 (.refl _);rw [qi X1 Y1] at this;exact this
 unfold zcx;refine aD (fun hc => ?_) (fun hc => ?_)
 ·simp only [qf, aB] at hc;have nx : X2 ≠ [] := fun h => by subst h; simp at h2; omega
  have ny : Y1 ≠ [] := fun h => by subst h; simp at h3; omega
  have := zv3 (T := T) lo hi nl (P ++ X1) X2 Y1 (Y2 ++ R) s m e (by omega) (by rw [qb]; omega) h2 h3 nx ny (by omega) hlen;rw [show P ++ (X1 ++ (X2 ++ (Y1 ++ (Y2 ++ R)))) = (P ++ X1) ++ (X2 ++ (Y1 ++ (Y2 ++ R))) by simp];refine this.mono ?_;rintro r h' ⟨rfl, rfl⟩;refine ⟨_, ⟨rfl, rfl⟩, ⟨trivial, ⟨rfl, rfl, hl1 ?_⟩, trivial⟩, ?_⟩
  ·simp only [qb]; omega
  ·rw [qi P]; exact t2
 ·simp only [qf, aB] at hc
  have hz : X2 = [] ∨ Y1 = [] := by
   rcases qaq X2.length with h | h
   ·exact .inl (List.length_eq_zero_iff.1 h)
   ·exact .inr (List.length_eq_zero_iff.1 (by omega))
  have e : P ++ (X1 ++ (X2 ++ (Y1 ++ (Y2 ++ R)))) = P ++ (X1 ++ (Y1 ++ (X2 ++ (Y2 ++ R)))) := by
   rcases hz with h | h <;> subst h <;> simp
  rw [e]; exact t2
end
section
variable {key : Int -> Int} {T : PV}
theorem zk9 (hc : kX T key) (lo hi : Nat) (nl : Bool) (hlen : hi < 1000000000000) : ∀ N : Nat, zk8 lo hi nl T key N := by
 intro N
 induction N with
 | zero =>
   intro P X Y R a m b ha hP hm hb hx hy hhi hr hX hY hN;omega
 | succ N ih =>
   intro P X Y R a m b ha hP hm hb hx hy hhi hr hX hY hN;have hxl := List.length_pos_iff.2 hx;have hyl := List.length_pos_iff.2 hy;by_cases hx1 : X.length = 1
   ·obtain ⟨x, rfl⟩ := List.length_eq_one_iff.1 hx1;exact zv4 hc lo hi nl P Y R x a m b ha hP (by simpa using hm) hb hhi hr hlen hY
   by_cases hy1 : Y.length = 1
   ·obtain ⟨y, rfl⟩ := List.length_eq_one_iff.1 hy1;exact zv5 hc lo hi nl P X R y a m b ha hP hm hx1 (by simpa using hb) hhi hr hlen hX
   obtain ⟨mid, hmid⟩ : ∃ mid, mid = (a + b) / 2 := ⟨_, rfl⟩
   have hat : ∀ h : Int, a <= h -> h < m -> (P ++ (X ++ (Y ++ R)))[lo + h.toNat]? = some (X.getD (h - a).toNat 0) := fun h h1 h2 => by
    rw [qas (by omega), show lo + h.toNat - P.length = (h - a).toNat by omega, qat (by omega)];exact sS (by omega)
   have hbt : ∀ h : Int, m <= h -> h < b -> (P ++ (X ++ (Y ++ R)))[lo + h.toNat]? = some (Y.getD (h - m).toNat 0) := fun h h1 h2 => by
    rw [<- qi, qas (by rw [qb]; omega), show lo + h.toNat - (P ++ X).length = (h - m).toNat by rw [qb]; omega, qat (by omega)];exact sS (by omega)
   obtain ⟨s0, hs0⟩ : ∃ s0, s0 = if m > mid then mid + m - b else a := ⟨_, rfl⟩;obtain ⟨r0, hr0⟩ : ∃ r0, r0 = if m > mid then mid else m := ⟨_, rfl⟩
   have rng : a <= s0 /\ s0 <= r0 /\ r0 <= m /\ mid + m - s0 <= b /\ m <= mid + m - r0 := by
    rw [hs0, hr0]; split <;> omega
   refine za4 _ _ _ _ _ _ _ _
    (fun _ _ _ => True) (fun _ _ _ => 0) (fun _ _ _ => True) (fun _ _ _ => 0) (fun _ _ _ => True) (fun _ _ _ => 0) (fun _ _ _ => True) (fun _ _ _ => 0)
    (fun i j s => s = aA (P ++ (X ++ (Y ++ R))) /\ s0 <= i /\ i <= j /\ j <= r0 /\ (∀ c, s0 <= c -> c < i -> ¬ key (Y.getD (mid - 1 - c).toNat 0) < key (X.getD (c - a).toNat 0)) /\ (∀ c, j <= c -> c < r0 -> key (Y.getD (mid - 1 - c).toNat 0) < key (X.getD (c - a).toNat 0))) (fun i j _ => (j - i).toNat) ?_
   unfold wE;have w1 : i64.wrap (m - a) = X.length := by rw [aC (by omega) (by omega)]; omega
   have w2 : i64.wrap (b - m) = Y.length := by rw [aC (by omega) (by omega)]; omega
   have w3 : i64.wrap (mid + m) = mid + m := aC (by omega) (by omega);have w4 : i64.wrap (mid + m - b) = mid + m - b := aC (by omega) (by omega);have w5 : i64.wrap (mid + m - 1) = mid + m - 1 := aC (by omega) (by omega);rw [w1, w2, tE ha (by omega) (by omega), <- hmid, w3, w4, w5]
   -- what the loop is, and what follows it
   have body : ∀ (x20 x21 : Int) (s : List (List PV)), (s = aA (P ++ (X ++ (Y ++ R))) /\ s0 <= x20 /\ x20 <= x21 /\ x21 <= r0 /\ (∀ c, s0 <= c -> c < x20 -> ¬ key (Y.getD (mid - 1 - c).toNat 0) < key (X.getD (c - a).toNat 0)) /\ (∀ c, x21 <= c -> c < r0 -> key (Y.getD (mid - 1 - c).toNat 0) < key (X.getD (c - a).toNat 0))) ->
    (x20 < x21 -> ∃ h, h = (x20 + x21) / 2 /\ i64.wrap (mid + m - 1 - h) = mid + m - 1 - h /\ i64.wrap (h + 1) = h + 1 /\ (0 <= mid + m - 1 - h /\ mid + m - 1 - h < (hi : Int) - lo /\ (s.getD (lo + (mid + m - 1 - h).toNat) []).length = 1) /\ (0 <= h /\ h < (hi : Int) - lo /\ (s.getD (lo + h.toNat) []).length = 1) /\
     ∃ n n1, (qc 0 (s.getD (lo + (mid + m - 1 - h).toNat) [])).head? = some (PV.int .i32 n) /\ (qc 0 (s.getD (lo + h.toNat) [])).head? = some (PV.int .i32 n1) /\ (-2147483648 <= n /\ n <= 2147483647) /\ (-2147483648 <= n1 /\ n1 <= 2147483647) /\
     (¬ key n < key n1 -> (s = aA (P ++ (X ++ (Y ++ R))) /\ s0 <= h + 1 /\ h + 1 <= x21 /\ x21 <= r0 /\ (∀ c, s0 <= c -> c < h + 1 -> ¬ key (Y.getD (mid - 1 - c).toNat 0) < key (X.getD (c - a).toNat 0)) /\ (∀ c, x21 <= c -> c < r0 -> key (Y.getD (mid - 1 - c).toNat 0) < key (X.getD (c - a).toNat 0))) /\ (x21 - (h + 1)).toNat < (x21 - x20).toNat) /\
     (key n < key n1 -> (s = aA (P ++ (X ++ (Y ++ R))) /\ s0 <= x20 /\ x20 <= h /\ h <= r0 /\ (∀ c, s0 <= c -> c < x20 -> ¬ key (Y.getD (mid - 1 - c).toNat 0) < key (X.getD (c - a).toNat 0)) /\ (∀ c, h <= c -> c < r0 -> key (Y.getD (mid - 1 - c).toNat 0) < key (X.getD (c - a).toNat 0))) /\ (h - x20).toNat < (x21 - x20).toNat)) /\
    (¬ x20 < x21 -> i64.wrap (mid + m - x20) = mid + m - x20 /\ zcx lo hi nl T a x20 m mid (mid + m - x20) b (kY key nl T P (X ++ Y) R) s) := by
    rintro i j _ ⟨rfl, i0, hij, hjr, hge, hlt⟩;refine ⟨fun hc1 => ?_, fun hc1 => ?_⟩
    ·obtain ⟨h, hh⟩ : ∃ h, h = (i + j) / 2 := ⟨_, rfl⟩;have b1 : i <= h /\ h < j := by omega
     have gx := hat h (by omega) (by omega);have gy := hbt (mid + m - 1 - h) (by omega) (by omega);rw [show (mid + m - 1 - h - m).toNat = (mid - 1 - h).toNat by omega] at gy;refine ⟨h, hh, aC (by omega) (by omega), aC (by omega) (by omega), ⟨by omega, by omega, by rw [dQ gy]; rfl⟩, ⟨by omega, by omega, by rw [dQ gx]; rfl⟩, _, _, by rw [dQ gy]; rfl, by rw [dQ gx]; rfl, nE hr gy, nE hr gx, fun hk => ?_, fun hk => ?_⟩
     ·refine ⟨⟨rfl, by omega, by omega, hjr, fun c c1 c2 => ?_, hlt⟩, by omega⟩;have u := hX.get (i := (c - a).toNat) (j := (h - a).toNat) (by omega) (by omega);have v := hY.get (i := (mid - 1 - h).toNat) (j := (mid - 1 - c).toNat) (by omega) (by omega);omega
     ·refine ⟨⟨rfl, i0, by omega, by omega, hge, fun c c1 c2 => ?_⟩, by omega⟩;have u := hX.get (i := (h - a).toNat) (j := (c - a).toNat) (by omega) (by omega);have v := hY.get (i := (mid - 1 - c).toNat) (j := (mid - 1 - h).toNat) (by omega) (by omega);omega
    ·have hij2 : i = j := by omega
     subst hij2;refine ⟨aC (by omega) (by omega), ?_⟩;have l1 : (X.take (i - a).toNat).length = (i - a).toNat := by rw [qj]; omega
     have l2 : (X.drop (i - a).toNat).length = X.length - (i - a).toNat := qz;have l3 : (Y.take (mid - i).toNat).length = (mid - i).toNat := by rw [qj]; omega
     have l4 : (Y.drop (mid - i).toNat).length = Y.length - (mid - i).toNat := qz;have eX : X.take (i - a).toNat ++ X.drop (i - a).toNat = X := qak _ _;have eY : Y.take (mid - i).toNat ++ Y.drop (mid - i).toNat = Y := qak _ _;have tk : ∀ (L : List Int) (k q : Nat), q < k -> (L.take k).getD q 0 = L.getD q 0 := fun L k q h => by simp only [qw]; rw [List.getElem?_take_of_lt h]
     have dk : ∀ (L : List Int) (k q : Nat), (L.drop k).getD q 0 = L.getD (k + q) 0 := fun L k q => by simp only [qw, qbd]
     have f1 : ∀ x ∈ X.drop (i - a).toNat, ∀ y ∈ Y.take (mid - i).toNat, key y < key x := fun x hx y hy => by
      obtain ⟨q, hq, rfl⟩ := mQ hx;obtain ⟨p, hp, rfl⟩ := mQ hy;rw [l2] at hq;rw [l3] at hp;rw [tk _ _ _ hp, dk];have hir : i < r0 := by rw [hr0]; split <;> omega
      have k0 := hlt i (qq _) hir;have u := hX.get (i := (i - a).toNat) (j := (i - a).toNat + q) (by omega) (by omega);have v := hY.get (i := p) (j := (mid - 1 - i).toNat) (by omega) (by omega);omega
     have f2 : ∀ x ∈ X.take (i - a).toNat, ∀ y ∈ Y.drop (mid - i).toNat, key x <= key y := fun x hx y hy => by
      obtain ⟨q, hq, rfl⟩ := mQ hx;obtain ⟨p, hp, rfl⟩ := mQ hy;rw [l1] at hq;rw [l4] at hp;rw [tk _ _ _ hq, dk];have his : s0 <= i - 1 := by rw [hs0]; split <;> omega
      have k0 := hge (i - 1) his (by omega);rw [show (mid - 1 - (i - 1)).toNat = (mid - i).toNat by omega] at k0;have u := hX.get (i := q) (j := (i - 1 - a).toNat) (by omega) (by omega);have v := hY.get (i := (mid - i).toNat) (j := (mid - i).toNat + p) (by omega) (by omega);omega
     have := zv6 lo hi nl (N := N) ih hlen P (X.take (i - a).toNat) (X.drop (i - a).toNat) (Y.take (mid - i).toNat) (Y.drop (mid - i).toNat) R a i m mid (mid + m - i) b ha hP (by omega) (by omega) (by omega) (by omega) (by omega) hhi
      (by rw [<- qi (Y.take _), eY, <- qi (X.take _), eX]; exact hr) (by rw [eX]; exact hX) (by rw [eY]; exact hY) f1 f2 (by omega) (by omega)
     rw [<- qi (Y.take _) _ R, eY, <- qi (X.take _) _ (Y ++ R), eX] at this;exact this
   refine bZ (by simp; omega) (bZ (by simp; omega) ?_);refine aD (fun hm2 => ?_) (fun hm2 => ?_)
   ·simp only [aB] at hm2;rw [if_pos hm2] at hs0 hr0;refine ⟨⟨rfl, rfl, by omega, by omega, by omega, fun c c1 c2 => by omega, fun c c1 c2 => by omega⟩, ?_⟩;rintro i j s hJ;obtain ⟨b1, b2⟩ := body i j s hJ;refine aD (fun hc1 => ?_) (fun hc1 => ?_)
    ·simp only [aB] at hc1;obtain ⟨h, hh, e1, e2, e3, e4, n, n1, g1, g2, r1, r2, k1, k2⟩ := b1 hc1;rw [tE (by omega) (by omega) (by omega), <- hh, e1, e2];refine ⟨e3, n, g1, e4, n1, g2, ?_⟩;refine (hc n n1 r1 r2).mono ?_;rintro _ ⟨n2, rfl, hn2⟩;refine ⟨n2, rfl, rfl, aD (fun hl => ?_) (fun hl => ?_)⟩
     ·simp only [qr, dJ] at hl;obtain ⟨q1, q2⟩ := k1 fun h => hl (hn2.2 h);exact ⟨rfl, q1, q2⟩
     ·simp only [qr, dJ, qg] at hl;obtain ⟨q1, q2⟩ := k2 (hn2.1 hl);exact ⟨rfl, q1, q2⟩
    ·simp only [aB] at hc1;obtain ⟨e1, e2⟩ := b2 hc1;rw [e1];exact e2
   ·simp only [aB] at hm2;rw [if_neg hm2] at hs0 hr0;refine ⟨⟨rfl, rfl, by omega, by omega, by omega, fun c c1 c2 => by omega, fun c c1 c2 => by omega⟩, ?_⟩;rintro i j s hJ;obtain ⟨b1, b2⟩ := body i j s hJ;refine aD (fun hc1 => ?_) (fun hc1 => ?_)
    ·simp only [aB] at hc1;obtain ⟨h, hh, e1, e2, e3, e4, n, n1, g1, g2, r1, r2, k1, k2⟩ := b1 hc1;rw [tE (by omega) (by omega) (by omega), <- hh, e1, e2];refine ⟨e3, n, g1, e4, n1, g2, ?_⟩;refine (hc n n1 r1 r2).mono ?_;rintro _ ⟨n2, rfl, hn2⟩;refine ⟨n2, rfl, rfl, aD (fun hl => ?_) (fun hl => ?_)⟩
     ·simp only [qr, dJ] at hl;obtain ⟨q1, q2⟩ := k1 fun h => hl (hn2.2 h);exact ⟨rfl, q1, q2⟩
     ·simp only [qr, dJ, qg] at hl;obtain ⟨q1, q2⟩ := k2 (hn2.1 hl);exact ⟨rfl, q1, q2⟩
    ·simp only [aB] at hc1;obtain ⟨e1, e2⟩ := b2 hc1;rw [e1];exact e2
end
section
variable {key : Int -> Int} {T : PV}
def oW (key : Int -> Int) (k : Nat) (Bs : List (List Int)) : Prop := ∀ B ∈ Bs, B.length = k /\ Srtd key B
theorem zcy {k : Nat} : ∀ {Bs : List (List Int)}, oW key k Bs -> Bs.flatten.length = k * Bs.length
 | [], _ => by simp
 | B :: Bs, h => by
   rw [qm, qb, (h B qar).1, zcy (Bs := Bs) fun C hC => h C (qam _ hC), qad, Nat.mul_add]; omega
theorem wS (Bs : List (List Int)) : Bs = [] ∨ (∃ X, Bs = [X]) ∨ ∃ X Y Bs', Bs = X :: Y :: Bs' := by
 match Bs with
 | [] => exact .inl rfl
 | [X] => exact .inr (.inl ⟨X, rfl⟩)
 | X :: Y :: Bs' => exact .inr (.inr ⟨X, Y, Bs', rfl⟩)
theorem zla {k : Nat} {Bs : List (List Int)} {B : List Int} (h : oW key k Bs) (hl : B.length = k) (hs : Srtd key B) : oW key k (Bs ++ [B]) := fun C hC => by
 rcases List.mem_append.1 hC with hC | hC
 ·exact h C hC
 ·simp only [qbe] at hC; subst hC; exact ⟨hl, hs⟩
theorem zcz {P S R S' : List Int} (h : R32 (P ++ (S ++ R))) (k : Stab key S S') : R32 (P ++ (S' ++ R)) := h.of fun x hx => by
 simp only [qav] at hx ⊢;rcases hx with hx | hx | hx
 ·exact .inl hx
 ·exact .inr (.inl (k.mem.2 hx))
 ·exact .inr (.inr hx)
theorem zv7 (hc : kX T key) (lo hi : Nat) (nl : Bool) (P S R : List Int) (hP : P.length = lo) (hS : hi = lo + S.length) (hr : R32 (P ++ (S ++ R))) (hlen : hi < 1000000000000) :
 ACall qa 133 [.sub 0 lo hi, .pv (.int .i64 ((hi - lo : Nat) : Int)), .fn 111 [.box 1 0]] (kZ nl T (aA (P ++ (S ++ R)))) (kY key nl T P S R) := by
 have hl1 : ∀ {u v : List Int}, u.length = v.length -> (aA u).length = (aA v).length := fun h => by simp [h]
 obtain ⟨n, hn⟩ : ∃ n : Int, n = ((hi - lo : Nat) : Int) := ⟨_, rfl⟩;rw [<- hn];have hnS : n = S.length := by omega
 refine zs4 _ _ _ _ _ _
  (fun a b s => b = a + 20 /\ 0 <= a /\ ∃ Bs C, s = aA (P ++ (Bs.flatten ++ C ++ R)) /\ oW key 20 Bs /\ (Bs.flatten.length : Int) = a /\ Stab key S (Bs.flatten ++ C)) (fun a _ _ => (n + 1 - a).toNat)
  (fun k s => 0 < k /\ ∃ Bs C, s = aA (P ++ (Bs.flatten ++ C ++ R)) /\ oW key k.toNat Bs /\ Srtd key C /\ (C.length : Int) < k /\ Stab key S (Bs.flatten ++ C)) (fun k _ => (n - k).toNat)
  (fun k _ _ _ k' a b s => k = k' /\ b = a + 2 * k /\ 0 <= a /\ ∃ B2 Bs C, s = aA (P ++ (B2.flatten ++ (Bs.flatten ++ C) ++ R)) /\ oW key (2 * k).toNat B2 /\ oW key k.toNat Bs /\ Srtd key C /\ (C.length : Int) < k /\ (B2.flatten.length : Int) = a /\ Stab key S (B2.flatten ++ (Bs.flatten ++ C))) (fun k a _ _ => (n + 1 - a).toNat) ?_
 unfold zik;refine ⟨⟨rfl, rfl, qq _, [], S, by simp, fun B hB => (by cases hB), rfl, by simpa using Stab.refl S⟩, ?_⟩
 rintro a b _ ⟨rfl, a0, Bs, C, rfl, hBs, hBl, hst⟩;have hsl := hst.len;rw [qb] at hsl;refine aD (fun hc1 => ?_) (fun hc1 => ?_)
 ·simp only [aB] at hc1;have wa : i64.wrap (a + 20 + 20) = a + 20 + 20 := aC (by omega) (by omega);rw [wa];have hC : C.take 20 ++ C.drop 20 = C := qak _ _;have hCl : (C.take 20).length = 20 := by rw [qj]; omega
  have e1 : P ++ (Bs.flatten ++ C ++ R) = (P ++ Bs.flatten) ++ C.take 20 ++ (C.drop 20 ++ R) := by
   rw [show Bs.flatten ++ C ++ R = Bs.flatten ++ ((C.take 20 ++ C.drop 20) ++ R) by rw [hC]; simp];simp only [qi]
  have := zk7 hc lo hi nl (P ++ Bs.flatten) (C.take 20) (C.drop 20 ++ R) a (a + 20) a0 (by rw [qb]; omega) (by omega) (by omega) (by rw [<- e1]; exact zcz hr hst) hlen;rw [e1];refine this.mono ?_;rintro r h' ⟨S1, rfl, rfl, s1, k1⟩;have k1l := k1.len;refine ⟨_, ⟨rfl, rfl⟩, ⟨trivial, ⟨rfl, rfl, hl1 (by simp only [qb]; omega)⟩, trivial⟩, rfl, ⟨rfl, by omega, Bs ++ [S1], C.drop 20, by simp, zla hBs (by omega) s1, by simp only [qbb, qm, qv, qt, qb]; omega, ?_⟩, by dsimp only; omega⟩;refine hst.trans ?_;have := (Stab.refl (key := key) Bs.flatten).app (k1.app (Stab.refl (C.drop 20)));rw [hC] at this;simpa using this
 ·simp only [aB] at hc1;have e1 : P ++ (Bs.flatten ++ C ++ R) = (P ++ Bs.flatten) ++ C ++ R := by simp
  have := zk7 hc lo hi nl (P ++ Bs.flatten) C R a n a0 (by rw [qb]; omega) (by omega) (by omega) (by rw [<- e1]; exact zcz hr hst) hlen;rw [e1];refine this.mono ?_;rintro r h' ⟨C1, rfl, rfl, s1, k1⟩;have k1l := k1.len;refine ⟨_, ⟨rfl, rfl⟩, ⟨trivial, ⟨rfl, rfl, hl1 (by simp only [qb]; omega)⟩, trivial⟩, ⟨rfl, by omega, Bs, C1, by simp, hBs, s1, by omega, hst.trans ((Stab.refl _).app k1)⟩, ?_⟩;clear hBs hBl hst hsl hc1 e1 this s1 k1 k1l;rintro k _ ⟨k0, Bs, C, rfl, hBs, hCs, hCk, hst⟩;have hsl := hst.len;rw [qb] at hsl;have hbl := zcy hBs;refine aD (fun hc2 => ?_) (fun hc2 => ?_)
  ·simp only [aB] at hc2;have w2 : i64.wrap (2 * k) = 2 * k := aC (by omega) (by omega);have w3 : i64.wrap (k * 2) = 2 * k := by rw [aC (by omega) (by omega)]; omega
   rw [w2];refine ⟨⟨rfl, rfl, by omega, qq _, [], Bs, C, by simp, fun B hB => (by cases hB), hBs, hCs, hCk, rfl, by simpa using hst⟩, ?_⟩
   clear hBs hCs hCk hst hsl hbl;rintro _ a b _ ⟨rfl, rfl, a0, B2, Bs, C, rfl, hB2, hBs, hCs, hCk, hBl, hst⟩;have hsl := hst.len;rw [qb, qb] at hsl;have hbl := zcy hBs;have hRs : R32 (P ++ (B2.flatten ++ (Bs.flatten ++ C) ++ R)) := zcz hr hst;rw [w2, w3];have hkn : (k.toNat : Int) = k := by omega
   refine aD (fun hc3 => ?_) (fun hc3 => ?_)
   ·simp only [aB] at hc3;have w4 : i64.wrap (a + k) = a + k := aC (by omega) (by omega);have w5 : i64.wrap (a + 2 * k + 2 * k) = a + 2 * k + 2 * k := aC (by omega) (by omega);rw [w4, w5]
    obtain ⟨X, Y, Bs', rfl⟩ : ∃ X Y Bs', Bs = X :: Y :: Bs' := by
     rcases wS Bs with rfl | ⟨X, rfl⟩ | h
     ·simp only [qv, qaa] at hsl; omega
     ·have h1 := (hBs X (by simp)).1;simp only [qm, qv, qt] at hsl; omega
     ·exact h
    obtain ⟨hXl, hXs⟩ := hBs X (by simp);obtain ⟨hYl, hYs⟩ := hBs Y (by simp);have nx : X ≠ [] := fun h => by subst h; simp at hXl; omega
    have ny : Y ≠ [] := fun h => by subst h; simp at hYl; omega
    have e1 : P ++ (B2.flatten ++ ((X :: Y :: Bs').flatten ++ C) ++ R) = (P ++ B2.flatten) ++ (X ++ (Y ++ (Bs'.flatten ++ C ++ R))) := by simp
    have := zk9 hc lo hi nl hlen (2 * k + 1).toNat (P ++ B2.flatten) X Y (Bs'.flatten ++ C ++ R) a (a + k) (a + 2 * k) a0 (by rw [qb]; omega) (by omega) (by omega) nx ny (by omega) (by rw [<- e1]; exact hRs) hXs hYs (by omega);rw [e1];refine this.mono ?_;rintro r h' ⟨S1, rfl, rfl, s1, k1⟩;have k1l := k1.len;rw [qb] at k1l;refine ⟨_, ⟨rfl, rfl⟩, ⟨trivial, ⟨rfl, rfl, hl1 (by simp only [qb]; omega)⟩, trivial⟩, rfl, ⟨rfl, rfl, by omega, B2 ++ [S1], Bs', C, by simp, zla hB2 (by omega) s1, fun B hB => hBs B (by simp [hB]), hCs, hCk, by simp only [qbb, qm, qv, qt, qb]; omega, ?_⟩, by dsimp only; omega⟩;refine hst.trans ?_;have := (Stab.refl (key := key) B2.flatten).app (k1.app (Stab.refl (Bs'.flatten ++ C)));simpa using this
   ·simp only [aB] at hc3;have w4 : i64.wrap (a + k) = a + k := aC (by omega) (by omega);rw [w4];refine aD (fun hc4 => ?_) (fun hc4 => ?_)
    ·simp only [aB] at hc4
     obtain ⟨X, rfl⟩ : ∃ X, Bs = [X] := by
      rcases wS Bs with rfl | h | ⟨X, Y, Bs', rfl⟩
      ·simp only [qv, qaa] at hsl; omega
      ·exact h
      ·have h1 := (hBs X (by simp)).1;have h2 := (hBs Y (by simp)).1;simp only [qm, qb] at hsl;omega
     obtain ⟨hXl, hXs⟩ := hBs X (by simp);have nx : X ≠ [] := fun h => by subst h; simp at hXl; omega
     simp only [qm, qv, qt] at hsl hst;have ny : C ≠ [] := fun h => by subst h; simp only [qaa] at hsl; omega
     have e1 : P ++ (B2.flatten ++ ([X].flatten ++ C) ++ R) = (P ++ B2.flatten) ++ (X ++ (C ++ R)) := by simp
     have := zk9 hc lo hi nl hlen (2 * k + 1).toNat (P ++ B2.flatten) X C R a (a + k) n a0 (by rw [qb]; omega) (by omega) (by omega) nx ny (by omega) (by rw [<- e1]; exact hRs) hXs hCs (by omega);rw [e1];refine this.mono ?_;rintro r h' ⟨S1, rfl, rfl, s1, k1⟩;have k1l := k1.len;rw [qb] at k1l;exact ⟨_, ⟨rfl, rfl⟩, ⟨trivial, ⟨rfl, rfl, hl1 (by simp only [qb]; omega)⟩, trivial⟩, rfl, ⟨by omega, B2, S1, by simp, hB2, s1, by omega, hst.trans ((Stab.refl _).app k1)⟩, by dsimp only; omega⟩
    ·simp only [aB] at hc4
     have hCs2 : Srtd key (Bs.flatten ++ C) /\ ((Bs.flatten ++ C).length : Int) < 2 * k := by
      rcases wS Bs with rfl | ⟨X, rfl⟩ | ⟨X, Y, Bs', rfl⟩
      ·exact ⟨by simpa using hCs, by simp; omega⟩
      ·have h1 := hBs X (by simp);simp only [qm, qv, qt] at hsl ⊢;have hC0 : C = [] := List.length_eq_zero_iff.1 (by omega);subst hC0;exact ⟨by simpa using h1.2, by simp; omega⟩
      ·exfalso;have h1 := (hBs X (by simp)).1;have h2 := (hBs Y (by simp)).1;simp only [qm, qb] at hsl;omega
     exact ⟨rfl, ⟨by omega, B2, Bs.flatten ++ C, by simp, hB2, hCs2.1, hCs2.2, hst⟩, by dsimp only; omega⟩
  ·simp only [aB] at hc2
   have hz : Srtd key (Bs.flatten ++ C) := by
    rcases wS Bs with rfl | ⟨X, rfl⟩ | ⟨X, Y, Bs', rfl⟩
    ·simpa using hCs
    ·have h1 := hBs X (by simp);simp only [qm, qv, qt] at hsl ⊢;have hC0 : C = [] := List.length_eq_zero_iff.1 (by omega);subst hC0;simpa using h1.2
    ·exfalso;have h1 := (hBs X (by simp)).1;have h2 := (hBs Y (by simp)).1;simp only [qm, qb] at hsl;omega
   exact ⟨Bs.flatten ++ C, rfl, rfl, hz, hst⟩
theorem zv8 (hc : kX T key) (lo hi : Nat) (nl : Bool) (P S R : List Int) (hP : P.length = lo) (hS : hi = lo + S.length) (hr : R32 (P ++ (S ++ R))) (hlen : hi < 1000000000000) :
 ACall qa 110 [.sub 0 lo hi, .fn 111 [.box 1 0]] (kZ nl T (aA (P ++ (S ++ R)))) (kY key nl T P S R) := by
 refine zs5 _ _ _ _ _ ?_;unfold zil;refine (zv7 hc lo hi nl P S R hP hS hr hlen).mono ?_;rintro r h' ⟨S1, rfl, rfl, s1, k1⟩;exact ⟨_, ⟨rfl, rfl⟩, ⟨trivial, ⟨rfl, rfl, by have := k1.len; simp; omega⟩, trivial⟩, S1, rfl, rfl, s1, k1⟩
end
section
variable {Z : World -> (Nat -> Prop) -> (Nat -> Pl) -> Hp -> Prop} {key : Int -> Int} {nl : Bool} {T : PV} {l : Nat}
def YQ (key : Int -> Int) (L : List Int) (f i : Nat) (L' : List Int) : Prop := ∃ S', L' = L.take f ++ (S' ++ L.drop i) /\ Srtd key S' /\ Stab key ((L.take i).drop f) S'
def zc0 (Z : World -> (Nat -> Prop) -> (Nat -> Pl) -> Hp -> Prop) (key : Int -> Int) (nl : Bool) (T : PV) (l N0 : Nat) : Prop :=
 ∀ (w : World) (I : Nat -> Prop) (G : Nat -> Pl) (L : List Int) (f i : Nat), HRel w I G (aO nl T (aA L)) -> Z w I G (aO nl T (aA L)) -> f + 1 < i -> i <= L.length -> R32 L -> L.length < 1000000000000 -> L.length = N0 ->
  ∃ fn tmps assign body, (Instr.yield l #[.int .i64 f, .int .i64 i]).run qa w = .ok (.round l fn tmps assign body) w /\ RoundIn Fence.wide 0 qa l fn tmps assign body w fun e w' =>
   e = .returned (.bool true) /\ ∃ L' I' G', YQ key L f i L' /\ HRel w' I' G' (aO nl T (aA L')) /\ Keeps w I w' I' /\ Like G G' (aO nl T (aA L)) (aO nl T (aA L')) /\ Z w' I' G' (aO nl T (aA L'))
def o8 (ops : Array Oper) : Oper := ops.toList.getD 8 default
theorem e6a (y : Value) (es : List (List PV)) (i f : Int) (K : Env -> Hp -> Prop) : aW qa (fun _ => none) 39 (bU (d8 Tryz.f132)).toList ((bU (d8 Tryz.f132)).toList.take 8) (eM y i f) (aO nl T es) K =
 K ((35, LV.spec 32 true (.pv (.int .i64 i))) :: (34, LV.spec 32 true (.pv (.int .i64 f))) :: (33, LV.spec 32 true (.pv (.raw y))) :: (32, .pv (.bool (decide (i64.wrap (i - f) > (1 : Int))))) :: (31, .pv (.bool (decide (i64.wrap (i - f) > (1 : Int))))) ::
  (30, .pv (.int .i64 (i64.wrap (i - f)))) :: (29, .pv (.int .i64 f)) :: (28, .pv (.int .i64 i)) :: eM y i f) (aO nl T es) := by kernel_rfl
theorem e6b (y : Value) (es : List (List PV)) (i f : Int) (K : Env -> Hp -> Prop) : aW qa (fun _ => none) 39 (bU (d8 Tryz.f132)).toList ((bU (d8 Tryz.f132)).toList.drop 9) ((36, .pv (.bool true)) :: (32, .pv (.bool true)) :: eM y i f) (aO nl T es) K =
 K ((38, .pv (.bool false)) :: (37, .spec 32 true (.pv (.bool false))) :: (36, .pv (.bool true)) :: (32, .pv (.bool true)) :: eM y i f) (aO nl T es) := by kernel_rfl
theorem e6c (y : Value) (es : List (List PV)) (i f : Int) (K : Env -> Hp -> Prop) : aW qa (fun _ => none) 39 (bU (d8 Tryz.f132)).toList ((bU (d8 Tryz.f132)).toList.drop 9) ((32, .pv (.bool false)) :: eM y i f) (aO nl T es) K =
 K ((38, .pv (.bool false)) :: (37, .pv .unit) :: (32, .pv (.bool false)) :: (32, .pv (.bool false)) :: eM y i f) (aO nl T es) := by kernel_rfl
theorem zv9 : d8 Tryz.f132 = .region 6 (bU (d8 Tryz.f132)) false := by kernel_rfl
theorem zwa : (bU (d8 Tryz.f132)).size = 11 /\ dG (bU (d8 Tryz.f132)).toList = true /\ (bU (d8 Tryz.f132)).toList.length = 11 /\ (bU (d8 Tryz.f132))[8]? = some (o8 (bU (d8 Tryz.f132))) /\
 (o8 (bU (d8 Tryz.f132))).dst = some 36 /\ (o8 (bU (d8 Tryz.f132))).guard = some (4, true) /\ (o8 (bU (d8 Tryz.f132))).op = .call { callee := .value (.tmp 33), args := #[.tmp 34, .tmp 35], argTypes := #[3, 3] } /\
 ((bU (d8 Tryz.f132))[4]?).bind (·.dst) = some 32 :=
 ⟨by kernel_rfl, by kernel_rfl, by kernel_rfl, by kernel_rfl, by kernel_rfl, by kernel_rfl, by kernel_rfl, by kernel_rfl⟩
theorem zwb {F : Fence} {n : Nat} {P : Program} {ops : Array Oper} {Q : Exit -> Act -> World -> Prop} {i : Nat} {rest : List Nat} {a : Act} {w : World} {o : Oper} (ho : ops[i]? = some o)
 (h : if Region.wanted o (yielded ops a.tmps) then o.wpIn F n P a w (wpOpsIn F n P ops Q rest) Q else (∀ f, o.about P w a.eval = some f -> F.fn f) /\ wpOpsIn F n P ops Q rest (a.put o.dst undef) w) : wpOpsIn F n P ops Q (i :: rest) a w := by
 simp only [wpOpsIn, ho]; exact h
theorem zwc {w : World} {I : Nat -> Prop} {G : Nat -> Pl} {h : Hp} {tm : Array Value} {s : Nat} {b : Bool} (hr : LRel w I G h (.pv (.bool b)) (tm.getD s undef)) : tm[s]? = some (.bool b) := by
 have := hr.bool_eq;rw [qo] at this;cases hx : tm[s]? with
 | none => rw [hx] at this; simp [undef] at this
 | some v => rw [hx] at this; simpa using this
theorem LRel.raw_eq {w : World} {I : Nat -> Prop} {G : Nat -> Pl} {h : Hp} {v cv : Value} (hr : LRel w I G h (.pv (.raw v)) cv) : cv = v := by cases hr with | pv _ _ h1 => cases h1; rfl
theorem zwd {N0 : Nat} (hY : zc0 Z key nl T l N0) (hZ : ∀ w I G h w' I' G' h', Z w I G h -> HRel w I G h -> HRel w' I' G' h' -> TrN 5 w I G h w' I' G' h' -> Z w' I' G' h') (L : List Int) (f i : Nat) (hf : f <= i) (hi : i <= L.length) (hr : R32 L) (hL : L.length < 1000000000000) (hN : L.length = N0) :
 CodeZ Z qa 39 (d8 Tryz.f132) (eM (.func (.yield l) #[] #[]) i f) (aO nl T (aA L)) fun x e h => ∃ L', x = .normal /\ (if f + 1 < i then YQ key L f i L' else L' = L) /\ e = (38, .pv (.bool false)) :: eM (.func (.yield l) #[] #[]) i f /\ h = aO nl T (aA L') := by
 intro w I G a Qx hs hz hq;obtain ⟨q1, q2, q3, q4, q5, q6, q7, q8⟩ := zwa;rw [zv9];have ea := e6a (nl := nl) (T := T) (.func (.yield l) #[] #[]) (aA L) i f;have eb := fun es => e6b (nl := nl) (T := T) (.func (.yield l) #[] #[]) es i f;have ec := e6c (nl := nl) (T := T) (.func (.yield l) #[] #[]) (aA L) i f;generalize bU (d8 Tryz.f132) = O at *;generalize o8 O = o at *;have ww : i64.wrap ((i : Int) - f) = (i : Int) - f := aC (by omega) (by omega);rw [ww] at ea;refine wp_mono (Q := fun x a' w' => x = .normal /\ ∃ L' I' G', (if f + 1 < i then YQ key L f i L' else L' = L) /\ SRel w' I' G' ((38, .pv (.bool false)) :: eM (.func (.yield l) #[] #[]) i f) (aO nl T (aA L')) 39 a' /\ a'.defers = a.defers /\ Z w' I' G' (aO nl T (aA L'))) ((wpIn_wide (n := 0)).1 (wpIn_region (F := wd none) ?_)) ?_
 rotate_left
 ·rintro x a' w' ⟨rfl, L', I', G', h1, h2, h3, h4⟩;exact hq .normal _ _ w' I' G' a' ⟨L', rfl, h1, rfl, rfl⟩ h2 h3 h4
 rw [q1, show List.range 11 = qbm 0 8 ++ (8 :: qbm 9 2) from rfl];refine sK ?_;rw [show (8 : Nat) = (O.toList.take 8).length by simp [q3]];have hsuf : ∀ j, j < (O.toList.drop 9).length -> (O.toList.drop 9)[j]? = O[9 + j]? := fun j _ => by rw [qbd]; simp
 have hl2 : (O.toList.drop 9).length = 2 := by simp [q3]
 refine vG (ro := none) q2 (fun j hj => ?_) (by rw [ea]; exact ⟨rfl, rfl⟩ : aW qa (fun _ => none) 39 O.toList (O.toList.take 8) _ _ (fun e' h' => e' = _ /\ h' = aO nl T (aA L))) hs (fun a w h => nomatch h.1) ?_
 ·rw [List.getElem?_take, if_pos (by simp only [qj] at hj; omega)]; simp
 rintro _ _ w1 I1 G1 a1 ⟨rfl, rfl⟩ hs1 hd1 ht1;rw [show (O.toList.take 8).length = 8 by simp [q3]];have hz1 := hZ _ _ _ _ _ _ _ _ hz hs.hh hs1.hh ht1.toN;have h32 := zwc (hs1.he 32 _ rfl)
 have hyl : yielded O a1.tmps 4 = some (decide ((i : Int) - f > 1)) := by
  unfold yielded;rw [q8]; simp [h32]
 have hwd : Region.wanted o (yielded O a1.tmps) = decide ((i : Int) - f > 1) := by unfold Region.wanted; rw [q6]; simp [hyl]
 show wpOpsIn (wd none) 0 qa O _ (8 :: qbm 9 2) a1 w1;refine zwb q4 ?_;rw [hwd];have hdst : iM 39 o = true := by unfold iM; rw [q5]; rfl
 by_cases hc : f + 1 < i
 ·have hd' : decide ((i : Int) - f > 1) = true := by simp; omega
  rw [hd'] at hs1 h32 ⊢;rw [if_pos rfl];refine ⟨fun _ _ => trivial, ?_⟩;have h32' : a1.tmps.getD 32 undef = .bool true := (hs1.he 32 _ rfl).bool_eq;have v33 := ((hs1.he 33 _ rfl).1 h32').raw_eq;have v34 := ((hs1.he 34 _ rfl).1 h32').int_eq;have v35 := ((hs1.he 35 _ rfl).1 h32').int_eq;obtain ⟨fn, tmps, assign, body, hy, hR⟩ := hY w1 I1 G1 L f i hs1.hh hz1 hc hi hr hL hN
  have hrun : (o.semAt none a1.eval).run qa w1 = .ok (.round l fn tmps assign body) w1 := by
   rw [Oper.semAt_none];unfold execOp;rw [q7];have e33 : a1.eval (.tmp 33) = .func (.yield l) #[] #[] := v33;have e34 : a1.eval (.tmp 34) = .int .i64 f := v34;have e35 : a1.eval (.tmp 35) = .int .i64 i := v35
   have hres : resolve a1.eval { callee := .value (.tmp 33), args := #[.tmp 34, .tmp 35], argTypes := #[3, 3] } o.type = pure { target := .fn (.yield l) #[], args := #[.int .i64 f, .int .i64 i] } := by
    simp [resolve, e33, e34, e35, Deferred.ofValue]
   simp only [hres, pure_bind];exact hy
  rw [hrun];refine ⟨(fun x => by cases x), hR.mono ?_⟩;rintro e w2 ⟨rfl, L', I2, G2, y1, y2, y3, y4, y5⟩
  have hs2 : SRel w2 I2 G2 ((36, .pv (.bool true)) :: (32, .pv (.bool true)) :: eM (.func (.yield l) #[] #[]) i f) (aO nl T (aA L')) 39 (a1.put o.dst (.bool true)) := by
   have s1 : SRel w1 I1 G1 ((32, .pv (.bool true)) :: eM (.func (.yield l) #[] #[]) i f) (aO nl T (aA L)) 39 a1 := hs1.le (LeE.le ⟨rfl, rfl, rfl, rfl, rfl, rfl, trivial⟩);obtain ⟨p1, p2⟩ := kN (v := .pv (.bool true)) hdst s1.hn y2 (s1.he.mono y3 y4) (.pv _ _ (.bool true));have : put o (.pv (.bool true)) ((32, .pv (.bool true)) :: eM (.func (.yield l) #[] #[]) i f) = (36, .pv (.bool true)) :: (32, .pv (.bool true)) :: eM (.func (.yield l) #[] #[]) i f := by unfold put; rw [q5]; rfl
   rwa [this] at p1
  have := vG (ro := none) (n := 0) (k := 9) q2 hsuf (by rw [eb]; exact ⟨rfl, rfl⟩ : aW qa (fun _ => none) 39 O.toList (O.toList.drop 9) _ _ (fun e' h' => e' = _ /\ h' = aO nl T (aA L'))) hs2 (Q := fun x a' w' => x = .normal /\ ∃ L' I' G', (if f + 1 < i then YQ key L f i L' else L' = L) /\ SRel w' I' G' ((38, .pv (.bool false)) :: eM (.func (.yield l) #[] #[]) i f) (aO nl T (aA L')) 39 a' /\ a'.defers = a.defers /\ Z w' I' G' (aO nl T (aA L'))) (fun a w h => nomatch h.1) (by
   rintro _ _ w3 I3 G3 a3 ⟨rfl, rfl⟩ hs3 hd3 ht3
   refine ⟨rfl, L', I3, G3, by rw [if_pos hc]; exact y1, hs3.le (LeE.le ⟨rfl, rfl, rfl, rfl, rfl, rfl, trivial⟩), hd3.trans ((by unfold Act.put; cases o.dst <;> rfl : (a1.put o.dst (.bool true)).defers = a1.defers).trans hd1), hZ _ _ _ _ _ _ _ _ y5 hs2.hh hs3.hh ht3.toN⟩)
  rw [hl2] at this;exact this
 ·have hd' : decide ((i : Int) - f > 1) = false := by simp; omega
  rw [hd'] at hs1 h32 ⊢;rw [if_neg (by simp)];refine ⟨fun _ _ => trivial, ?_⟩;have hlt : 36 < a1.tmps.size := by rw [hs1.hn]; omega
  have hs2 : SRel w1 I1 G1 ((32, .pv (.bool false)) :: eM (.func (.yield l) #[] #[]) i f) (aO nl T (aA L)) 39 (a1.put o.dst undef) := by
   have s1 : SRel w1 I1 G1 ((32, .pv (.bool false)) :: eM (.func (.yield l) #[] #[]) i f) (aO nl T (aA L)) 39 a1 := hs1.le (LeE.le ⟨rfl, rfl, rfl, rfl, rfl, rfl, trivial⟩);obtain ⟨p1, p2⟩ := kN (v := .bot) (cv := undef) hdst s1.hn s1.hh s1.he (.bot _);have : put o .bot ((32, .pv (.bool false)) :: eM (.func (.yield l) #[] #[]) i f) = (36, .bot) :: (32, .pv (.bool false)) :: eM (.func (.yield l) #[] #[]) i f := by unfold put; rw [q5]; rfl
   rw [this] at p1;exact p1.le (LeE.le ⟨rfl, rfl, rfl, rfl, rfl, rfl, trivial⟩)
  have := vG (ro := none) (n := 0) (k := 9) q2 hsuf (by rw [ec]; exact ⟨rfl, rfl⟩ : aW qa (fun _ => none) 39 O.toList (O.toList.drop 9) _ _ (fun e' h' => e' = _ /\ h' = aO nl T (aA L))) hs2 (Q := fun x a' w' => x = .normal /\ ∃ L' I' G', (if f + 1 < i then YQ key L f i L' else L' = L) /\ SRel w' I' G' ((38, .pv (.bool false)) :: eM (.func (.yield l) #[] #[]) i f) (aO nl T (aA L')) 39 a' /\ a'.defers = a.defers /\ Z w' I' G' (aO nl T (aA L'))) (fun a w h => nomatch h.1) (by
   rintro _ _ w3 I3 G3 a3 ⟨rfl, rfl⟩ hs3 hd3 ht3
   exact ⟨rfl, L, I3, G3, by rw [if_neg hc], hs3.le (LeE.le ⟨rfl, rfl, rfl, rfl, rfl, rfl, trivial⟩), hd3.trans ((by unfold Act.put; cases o.dst <;> rfl : (a1.put o.dst undef).defers = a1.defers).trans hd1), hZ _ _ _ _ _ _ _ _ hz1 hs2.hh hs3.hh ht3.toN⟩)
  rw [hl2] at this;exact this
end
section
variable {Z : World -> (Nat -> Prop) -> (Nat -> Pl) -> Hp -> Prop} {key : Int -> Int} {nl : Bool} {T : PV} {l : Nat} {y : Value} {es : List (List PV)}
theorem eI0 (Q : Qt) : cY qa (fun _ => none) 5 39 lM (fun _ => none) (bI (cM Tryz.f132)) (fG [.pv (.raw y), .box 4 0, .box 3 0] 0) (aO nl T es) Q = Q .normal (eN y 0) (aO nl T es) := by kernel_rfl
theorem eI1 (i : Int) (Q : Qt) : cY qa (fun _ => none) 5 39 lM (fun _ => none) (bI (cL Tryz.f132)) (eN y i) (aO nl T es) Q =
 if decide (i < (es.length : Int)) = true then Q .normal [(0, .pv (.raw y)), (1, .box 4 0), (2, .box 3 0), (4, .pv (.int .i64 i)), (9, .pv (.bool (decide (i < (es.length : Int)))))] (aO nl T es)
 else Q (.exit 0) [(0, .pv (.raw y)), (1, .box 4 0), (2, .box 3 0), (4, .pv (.int .i64 i)), (9, .pv (.bool (decide (i < (es.length : Int)))))] (aO nl T es) := by kernel_rfl
theorem eI3 (i : Int) (Q : Qt) : cY qa (fun _ => none) 5 39 lM (fun _ => none) (bI (cB Tryz.f132)) (eN y i) (aO nl T es) Q = Q .normal (eM y i i) (aO nl T es) := by kernel_rfl
theorem eI2 (i : Int) (Q : Qt) : cY qa (fun _ => none) 5 39 lM (fun _ => none) (aX (aX (cL Tryz.f132))) (eN y i) (aO nl T es) Q = Q .normal (eN y (i64.wrap (i + 1))) (aO nl T es) := by kernel_rfl
def zc1 (y : Value) (i f : Int) (b : Bool) : Env := [(0, .pv (.raw y)), (1, .box 4 0), (2, .box 3 0), (4, .pv (.int .i64 i)), (5, .pv (.int .i64 f)), (25, .pv (.bool b))]
theorem eI4 (i f : Int) (J : Int -> Prop) (μ : Int -> Nat) (Q : Qt) : cY qa (fun _ => none) 5 39 lM (fun zz_ => match zz_ with | 4 => some ⟨Int × Unit, fun s => (eM y s.1 f, aO nl T es), fun _ s => J s.1, fun s => μ s.1, fun e h => (gI e 4, ()), [], [0, 1, 2, 4, 5], [], fun p => ∀ (x4 : Int), p (x4, ()), fun p h s => h s.1⟩ | _ => none) (bI (aX (cB Tryz.f132))) (eM y i f) (aO nl T es) Q =
 ((SameSt (eM y i f, aO nl T es) (eM y i f, aO nl T es) /\ J i) /\ ∀ (x4 : Int), J x4 -> if decide (x4 < (es.length : Int)) = true then aF es x4 1 /\ ∃ (n : Int), (qc 0 (es.getD x4.toNat [])).head? = some (.int .i32 n) /\ PCall qa 71 [T, .int .i32 n] fun (v : PV) => ∃ (n1 : Int), v = .int .i64 n1 /\
  if (n1 != (0 : Int)) = true then SameSt (eM y (i64.wrap (x4 + 1)) f, aO nl T es) (eM y (i64.wrap (x4 + 1)) f, aO nl T es) /\ J (i64.wrap (x4 + 1)) /\ μ (i64.wrap (x4 + 1)) < μ x4
  else Q .normal (zc1 y x4 f (n1 != (0 : Int))) (aO nl T es)
   else Q .normal (zc1 y x4 f false) (aO nl T es)) := by kernel_rfl
theorem zc2 : cM Tryz.f132 = .seq (bI (cM Tryz.f132)) (.block 0 (.loop (cL Tryz.f132))) /\
 cL Tryz.f132 = .seq (bI (cL Tryz.f132)) (.seq (.block 1 (cB Tryz.f132)) (aX (aX (cL Tryz.f132)))) /\
 cB Tryz.f132 = .seq (bI (cB Tryz.f132)) (.seq (bI (aX (cB Tryz.f132))) (.seq (d8 Tryz.f132) (.cond (.tmp 38) .ret .skip))) := ⟨by kernel_rfl, by kernel_rfl, by kernel_rfl⟩
theorem CodeZ.le {P : Program} {N : Nat} {c : Code} {e e' : Env} {h : Hp} {Q : Qt} (hl : LeE e' e) (hK : CodeZ Z P N c e' h Q) : CodeZ Z P N c e h Q :=
 fun w I G a Qx hs hz hq => hK w I G a Qx (hs.le hl.le) hz hq
theorem zwe (hk : ∀ x, 0 <= key x) (hT : ∀ r : Int, (-2147483648 <= r /\ r <= 2147483647) -> PCall qa 71 [T, .int .i32 r] fun v => v = .int .i64 (key r)) 
 (hZ : ∀ w I G h w' I' G' h', Z w I G h -> HRel w I G h -> HRel w' I' G' h' -> TrN 5 w I G h w' I' G' h' -> Z w' I' G' h') (L0 : List Int) (hY : zc0 Z key nl T l L0.length) (hr : R32 L0) (hL : L0.length < 1000000000000) :
 CodeZ Z qa 39 (cM Tryz.f132) (fG [.pv (.raw (.func (.yield l) #[] #[])), .box 4 0, .box 3 0] 0) (aO nl T (aA L0)) fun x e h => x = .normal /\ h = aO nl T (aA (c6 key L0)) := by
 obtain ⟨y, hy⟩ : ∃ y : Value, y = .func (.yield l) #[] #[] := ⟨_, rfl⟩;rw [zc2.1, <- hy];refine CodeZ.seq (CodeZ.of (n0 := 5) hZ (d9 (Eq.mpr (eI0 _) ?_)));show CodeZ Z qa 39 (.block 0 (.loop (cL Tryz.f132))) (eN y 0) (aO nl T (aA L0)) _;refine CodeZ.block (CodeZ.loop (σ := Nat × List Int) (fun s => (eN y s.1, aO nl T (aA s.2))) (fun s => s.1 <= L0.length + 1 /\ Eqv key L0 s.2 /\ dC key (s.2.take s.1) /\ (s.1 = 0 ∨ L0.length < s.1 ∨ key (s.2.getD (s.1 - 1) 0) = 0)) (fun s => L0.length + 1 - s.1) (0, L0) (LeE.le ⟨rfl, rfl, rfl, rfl, trivial⟩) rfl ⟨by omega, .refl _, by simp [dC], .inl rfl⟩ ?_);rintro ⟨i, L⟩ ⟨hi, hq, hc, hb⟩;have hlen := hq.len;have hr' : R32 L := fun x hx => hr x (hq.mem.2 hx);dsimp only at hi hq hc hb hlen ⊢;rw [zc2.2.1];refine CodeZ.seq (CodeZ.of (n0 := 5) hZ (d9 (Eq.mpr (eI1 _ _) ?_)));by_cases hlt : i < L.length
 ·rw [if_pos (by simpa using hlt)]
  show CodeZ Z qa 39 (.seq (.block 1 (cB Tryz.f132)) (aX (aX (cL Tryz.f132)))) _ _ _;refine CodeZ.le (e' := eN y i) ⟨rfl, rfl, rfl, rfl, trivial⟩ (CodeZ.seq (CodeZ.block ?_));rw [zc2.2.2];refine CodeZ.seq (CodeZ.of (n0 := 5) hZ (d9 (Eq.mpr (eI3 _ _) ?_)));show CodeZ Z qa 39 (.seq (bI (aX (cB Tryz.f132))) (.seq (d8 Tryz.f132) (.cond (.tmp 38) .ret .skip))) (eM y i i) _ _;refine CodeZ.seq (CodeZ.of (n0 := 5) hZ (d9 (Eq.mpr (eI4 _ _ (fun x => ∃ j : Nat, x = j /\ i <= j /\ j <= L.length /\ ∀ k, i <= k -> k < j -> key (L.getD k 0) ≠ 0) (fun x => ((L.length : Int) - x).toNat) _) ?_)));refine ⟨⟨rfl, i, rfl, qk _, by omega, fun k h1 h2 => by omega⟩, ?_⟩;rintro _ ⟨j, rfl, hij, hj, hnz⟩
  -- what follows the row of marks
  have rest : ∀ b, (j = L.length ∨ key (L.getD j 0) = 0) -> CodeZ Z qa 39 (.seq (d8 Tryz.f132) (.cond (.tmp 38) .ret .skip)) (zc1 y j i b) (aO nl T (aA L)) fun x e h => match x with
   | .normal => CodeZ Z qa 39 (aX (aX (cL Tryz.f132))) e h fun x e h => match x with
     | .normal => ∃ s' : Nat × List Int, (∀ i v, get (eN y s'.1) i = some v -> get e i = some v) /\ h = aO nl T (aA s'.2) /\ (s'.1 <= L0.length + 1 /\ Eqv key L0 s'.2 /\ dC key (s'.2.take s'.1) /\ (s'.1 = 0 ∨ L0.length < s'.1 ∨ key (s'.2.getD (s'.1 - 1) 0) = 0)) /\ L0.length + 1 - s'.1 < L0.length + 1 - i
     | _ => False
   | _ => False := fun b hend => by
   refine CodeZ.le (e' := eM y j i) ⟨rfl, rfl, rfl, rfl, rfl, trivial⟩ (CodeZ.seq ?_);rw [hy];refine (zwd hY hZ L i j hij hj hr' (by omega) hlen.symm).mono ?_;rintro _ _ _ ⟨L', rfl, hL', rfl, rfl⟩;refine CodeZ.cond (t := false) rfl ?_;simp only [Bool.false_eq_true, if_false];refine CodeZ.skip ?_;rw [<- hy];refine CodeZ.le (e' := eN y j) ⟨rfl, rfl, rfl, rfl, trivial⟩ (CodeZ.of (n0 := 5) hZ (d9 (Eq.mpr (eI2 _ _) ?_)));have wj : i64.wrap ((j : Int) + 1) = ((j + 1 : Nat) : Int) := by rw [aC (by omega) (by omega)]; omega
   rw [wj]
   have hb' : i = 0 ∨ key (L.getD (i - 1) 0) = 0 := by
    rcases hb with h | h | h
    ·exact .inl h
    ·omega
    ·exact .inr h
   obtain ⟨S', hs, hst, rfl⟩ : ∃ S', Srtd key S' /\ Stab key ((L.take j).drop i) S' /\ L' = L.take i ++ (S' ++ L.drop j) := by
    by_cases h1 : i + 1 < j
    ·rw [if_pos h1] at hL';obtain ⟨S', e, h2, h3⟩ := hL';exact ⟨S', h2, h3, e⟩
    ·rw [if_neg h1] at hL';obtain ⟨c1, c2, c3⟩ := vP L hij hj;exact ⟨_, zrv (by omega), Stab.refl _, hL'.trans c1⟩
   obtain ⟨g1, g2, g3⟩ := zru hk hij hj hb' hnz hend hc hs hst;refine ⟨(j + 1, _), LeE.le ⟨rfl, rfl, rfl, rfl, trivial⟩, rfl, ⟨by dsimp only; omega, hq.trans g1, g2, ?_⟩, by dsimp only; omega⟩;rcases Nat.lt_or_ge j L.length with h | h
   ·exact .inr (.inr (g3 h))
   ·exact .inr (.inl (by dsimp only; omega))
  by_cases hjl : j < L.length
  ·rw [if_pos (by simpa using hjl)]
   refine ⟨cU (enc := fun n => [PV.int .i32 n]) (l := L) (fun _ => rfl) (by omega) (by omega), L.getD j 0, by rw [qd, zgs hjl]; rfl, (hT _ (hr' _ (List.mem_of_getElem? (sS hjl)))).mono ?_⟩;rintro _ rfl;refine ⟨_, rfl, ?_⟩;by_cases hz : key (L.getD j 0) = 0
   ·rw [if_neg (by simpa using hz)]
    exact (rest _ (.inr hz)).mono fun x e h hx => by cases x <;> first | exact hx.elim | exact CodeZ.mono hx fun x e h hx => (by cases x <;> first | exact hx | exact hx.elim)
   ·rw [if_pos (by simpa using hz)]
    have wj : i64.wrap ((j : Int) + 1) = ((j + 1 : Nat) : Int) := by rw [aC (by omega) (by omega)]; omega
    rw [wj];refine ⟨rfl, ⟨j + 1, rfl, by omega, hjl, fun k h1 h2 => ?_⟩, by omega⟩;rcases Nat.lt_or_ge k j with h | h
    ·exact hnz k h1 h
    ·have : k = j := by omega
     subst this; exact hz
  ·rw [if_neg (by simpa using hjl)]
   exact (rest _ (.inl (by omega))).mono fun x e h hx => by cases x <;> first | exact hx.elim | exact CodeZ.mono hx fun x e h hx => (by cases x <;> first | exact hx | exact hx.elim)
 ·rw [if_neg (by simpa using hlt)]
  refine ⟨rfl, ?_⟩;rw [qh (by omega)] at hc;rw [zrr hq, zrt hc]
end
section
variable {w w' : World} {I I' : Nat -> Prop} {G G' : Nat -> Pl} {h h' : Hp}
theorem HRel.off (hh : HRel w I G h) {l : Nat} (o : Obj) (hI : ¬ I l) (ho : ¬ aQ h G l) : HRel (w.putObj l o) I G h := by
 have hw : ∀ b, b ≠ l -> (w.putObj l o).heap[b]? = w.heap[b]? := fun b hb => World.putObj_heap_other hb;have hk : Keeps w I (w.putObj l o) I := ⟨fun b hb _ => hw b fun e => hI (e ▸ hb), fun b hb _ => hb⟩;have blk : ∀ (i : Nat) x, h[i]? = some x -> x.alive (G i) -> (G i).blk ≠ l := fun i x hx ha e => ho ⟨i, x, hx, ha, e⟩;refine ⟨fun i x hx => ?_, hh.sep, hh.nI, fun b hb => by rw [World.putObj_size]; exact hh.cl b hb⟩;have := hh.obs i x hx;cases x with
 | dead => trivial
 | box cs => obtain ⟨vs, ty, e1, e2, e3⟩ := this; exact ⟨vs, ty, by rw [hw _ (blk i _ hx trivial)]; exact e1, e2, fun k v hv => ⟨(e3 k v hv).1.mono hk (.refl _ _), (e3 k v hv).2⟩⟩
 | arr cs => obtain ⟨vs, ty, e1, e2, e3⟩ := this; exact ⟨vs, ty, by rw [hw _ (blk i _ hx trivial)]; exact e1, e2, fun k v hv => ⟨(e3 k v hv).1.mono hk.1 hk.2, (e3 k v hv).2⟩⟩
 | sl ty m n es =>
   cases n with
   | true => exact this
   | false =>
     obtain ⟨e1, e2, e3, e3', e4, e5⟩ := this;refine ⟨e1, e2, e3, e3', e4, fun hc => ?_⟩;obtain ⟨vs, f1, f2, f3⟩ := e5 hc;exact ⟨vs, by rw [hw _ (blk i _ hx ⟨rfl, hc⟩)]; exact f1, f2, fun i' e he k v hv => ⟨(f3 i' e he k v hv).1.mono hk.1 hk.2, (f3 i' e he k v hv).2⟩⟩
 | mp kvs => obtain ⟨es, ck, e1, e2, e3⟩ := this; exact ⟨es, ck, by rw [hw _ (blk i _ hx trivial)]; exact e1, e2, fun k kv hv => ⟨(e3 k kv hv).1.mono hk.1 hk.2, (e3 k kv hv).2.mono hk.1 hk.2⟩⟩
 | iter ty rem cur => exact IterRel.mono this (hw _ (blk i _ hx trivial)) hk
theorem mB (hh : HRel w I G h) {b : Nat} {o : Obj} (ho : w.heap[b]? = some o) (hn : (match o with | .cells .. => true | .map .. => true | .mapIter .. => true | _ => false) = false) : ¬ aQ h G b := by
 rintro ⟨i, ob, hi, ha, rfl⟩;have := hh.obs i ob hi;cases ob with
 | dead => exact ha
 | box cs => obtain ⟨vs, ty, e1, _⟩ := this; rw [ho] at e1; cases e1; cases hn
 | arr cs => obtain ⟨vs, ty, e1, _⟩ := this; rw [ho] at e1; cases e1; cases hn
 | sl ty m n es =>
   cases n with
   | true => exact absurd ha.1 (by simp)
   | false => obtain ⟨vs, e1, _⟩ := this.2.2.2.2.2 ha.2; rw [ho] at e1; cases e1; cases hn
 | mp kvs => obtain ⟨es, ck, e1, _⟩ := this; rw [ho] at e1; cases e1; cases hn
 | iter ty rem cur => obtain ⟨_, _, _, _, _, _, e1, _⟩ := this; rw [ho] at e1; cases e1; cases hn
theorem Tr.off {own own' : Nat -> Prop} (t : Tr w I own w' I' own') {l : Nat} (hl : w.heap.size <= l) (o : Obj) : Tr w I own (w'.putObj l o) I' own' :=
 ⟨t.os, t.tape, t.output, by rw [World.putObj_size]; exact t.size, fun b hb hn => (World.putObj_heap_other (by omega)).trans (t.keep b hb hn), t.i1, t.i2, t.own2,
  fun a ha => (World.frozen?_of_block (World.putObj_heap_other (by omega))).trans (t.frz a ha), t.drawn⟩
theorem TrN.off {n0 : Nat} (t : TrN n0 w I G h w' I' G' h') {l : Nat} (hl : w.heap.size <= l) (o : Obj) : TrN n0 w I G h (w'.putObj l o) I' G' h' := ⟨t.t.off hl o, t.len, t.stay⟩
theorem tF (hh : HRel w I G h) (t : Tr w I (aQ h G) w' I' (aQ h' G')) : Keeps w I w' I' :=
 ⟨fun b hb hlt => t.keep b hlt fun ⟨o, ob, h1, h2, e⟩ => hh.nI o ob h1 h2 (e ▸ hb), fun b hb _ => t.i1 b hb⟩
theorem Keeps.trans {w1 w2 : World} {I1 I2 : Nat -> Prop} (h : Keeps w I w1 I1) (hs : w.heap.size <= w1.heap.size) (k : Keeps w1 I1 w2 I2) : Keeps w I w2 I2 :=
 ⟨fun b hb hlt => (k.1 b (h.2 b hb hlt) (qbf hlt hs)).trans (h.1 b hb hlt), fun b hb hlt => k.2 b (h.2 b hb hlt) (qbf hlt hs)⟩
theorem Keeps.off {l : Nat} (hI : ¬ I l) (o : Obj) : Keeps w I (w.putObj l o) I := ⟨fun b hb _ => World.putObj_heap_other fun e => hI (e ▸ hb), fun b hb _ => hb⟩
structure ZR (W0 : World) (I0 : Nat -> Prop) (G0 : Nat -> Pl) (h0 : Hp) (l D : Nat) (rec : Loop) (W : World) (I : Nat -> Prop) (G : Nat -> Pl) (h : Hp) : Prop where
 t : TrN 5 W0 I0 G0 h0 W I G h
 hl : W.heap[l]? = some (.loop rec)
 hD : W.heap[D]? = some (.deferred (some []))
 nl : ¬ I l
 nD : ¬ I D
theorem ZR.step {W0 : World} {I0 : Nat -> Prop} {G0 : Nat -> Pl} {h0 : Hp} {l D : Nat} {rec : Loop} (z : ZR W0 I0 G0 h0 l D rec w I G h) (hh : HRel w I G h) (t : TrN 5 w I G h w' I' G' h') : ZR W0 I0 G0 h0 l D rec w' I' G' h' := by
 have l1 := (Array.getElem?_eq_some_iff.1 z.hl).1;have l2 := (Array.getElem?_eq_some_iff.1 z.hD).1;have n1 := mB hh z.hl rfl;have n2 := mB hh z.hD rfl;exact ⟨z.t.trans t, (t.t.keep l l1 n1).trans z.hl, (t.t.keep D l2 n2).trans z.hD, fun x => (t.t.i2 l x).elim z.nl (fun x => x.elim n1 fun x => by omega), fun x => (t.t.i2 D x).elim z.nD (fun x => x.elim n2 fun x => by omega)⟩
end
section
variable {key : Int -> Int} {nl : Bool} {T : PV}
theorem zc3 {G G' : Nat -> Pl} {es es' : List (List PV)} (hl : es.length = es'.length) (hG : ∀ o, o < 5 -> G' o = G o) : Like G G' (aO nl T es) (aO nl T es') := by
 intro o ob ho;have hlt : o < 5 := (List.getElem?_eq_some_iff.1 ho).1;refine ⟨?_, fun _ => hG o hlt⟩
 match o, ho with
 | 0, ho => cases ho; exact ⟨_, rfl, trivial⟩
 | 1, ho => cases ho; exact ⟨_, rfl, rfl, rfl, hl⟩
 | 2, ho => cases ho; exact ⟨_, rfl, trivial⟩
 | 3, ho => cases ho; exact ⟨_, rfl, trivial⟩
 | 4, ho => cases ho; exact ⟨_, rfl, trivial⟩
theorem wT {w w' : World} {I I' : Nat -> Prop} {G G' : Nat -> Pl} {es es' : List (List PV)} (t : TrN 5 w I G (aO nl T es) w' I' G' (aO nl T es')) : ∀ o, o < 5 -> G' o = G o := by
 intro o ho;have hs := t.stay (qk _)
 match o, ho with
 | 0, _ => exact (hs 0 _ (by omega) rfl rfl).1
 | 1, _ => exact (hs 1 _ (by omega) rfl rfl).1
 | 2, _ => exact (hs 2 _ (by omega) rfl rfl).1
 | 3, _ => exact (hs 3 _ (by omega) rfl rfl).1
 | 4, _ => exact (hs 4 _ (by omega) rfl rfl).1
theorem eA3 (es : List (List PV)) (i f : Int) (K : Env -> Hp -> Prop) : aW qa (fun _ => none) 22 (bU (bI (iU (dI Tryz.f82)))).toList (bU (bI (iU (dI Tryz.f82)))).toList (eO f i) (aO nl T es) K = K ((6, .pv (.int .i64 f)) :: eO f i) (aO nl T es) := by kernel_rfl
theorem eA4 (es : List (List PV)) (i f : Int) (K : Env -> Hp -> Prop) : aW qa (fun _ => none) 22 (bU (aX (iU (dI Tryz.f82)))).toList (bU (aX (iU (dI Tryz.f82)))).toList ((6, .pv (.int .i64 f)) :: eO f i) (aO nl T es) K = K ((7, .pv (.int .i64 i)) :: (6, .pv (.int .i64 f)) :: eO f i) (aO nl T es) := by kernel_rfl
theorem eA5 (es : List (List PV)) (i f : Int) (K : Env -> Hp -> Prop) : aW qa zar 22 (bU (gP (iV (dI Tryz.f82)))).toList (bU (gP (iV (dI Tryz.f82)))).toList ((7, .pv (.int .i64 i)) :: (6, .pv (.int .i64 f)) :: eO f i) (aO nl T es) K =
 (fO es.length (some f) (some i) none /\ ACall qa 110 [.sub 0 f.toNat i.toNat, .fn 111 [.box 1 0]] [.sl (21, 1) false nl es, .box [.pv T]] fun (r : LV) (h' : Hp) => ∃ (t : List (List PV)), (r = .tup [] /\ h' = [.sl (21, 1) false nl t, .box [.pv T]]) /\
  (True /\ (((21, 1) : Nat × Nat) = (21, 1) /\ nl = nl /\ es.length = t.length) /\ True) /\ K ((20, .tup []) :: (19, .fn 111 [.box 0 0]) :: (18, .sub 1 f.toNat i.toNat) :: (17, .pv (.int .i64 i)) :: (16, .pv (.int .i64 f)) :: (15, .own 1) :: (7, .pv (.int .i64 i)) :: (6, .pv (.int .i64 f)) :: eO f i) (aO nl T t)) := by kernel_rfl
theorem zlb : iU (dI Tryz.f82) = .seq (.region 3 (bU (bI (iU (dI Tryz.f82)))) false) (.region 4 (bU (aX (iU (dI Tryz.f82)))) false) /\ iV (dI Tryz.f82) = .block 1 (.region 5 (bU (gP (iV (dI Tryz.f82)))) false) /\
 dI Tryz.f82 = .rangeFunc (.tmp 12) #[13, 14] (iU (dI Tryz.f82)) (iV (dI Tryz.f82)) /\ dG (bU (bI (iU (dI Tryz.f82)))).toList = true /\ dG (bU (aX (iU (dI Tryz.f82)))).toList = true /\ dG (bU (gP (iV (dI Tryz.f82)))).toList = true :=
 ⟨by kernel_rfl, by kernel_rfl, by kernel_rfl, by kernel_rfl, by kernel_rfl, by kernel_rfl⟩
theorem zwf (hc : kX T key) {W0 : World} {I0 : Nat -> Prop} {G0 : Nat -> Pl} {L0 : List Int} {a : Act} {v12 : LV} (hs0 : SRel W0 I0 G0 [(2, .box 0 0), (5, .box 2 0), (12, v12)] (aO nl T (aA L0)) 22 a) (rec : Loop)
 (r1 : rec.state = .ready) (r2 : rec.pending = none) (r3 : rec.tmps = a.tmps) (r4 : rec.params = #[13, 14]) (r5 : rec.assign = iU (dI Tryz.f82)) (r6 : rec.body = iV (dI Tryz.f82)) :
 zc0 (ZR W0 I0 G0 (aO nl T (aA L0)) (W0.heap.size + 1) W0.heap.size rec) key nl T (W0.heap.size + 1) L0.length := by
 intro w I G L f i hh hz hfi hil hr hLn hN;obtain ⟨l, hl⟩ : ∃ l, l = W0.heap.size + 1 := ⟨_, rfl⟩;have hWl : W0.heap.size <= l := by omega
 rw [<- hl] at hz ⊢;refine ⟨_, _, _, _, run_yield (P := qa) hz.hl (by rw [r4]; rfl), roundIn_of_wpIn trivial ?_⟩;have hlt := (Array.getElem?_eq_some_iff.1 hz.hl).1;have hel : ∀ L' : List Int, L'.length = L.length -> (aA L0).length = (aA L').length := fun L' h => by simp [hN, h]
 have hs : SRel w I G (eO f i) (aO nl T (aA L)) 22 { tmps := (a.tmps.setIfInBounds 13 (.int .i64 f)).setIfInBounds 14 (.int .i64 i), defers := [] } := by
  have h1 := hs0.he.mono (tF hs0.hh hz.t.t) (zc3 (hel L rfl) (wT hz.t));have h2 := h1.set (d := 13) (v := .pv (.int .i64 f)) (by rw [hs0.hn]; omega) (.pv _ _ (.int .i64 f)) (fun _ _ _ e => by cases e);have h3 := h2.set (d := 14) (v := .pv (.int .i64 i)) (by simp [hs0.hn]) (.pv _ _ (.int .i64 i)) (fun _ _ _ e => by cases e);exact ⟨hh, fun k v hk => h3 k v ((LeE.le (e' := eO f i) ⟨rfl, rfl, rfl, rfl, trivial⟩) k v hk), by simp [hs0.hn]⟩
 obtain ⟨q1, q2, q3, q4, q5, q6⟩ := zlb;rw [r5, q1, r4, r3];have hfold : ∀ x y : Value, (((#[13, 14] : Array Tmp).zip #[x, y]).foldl (fun tmps (t, a) => tmps.setIfInBounds t a) a.tmps) = (a.tmps.setIfInBounds 13 x).setIfInBounds 14 y := fun x y => by simp
 rw [hfold];refine wpIn_seq ?_;show Code.wpIn (wd (some l)) 0 qa _ (Exit.then (Code.wpIn (wd (some l)) 0 qa _ _) _) { tmps := (a.tmps.setIfInBounds 13 (.int .i64 f)).setIfInBounds 14 (.int .i64 i), defers := [] } w;refine zU q4 (by rw [eA3]; exact ⟨rfl, rfl⟩ : aW qa (fun _ => none) 22 _ _ _ _ (fun e' h' => e' = _ /\ h' = _)) hs ?_ ?_
 ·exact fun a w h => h
 rintro _ _ w1 I1 G1 a1 ⟨rfl, rfl⟩ hs1 hd1 ht1;refine zU q5 (by rw [eA4]; exact ⟨rfl, rfl⟩ : aW qa (fun _ => none) 22 _ _ _ _ (fun e' h' => e' = _ /\ h' = _)) hs1 ?_ ?_
 ·exact fun a w h => h
 rintro _ _ w2 I2 G2 a2 ⟨rfl, rfl⟩ hs2 hd2 ht2;have z1 := hz.step hh ht1.toN;have z2 := z1.step hs1.hh ht2.toN;refine ⟨_, run_beginRound z2.hl r1, ?_⟩;have n2 := mB hs2.hh z2.hl rfl;have l2 := (Array.getElem?_eq_some_iff.1 z2.hl).1;have hs3 : SRel (w2.putObj l (.loop { rec with state := .busy })) I2 G2 _ _ 22 a2 := ⟨hs2.hh.off _ z2.nl n2, hs2.he.mono (Keeps.off z2.nl _) (.refl _ _), hs2.hn⟩;have hp3 : (w2.putObj l (.loop { rec with state := .busy })).heap[l]? = some (.loop { rec with state := .busy }) := World.putObj_heap_same l2;have hb : ∀ {c : Code} {Q a w}, c = iV (dI Tryz.f82) -> Code.wpIn (wd (some l)) 0 qa (.block 1 (.region 5 (bU (gP (iV (dI Tryz.f82)))) false)) Q a w -> Code.wpIn (wd (some l)) 0 qa c Q a w := fun e h => by rw [e, q2]; exact h
 refine hb r6 ?_
 have h5 : aW qa zar 22 (bU (gP (iV (dI Tryz.f82)))).toList (bU (gP (iV (dI Tryz.f82)))).toList ((7, .pv (.int .i64 i)) :: (6, .pv (.int .i64 f)) :: eO f i) (aO nl T (aA L)) (fun _ h' => ∃ L', YQ key L f i L' /\ h' = aO nl T (aA L')) := by
  rw [eA5, qd, qd];obtain ⟨c1, c2, c3⟩ := vP L (show f <= i by omega) hil;have e : aA L = aA (L.take f ++ ((L.take i).drop f ++ L.drop i)) := congrArg aA c1;refine ⟨⟨by simp, by simp; omega, by simp; omega, trivial⟩, ?_⟩;rw [e];refine (zv8 hc f i nl (L.take f) ((L.take i).drop f) (L.drop i) c2 (by omega) (by rw [<- c1]; exact hr) (by omega)).mono ?_;rintro r h' ⟨S', rfl, rfl, s1, k1⟩;refine ⟨_, ⟨rfl, rfl⟩, ⟨trivial, ⟨rfl, rfl, ?_⟩, trivial⟩, _, ⟨S', rfl, s1, k1⟩, rfl⟩;have := k1.len;simp only [bY, qb]; omega
 refine wpIn_block ?_;show Code.wpIn (wd (some l)) 0 qa _ _ _ _;refine zU (H := zar) (ro := some l) (n := 0) (id := 5) q6 h5 hs3 ?_ ?_
 ·exact fun a w h => h
 rintro e4 _ w4 I4 G4 a4 ⟨L', hYQ, rfl⟩ hs4 hd4 ht4;have n3 := mB hs3.hh hp3 rfl;have hl4 : w4.heap[l]? = some (.loop { rec with state := .busy }) := (ht4.t.keep l (by rw [World.putObj_size]; exact l2) n3).trans hp3;have l4 := (Array.getElem?_eq_some_iff.1 hl4).1;have nI4 : ∀ b, ¬ I2 b -> ¬ aQ (aO nl T (aA L)) G2 b -> b < w2.heap.size -> ¬ I4 b := fun b x y z h => (ht4.t.i2 b h).elim x fun h => h.elim y fun h => by rw [World.putObj_size] at h; omega
 have nl4 := nI4 l z2.nl n2 l2;have hDne : W0.heap.size ≠ l := by omega
 have nD2 := mB hs2.hh z2.hD rfl;have lD := (Array.getElem?_eq_some_iff.1 z2.hD).1
 have hrec : ({ { rec with state := .busy } with state := if (none : Option Code).isNone then .ready else .done, pending := none } : Loop) = rec := by
  cases rec; simp only at r1 r2; subst r1; subst r2; rfl
 have hrun := run_endRound (P := qa) none hl4;rw [hrec] at hrun
 have hLL : L'.length = L.length := by
  obtain ⟨S', rfl, s1, k1⟩ := hYQ;obtain ⟨c1, c2, c3⟩ := vP L (show f <= i by omega) hil;have := k1.len;rw [qb, qb, c2, <- this, c3, qz]; omega
 have tB : TrN 5 W0 I0 G0 (aO nl T (aA L0)) (w4.putObj l (.loop rec)) I4 G4 (aO nl T (aA L')) := ((z2.t.off hWl _).trans ht4.toN).off hWl _;refine ⟨_, _, hrun, rfl, L', I4, G4, hYQ, hs4.hh.off _ nl4 (mB hs4.hh hl4 rfl), ?_, zc3 (by simp [hLL]) (fun o ho => (wT tB o ho).trans (wT hz.t o ho).symm), ⟨tB, World.putObj_heap_same l4, ?_, nl4, nI4 _ z2.nD nD2 lD⟩⟩
 ·have k1 := (tF hh ht1.t).trans ht1.t.size (tF hs1.hh ht2.t);have s2 := Nat.le_trans ht1.t.size ht2.t.size;have k2 := (k1.trans s2 (Keeps.off z2.nl (.loop { rec with state := .busy }))).trans (by rw [World.putObj_size]; exact s2) (tF hs3.hh ht4.t);exact k2.trans (by have := ht4.t.size; rw [World.putObj_size] at this; omega) (Keeps.off nl4 _)
 ·rw [World.putObj_heap_other hDne];exact (ht4.t.keep _ (by rw [World.putObj_size]; exact lD) (mB hs3.hh ((World.putObj_heap_other hDne).trans z2.hD) rfl)).trans ((World.putObj_heap_other hDne).trans z2.hD)
end
end Go.Eng
namespace Go.Eng
open Go Go.Proofs
section
variable (nl fl : Bool) (es : LL)
def zlc (R : LV -> Hp -> Prop) : Prop :=
 if (bif true then nl else !nl) = true then R (LV.pv (PV.sl true true [])) [] else iJ true [] es 1 4 /\ R (LV.own 0) [Ob.sl (21, 1) false false ([] ++ es)]
theorem zwg {R : LV -> Hp -> Prop} (h : zlc nl es R) : ACall qa 47 [.pv (.sl nl fl es)] [] R :=
 ACall.wA Tryz.func47 aP [0, 2, 4] bF h
end
section
variable (nl : Bool) (ts : List PV) (es : LL)
def zwh (R : LV -> Hp -> Prop) : Prop :=
 R (LV.fn 132 [LV.box 2 0, LV.box 1 0]) [Ob.sl (21, 1) false nl es, Ob.box [LV.pv (PV.ptr ts)], Ob.box [LV.own 0]]
theorem zwi {R : LV -> Hp -> Prop} (h : zwh nl ts es R) : ACall qa 109 [.pv (.ptr ts), .own 0] [.sl (21, 1) false nl es] R :=
 ACall.wz Tryz.func109 aP [0, 1, 2, 3, 4] bF [0, 1, 2] h
end
end Go.Eng
namespace Go.Eng
open Go Go.Proofs Go.Eng.Rows Go.Eng.Srt
theorem ACall.nilOwn {P : Program} {f : Nat} {args : List LV} {Q Q' : LV -> Hp -> Prop} {ty : Nat × Nat} (hc : ACall P f args [] Q) (hq : ∀ r h', Q r h' -> Q' r h' ∨ ∃ fl, r = .pv (.sl true fl []) /\ h' = [] /\ Q' (.own 0) [.sl ty false true []]) : ACall P f args [] Q' :=
 ⟨hc.1, fun w I G cargs h1 h2 h3 => (hc.2 w I G cargs h1 h2 h3).mono fun e w' ⟨cv, r, h', I', G', e1, e2, e3, e4, e5⟩ => (hq r h' e2).elim (fun q => ⟨cv, r, h', I', G', e1, q, e3, e4, e5⟩) fun ⟨fl, hr, hh, q⟩ => by
  subst hr; subst hh;have hcv : cv = .slice none 0 0 := by cases e4 with | pv _ _ h => cases h; rfl
  subst hcv
  have one : ∀ {o : Nat} {ob : Ob}, [Ob.sl ty false true []][o]? = some ob -> ob = .sl ty false true [] := fun {o ob} h => by
   cases o with
   | zero => cases h; rfl
   | succ o => simp at h
  have dead : ∀ {p : Pl}, ¬ (Ob.sl ty false true []).alive p := fun h => by cases h.1
  have noB : ∀ b, ¬ aQ [Ob.sl ty false true []] G' b := fun b ⟨o, ob, ho, ha, _⟩ => by rw [one ho] at ha; exact dead ha
  refine ⟨_, .own 0, [.sl ty false true []], I', G', e1, q, ⟨fun o ob ho => by rw [one ho]; rfl, fun o o' ob ob' ho ha => by rw [one ho] at ha; exact (dead ha).elim, fun o ob ho ha => by rw [one ho] at ha; exact (dead ha).elim, e3.cl⟩, .ownNil 0 ty false [] rfl, ?_, by simp, fun o ob' ho => by simp at ho⟩;have t := e5.t
  exact ⟨t.os, t.tape, t.output, t.size, t.keep, t.i1, t.i2, fun b hb => (noB b hb).elim, t.frz, t.drawn⟩⟩
theorem zc4 (nl fl : Bool) (es : List (List PV)) (hn : nl = true -> es = []) (ha : iJ true [] es 1 4) : ACall qa 47 [.pv (.sl nl fl es)] [] fun r h' => r = .own 0 /\ h' = [.sl (21, 1) false nl es] := by
 refine ACall.nilOwn (ty := (21, 1)) (Q := fun r h' => (nl = true /\ r = .pv (.sl true true []) /\ h' = []) ∨ (nl = false /\ r = .own 0 /\ h' = [.sl (21, 1) false nl es])) (zwg nl fl es ?_) ?_
 ·unfold zlc;cases nl with
  | true => exact .inl ⟨rfl, rfl, rfl⟩
  | false => exact ⟨ha, .inr ⟨rfl, rfl, by simp⟩⟩
 ·rintro r h' (⟨rfl, rfl, rfl⟩ | ⟨rfl, rfl, rfl⟩)
  ·rw [hn rfl]; exact .inr ⟨true, rfl, rfl, rfl, rfl⟩
  ·exact .inl ⟨rfl, rfl⟩
theorem wU {P : Program} {n0 N : Nat} {c : Code} {e E : Env} {h Hh : Hp} (hS : CodeS P n0 N c e h fun x e' h' => x = .normal /\ e' = E /\ h' = Hh) {w : World} {I : Nat -> Prop} {G : Nat -> Pl} {a : Act} (hs : SRel w I G e h N a) {Q : Exit -> Act -> World -> Prop}
 (hq : ∀ w' I' G' a', SRel w' I' G' E Hh N a' -> a'.defers = a.defers -> TrN n0 w I G h w' I' G' Hh -> Q .normal a' w') : c.wp P Q a w :=
 hS w I G a Q hs fun x e' h' w' I' G' a' hk hs' hd ht => by obtain ⟨rfl, rfl, rfl⟩ := hk; exact hq w' I' G' a' hs' hd ht
section
variable {nl fl : Bool} {ts : List PV} {es : List (List PV)}
theorem eB0 (Q : Qt) : cY qa (fun _ => none) 0 22 [1, 2, 4] (fun _ => none) (cO0 Tryz.f82) (fG [.pv (.ptr ts), .pv (.sl nl fl es)] 0) [] Q = Q .normal [(1, .pv (.sl nl fl es)), (2, .box 0 0), (4, .pv (.sl true true []))] [.box [.pv (.ptr ts)]] := by kernel_rfl
theorem eB1 (Q : Qt) : cY qa zas 0 22 [2, 5] (fun _ => none) (cO1 Tryz.f82) [(1, .pv (.sl nl fl es)), (2, .box 0 0)] [.box [.pv (.ptr ts)]] Q =
 ACall qa 47 [.pv (.sl nl fl es)] [] fun (r : LV) (h' : Hp) => ∃ (_ : Unit), (r = .own 0 /\ h' = [.sl (21, 1) false nl es]) /\ True /\ Q .normal [(2, .box 0 0), (5, .box 2 0)] [.box [.pv (.ptr ts)], .sl (21, 1) false nl es, .box [.own 1]] := by kernel_rfl
theorem eB2 (Q : Qt) : cY qa zas 0 22 [2, 5, 12] (fun _ => none) (cO2 Tryz.f82) [(2, .box 0 0), (5, .box 2 0)] [.box [.pv (.ptr ts)], .sl (21, 1) false nl es, .box [.own 1]] Q =
 ACall qa 109 [.pv (.ptr ts), .own 0] [.sl (21, 1) false nl es] fun (r : LV) (h' : Hp) => ∃ (_ : Unit), (r = .fn 132 [.box 2 0, .box 1 0] /\ h' = [.sl (21, 1) false nl es, .box [.pv (.ptr ts)], .box [.own 0]]) /\
  ((((21, 1) : Nat × Nat) = (21, 1) /\ nl = nl /\ es.length = es.length) /\ True) /\ Q .normal [(2, .box 0 0), (5, .box 2 0), (12, .fn 132 [.box 4 0, .box 3 0])] (aO nl (.ptr ts) es) := by kernel_rfl
theorem eB6 (Q : Qt) : cY qa (fun _ => none) 5 22 [4] (fun _ => none) (cO6 Tryz.f82) [(2, .box 0 0), (5, .box 2 0)] (aO nl (.ptr ts) es) Q = Q .normal [(4, .own 1)] (aO nl (.ptr ts) es) := by kernel_rfl
theorem zc5 : cM Tryz.f82 = .seq (cO0 Tryz.f82) (.seq (cO1 Tryz.f82) (.seq (.seq (cO2 Tryz.f82) (.block 0 (dI Tryz.f82))) (.seq (cO6 Tryz.f82) .ret))) /\ Tryz.f82.body = some (cM Tryz.f82) /\ Tryz.f82.ntmps = 22 /\
 Tryz.f132.body = some (cM Tryz.f132) /\ Tryz.f132.ntmps = 39 /\ Tryz.f82.results = #[.tmp 4] /\ Tryz.f132.results = #[] /\ Tryz.f82.body.isNone = false /\ (Tryz.f82.name == "runtime.NumGoroutine") = false /\ Tryz.f132.body.isNone = false /\ (Tryz.f132.name == "runtime.NumGoroutine") = false :=
 ⟨by kernel_rfl, by kernel_rfl, by kernel_rfl, by kernel_rfl, by kernel_rfl, by kernel_rfl, by kernel_rfl, by kernel_rfl, by kernel_rfl, by kernel_rfl, by kernel_rfl⟩
variable {key : Int -> Int}
theorem Tr.alloc0 {w : World} {I own : Nat -> Prop} (o : Obj) : Tr w I own (w.alloc o) I own :=
 ⟨rfl, rfl, rfl, by simp, fun b hb _ => dL w o hb, fun _ h => h, fun _ h => .inl h, fun _ h => .inl h, fun a ha => World.frozen?_of_block (dL w o ha), qk _⟩
theorem KA.alloc0 (w : World) (o : Obj) : KA w (w.alloc o) := ⟨by simp, fun b hb => dL w o hb⟩
theorem zwj (hk : ∀ x, 0 <= key x) (hT : ∀ r : Int, (-2147483648 <= r /\ r <= 2147483647) -> PCall qa 71 [.ptr ts, .int .i32 r] fun v => v = .int .i64 (key r)) (hc : kX (.ptr ts) key) (L : List Int) (hr : R32 L) (hL : L.length < 1000000000000)
 {w3 : World} {I3 : Nat -> Prop} {G3 : Nat -> Pl} {a3 : Act} {v12 : LV} (hs3 : SRel w3 I3 G3 [(2, .box 0 0), (5, .box 2 0), (12, v12)] (aO nl (.ptr ts) (aA L)) 22 a3) (rec : Loop) (r1 : rec.state = .ready) (r2 : rec.pending = none) (r3 : rec.tmps = a3.tmps) (r4 : rec.params = #[13, 14])
 (r5 : rec.assign = iU (dI Tryz.f82)) (r6 : rec.body = iV (dI Tryz.f82)) (vs : Array Value) (hvsz : vs.size = 2) (hvs : ∀ (k : Nat) v, [LV.box 4 0, LV.box 3 0][k]? = some v -> LRel w3 I3 G3 (aO nl (.ptr ts) (aA L)) v (vs.getD k undef)) :
 Calls qa 132 (#[Value.func (.yield (w3.heap.size + 1)) #[] #[]] ++ vs) ((w3.alloc (.deferred (some []))).alloc (.loop rec)) fun e w4 => (∃ v, e = .returned v) /\ ∃ I4 G4, HRel w4 I4 G4 (aO nl (.ptr ts) (aA (c6 key L))) /\
  ZR w3 I3 G3 (aO nl (.ptr ts) (aA L)) (w3.heap.size + 1) w3.heap.size rec w4 I4 G4 (aO nl (.ptr ts) (aA (c6 key L))) := by
 obtain ⟨k1, k2, k3, k4, k5, k6, k7, k8, k9, k10, k11⟩ := zc5;obtain ⟨W1, hW1⟩ : ∃ W1, W1 = (w3.alloc (.deferred (some []))).alloc (.loop rec) := ⟨_, rfl⟩;rw [<- hW1];have tA : Tr w3 I3 (aQ (aO nl (.ptr ts) (aA L)) G3) W1 I3 (aQ (aO nl (.ptr ts) (aA L)) G3) := by rw [hW1]; exact (Tr.alloc0 _).trans (Tr.alloc0 _)
 have ka : KA w3 W1 := by rw [hW1]; exact (KA.alloc0 _ _).trans (KA.alloc0 _ _)
 have hl1 : W1.heap[w3.heap.size + 1]? = some (.loop rec) := by rw [hW1]; have := World.alloc_heap_new (w3.alloc (.deferred (some []))) (.loop rec); rwa [World.size_alloc] at this
 have hD1 : W1.heap[w3.heap.size]? = some (.deferred (some [])) := by rw [hW1]; exact (dL _ _ (by simp)).trans (World.alloc_heap_new w3 _)
 have z1 : ZR w3 I3 G3 (aO nl (.ptr ts) (aA L)) (w3.heap.size + 1) w3.heap.size rec W1 I3 G3 (aO nl (.ptr ts) (aA L)) := ⟨(TrH.same tA).toN, hl1, hD1, fun h => by have := hs3.hh.cl _ h; omega, fun h => by have := hs3.hh.cl _ h; omega⟩;have hRd := zwf hc hs3 rec r1 r2 r3 r4 r5 r6;have hwalk := zwe hk hT (fun w I G h w' I' G' h' z hh _ t => z.step hh t) L hRd hr hL
 have hsW : SRel W1 I3 G3 (fG [.pv (.raw (Value.func (.yield (w3.heap.size + 1)) #[] #[])), .box 4 0, .box 3 0] 0) (aO nl (.ptr ts) (aA L)) 39 { tmps := (#[Value.func (.yield (w3.heap.size + 1)) #[] #[]] ++ vs) ++ qan (39 - (#[Value.func (.yield (w3.heap.size + 1)) #[] #[]] ++ vs).size) undef, defers := [] } := by
  obtain ⟨y, hy⟩ : ∃ y, y = Value.func (.yield (w3.heap.size + 1)) #[] #[] := ⟨_, rfl⟩;rw [<- hy]
  obtain ⟨x0, x1, rfl⟩ : ∃ x0 x1, vs = #[x0, x1] := by
   obtain ⟨l⟩ := vs
   match l, hvsz with
   | [a, b], _ => exact ⟨a, b, rfl⟩
  have hk : Keeps w3 I3 W1 I3 := ⟨fun b _ hb => ka.2 b hb, fun b hb _ => hb⟩;have h1 := (hvs 0 _ rfl).mono hk (.refl _ _);have h2 := (hvs 1 _ rfl).mono hk (.refl _ _);have e0 : ∀ r : Array Value, (#[y] ++ #[x0, x1] ++ r).getD 0 undef = y := fun r => by rw [qo, qab (by simp)]; rfl
  have e1 : ∀ r : Array Value, (#[y] ++ #[x0, x1] ++ r).getD 1 undef = x0 := fun r => by rw [qo, qab (by simp)]; rfl
  have e2 : ∀ r : Array Value, (#[y] ++ #[x0, x1] ++ r).getD 2 undef = x1 := fun r => by rw [qo, qab (by simp)]; rfl
  refine ⟨hs3.hh.ka ka, ?_, by simp⟩
  have he : ERel W1 I3 G3 (aO nl (.ptr ts) (aA L)) [(0, .pv (.raw y)), (1, .box 4 0), (2, .box 3 0)] (#[y] ++ #[x0, x1] ++ qan (39 - (#[y] ++ #[x0, x1]).size) undef) :=
   ((ERel.nil _ _ _ _ _).cons (s := 2) (v := .box 3 0) (by rw [e2]; exact h2)).cons (s := 1) (v := .box 4 0) (by rw [e1]; exact h1) |>.cons (s := 0) (v := .pv (.raw y)) (by rw [e0]; exact .pv _ _ (.raw _))
  exact he
 refine calls_of_wp Tryz.func132 k4 ?_;rw [k5];refine hwalk W1 I3 G3 _ _ hsW z1 ?_;rintro x e' _ w4 I4 G4 a4 ⟨rfl, rfl⟩ hs4 hd4 z4;exact ⟨hd4, _, results_none k7 _ _ _, ⟨_, rfl⟩, I4, G4, hs4.hh, z4⟩
theorem zwk (hk : ∀ x, 0 <= key x) (L : List Int) {w w3 w4 : World} {I I3 I4 : Nat -> Prop} {G G3 G4 : Nat -> Pl} {a3 : Act} {v12 : LV} (hs3 : SRel w3 I3 G3 [(2, .box 0 0), (5, .box 2 0), (12, v12)] (aO nl (.ptr ts) (aA L)) 22 a3) (hd30 : a3.defers = []) {rec : Loop}
 (ht3 : Tr w I (aQ [] G) w3 I3 (aQ (aO nl (.ptr ts) (aA L)) G3)) (hh4 : HRel w4 I4 G4 (aO nl (.ptr ts) (aA (c6 key L)))) (z4 : ZR w3 I3 G3 (aO nl (.ptr ts) (aA L)) (w3.heap.size + 1) w3.heap.size rec w4 I4 G4 (aO nl (.ptr ts) (aA (c6 key L)))) :
 (Code.seq (cO6 Tryz.f82) .ret).wp qa (bodyPostM Fence.wide 0 qa Tryz.f82 fun e w' => ∃ cv r h' I' G', e = .returned cv /\ (r = .own 0 /\ h' = [.sl (21, 1) false nl (aA (c6 key L))]) /\ HRel w' I' G' h' /\ LRel w' I' G' h' r cv /\ TrH w I G [] w' I' G' h')
  { tmps := a3.tmps, defers := [{ target := .collected w3.heap.size, args := #[] }] ++ a3.defers } (w4.putObj (w3.heap.size + 1) (.loop { rec with state := .exhausted })) := by
 obtain ⟨k1, k2, k3, k4, k5, k6, k7, k8, k9, k10, k11⟩ := zc5;have hll := (sU (key := key) hk L).len;have n4 := mB hh4 z4.hl rfl;have l4 := (Array.getElem?_eq_some_iff.1 z4.hl).1
 have z5 : ZR w3 I3 G3 (aO nl (.ptr ts) (aA L)) (w3.heap.size + 1) w3.heap.size { rec with state := .exhausted } (w4.putObj (w3.heap.size + 1) (.loop { rec with state := .exhausted })) I4 G4 (aO nl (.ptr ts) (aA (c6 key L))) :=
  ⟨z4.t.off (by omega) _, World.putObj_heap_same l4, (World.putObj_heap_other (by omega)).trans z4.hD, z4.nl, z4.nD⟩
 have hs5 : SRel (w4.putObj (w3.heap.size + 1) (.loop { rec with state := .exhausted })) I4 G4 [(2, .box 0 0), (5, .box 2 0)] (aO nl (.ptr ts) (aA (c6 key L))) 22 { tmps := a3.tmps, defers := [{ target := .collected w3.heap.size, args := #[] }] ++ a3.defers } :=
  ⟨hh4.off _ z4.nl n4, fun i v hi => ((hs3.he.mono (tF hs3.hh z4.t.t) (zc3 (by simp [hll]) (wT z4.t))).mono (Keeps.off z4.nl _) (.refl _ _)) i v ((LeE.le (e' := [(2, .box 0 0), (5, .box 2 0)]) ⟨rfl, rfl, trivial⟩) i v hi), hs3.hn⟩
 refine wp_seq (wU (E := [(4, .own 1)]) (Hh := aO nl (.ptr ts) (aA (c6 key L))) (d9 (Eq.mpr (eB6 _) ⟨rfl, rfl, rfl⟩)) hs5 fun w6 I6 G6 a6 hs6 hd6 ht6 => ?_);have z6 := z5.step hs5.hh ht6;refine wp_ret ?_;show LeavesInM Fence.wide 0 qa _ a6.tmps _ a6.defers .returning w6;rw [hd6, hd30];refine ⟨by simp, .inl ⟨_, _, rfl, run_takeDeferred z6.hD, ?_⟩⟩;refine ⟨_, results_tmp k6 _ _ _, ?_⟩;have hh7 := hs6.hh.off (.deferred none) z6.nD (mB hs6.hh z6.hD rfl);have hv7 : LRel (w6.putObj w3.heap.size (.deferred none)) I6 G6 (aO nl (.ptr ts) (aA (c6 key L))) (.own 1) (a6.tmps.getD 4 undef) := LRel.mono (hs6.he 4 _ rfl) (Keeps.off z6.nD (.deferred none)) (.refl _ _);have hs7 : SRel (w6.putObj w3.heap.size (.deferred none)) I6 G6 [(4, .own 1)] (aO nl (.ptr ts) (aA (c6 key L))) 22 a6 := ⟨hh7, (ERel.nil _ _ _ _ _).cons (s := 4) (v := .own 1) hv7, hs6.hn⟩;obtain ⟨s1, s2⟩ := hs7.sub [1] [] rfl;have g2 := LRel.mapV (r7 (os := [1])) (Keeps.refl _ _) hv7;have ht := (ht3.trans z6.t.t).off (l := w3.heap.size) ht3.size (.deferred none);exact ⟨_, .own 0, _, I6, _, rfl, ⟨rfl, rfl⟩, s1.hh, g2, ⟨ht.trans (Tr.less s2), qaf _, fun o ob ho => by simp at ho⟩⟩
theorem zwl (hk : ∀ x, 0 <= key x) (hT : ∀ r : Int, (-2147483648 <= r /\ r <= 2147483647) -> PCall qa 71 [.ptr ts, .int .i32 r] fun v => v = .int .i64 (key r)) (hc : kX (.ptr ts) key) (L : List Int) (hr : R32 L) (hL : L.length < 1000000000000) :
 ACall qa 82 [.pv (.ptr ts), .pv (.sl nl fl (aA L))] [] fun r h' => r = .own 0 /\ h' = [.sl (21, 1) false nl (aA (c6 key L))] := by
 obtain ⟨k1, k2, k3, k4, k5, k6, k7, k8, k9, k10, k11⟩ := zc5;refine ⟨⟨_, Tryz.func82, k8, k9⟩, fun w I G cargs hh hsz hrel => ?_⟩;simp only [qe, qad, qaa] at hsz
 have hn : nl = true -> L = [] := fun hn => by
  subst hn;have h1 := hrel 1 _ rfl;generalize cargs.getD 1 undef = c1 at h1;cases h1 with
  | pv _ _ h1 =>
    generalize hes : aA L = es at h1;cases h1 with
    | slnil => exact List.map_eq_nil_iff.1 hes
 refine (callsIn_wide (n := 0)).1 (callsIn_of_wp_marks Tryz.func82 k2 trivial (wpIn_wide.2 ?_));rw [k3]
 have hs : SRel w I G (fG [.pv (.ptr ts), .pv (.sl nl fl (aA L))] 0) [] 22 { tmps := cargs ++ qan (22 - cargs.size) undef, defers := [] } := by
  refine ⟨hh, fun i v hi => ?_, by simp; omega⟩;obtain ⟨_, h2⟩ := pY hi;rw [Nat.sub_zero] at h2;have hlt : i < cargs.size := by have := (List.getElem?_eq_some_iff.1 h2).1; simp at this; omega
  have := hrel i v h2
  have e1 : (cargs ++ qan (22 - cargs.size) undef).getD i undef = cargs.getD i undef := by
   rw [qo, qo, qab hlt]
  simp only [e1];exact VRel.of_plain this
 rw [k1]
 -- what begins it
 refine wp_seq (wU (E := [(1, .pv (.sl nl fl (aA L))), (2, .box 0 0), (4, .pv (.sl true true []))]) (Hh := [.box [.pv (.ptr ts)]]) (d9 (Eq.mpr (eB0 _) ⟨rfl, rfl, rfl⟩)) hs fun w1 I1 G1 a1 hs1 hd1 ht1 => ?_);have hs1' := hs1.le (LeE.le (e' := [(1, .pv (.sl nl fl (aA L))), (2, .box 0 0)]) ⟨rfl, rfl, trivial⟩);refine wp_seq (wU (E := [(2, .box 0 0), (5, .box 2 0)]) (Hh := [.box [.pv (.ptr ts)], .sl (21, 1) false nl (aA L), .box [.own 1]]) (d9 (Eq.mpr (eB1 _) ((zc4 nl fl (aA L) (fun h => by rw [hn h]; rfl) ?_).mono fun r h' hq => ⟨(), hq, trivial, rfl, rfl, rfl⟩))) hs1' fun w2 I2 G2 a2 hs2 hd2 ht2 => ?_)
 ·exact ⟨rfl, .inl rfl, fun e he => (by cases he), fun e he => by obtain ⟨x, _, rfl⟩ := List.mem_map.1 (List.mem_of_mem_head? he); rfl, by simp; omega⟩
 refine wp_seq (wp_seq (wU (E := [(2, .box 0 0), (5, .box 2 0), (12, .fn 132 [.box 4 0, .box 3 0])]) (Hh := aO nl (.ptr ts) (aA L)) (d9 (Eq.mpr (eB2 _) (zwi nl ts (aA L) ?_))) hs2 fun w3 I3 G3 a3 hs3 hd3 ht3 => ?_))
 ·exact ⟨(), ⟨rfl, rfl⟩, ⟨⟨rfl, rfl, rfl⟩, trivial⟩, rfl, rfl, rfl⟩
 -- the loop
 have hd30 : a3.defers = [] := hd3.trans (hd2.trans hd1);obtain ⟨q1, q2, q3, _, _, _⟩ := zlb;refine wp_block ?_;rw [q3]
 obtain ⟨vs, hv12, hvsz, hvs⟩ : ∃ vs : Array Value, a3.tmps.getD 12 undef = .func (.func 132) #[] vs /\ vs.size = 2 /\ ∀ (k : Nat) v, [LV.box 4 0, LV.box 3 0][k]? = some v -> LRel w3 I3 G3 (aO nl (.ptr ts) (aA L)) v (vs.getD k undef) := by
  have := hs3.he 12 _ rfl;generalize a3.tmps.getD 12 undef = cv at this;cases this with
  | fn f cs vs h1 h6 => exact ⟨vs, rfl, h1, h6⟩
 refine (wpIn_wide (n := 0)).1 (wpIn_rangeFunc (F := Fence.wide) fun fn _ => ?_);obtain ⟨rec, hrec⟩ : ∃ rec : Loop, rec = { state := .ready, pending := none, fn := fn, tmps := a3.tmps, params := #[13, 14], assign := iU (dI Tryz.f82), body := iV (dI Tryz.f82), defers := w3.heap.size } := ⟨_, rfl⟩
 refine ⟨w3.heap.size + 1, [{ target := .collected w3.heap.size, args := #[] }], (w3.alloc (.deferred (some []))).alloc (.loop rec), { target := .fn (.func 132) vs, args := #[.func (.yield (w3.heap.size + 1)) #[] #[]] }, (w3.alloc (.deferred (some []))).alloc (.loop rec), 132,
  #[.func (.yield (w3.heap.size + 1)) #[] #[]] ++ vs, (w3.alloc (.deferred (some []))).alloc (.loop rec), ?_, ?_, fun _ _ => trivial, ?_, fun x => (by cases x), ?_⟩
 ·rw [hrec]; exact run_enterLoop_outer _ _ _ _ _
 ·have he : a3.eval (.tmp 12) = .func (.func 132) #[] vs := hv12;simp only [resolve, he];simp [go_sem]
 ·simp only [invoke];exact xZ ⟨_, Tryz.func132, k10, k11⟩
 refine (callsIn_wide).2 (Calls.mono (zwj hk hT hc L hr hL hs3 rec (by rw [hrec]) (by rw [hrec]) (by rw [hrec]) (by rw [hrec]) (by rw [hrec]) (by rw [hrec]) vs hvsz hvs) ?_);rintro e w4 ⟨⟨v, rfl⟩, I4, G4, hh4, z4⟩;have hp : rec.pending = none := by rw [hrec]
 refine ⟨none, _, (run_endLoop z4.hl (by rw [hrec]; simp)).trans (congrArg (fun j => Result.ok j _) hp), ?_⟩;exact zwk hk L hs3 hd30 ((ht1.t.trans ht2.t).trans ht3.t) hh4 z4
end
end Go.Eng
namespace Go.Eng
open Go Go.Proofs Go.Eng.Rows
def iZ (nl : Bool) (E : LL) : Hp := [.sl (89, 3) true nl E, .dead]
section
variable {E C : LL} {nn fl nl : Bool} {k n : Int}
theorem zwm (K : Env -> Hp -> Prop) : aW qa (fun _ => none) 49 (qI Tryz.f37).toList (qI Tryz.f37).toList (gQ nn fl C k) (iZ nl E) K = K ((6, .pv (.sl true true [])) :: gQ nn fl C k) (iZ nl E) := by kernel_rfl
theorem zwn (K : Env -> Hp -> Prop) : aW qa (fun _ => none) 49 (qJ Tryz.f37).toList (qJ Tryz.f37).toList (gQ nn fl C k) (iZ nl E) K =
 K ((7, .pv (.int .i64 (i64.wrap ((E.length : Int) - 1)))) :: (10, .pv (.int .i64 (i64.wrap ((E.length : Int) - 1)))) :: (9, .pv (.int .i64 (E.length : Int))) :: (8, .own 0) :: gQ nn fl C k) (iZ nl E) := by kernel_rfl
theorem zwo (K : Env -> Hp -> Prop) : aW qa (fun _ => none) 49 (qK Tryz.f37).toList (qK Tryz.f37).toList (gT nn fl C k n) (iZ nl E) K =
 if decide (n >= 0) = true then aF E n 3 /\ ∃ n1 : Int, (qc 0 (E.getD n.toNat [])).head? = some (.int .i64 n1) /\
  K ((21, .pv (.bool (n1 == k))) :: (20, .spec 13 true (.pv (.bool (n1 == k)))) :: (19, .spec 13 true (.pv (.int .i64 k))) :: (18, .pv (.int .i64 n1)) :: (13, .pv (.bool true)) :: (17, .elt 0 n.toNat 0) :: (13, .pv (.bool true)) :: (16, .elt 0 n.toNat 0) :: (13, .pv (.bool true)) ::
   (15, .spec 13 true (.pv (.int .i64 n))) :: (14, .spec 13 true (.own 0)) :: (13, .pv (.bool (decide (n >= 0)))) :: (12, .pv (.bool (decide (n >= 0)))) :: (11, .pv (.int .i64 n)) :: gT nn fl C k n) (iZ nl E)
 else K ((21, .pv (.bool false)) :: (20, .pv .unit) :: (13, .pv (.bool false)) :: (19, .spec 13 true (.pv (.int .i64 k))) :: (18, .pv .unit) :: (13, .pv (.bool false)) :: (17, .pv .unit) :: (13, .pv (.bool false)) :: (16, .pv .unit) :: (13, .pv (.bool false)) ::
  (15, .spec 13 true (.pv (.int .i64 n))) :: (14, .spec 13 true (.own 0)) :: (13, .pv (.bool (decide (n >= 0)))) :: (12, .pv (.bool (decide (n >= 0)))) :: (11, .pv (.int .i64 n)) :: gT nn fl C k n) (iZ nl E) := by kernel_rfl
theorem zwp (K : Env -> Hp -> Prop) : aW qa zas 49 (oK Tryz.f37).toList (((oK Tryz.f37).toList.drop 0).take 4) (gQ nn fl C k) (iZ nl E) K =
 ACall qa 47 [.pv (.sl nn fl C)] [] fun r h' => ∃ _ : Unit, (r = .own 0 /\ h' = [.sl (21, 1) false nn C]) /\ True /\
  K ((45, .own 2) :: (44, .pv (.sl nn fl C)) :: (43, .pv (.int .i64 k)) :: (42, .own 0) :: gQ nn fl C k) [.sl (89, 3) true nl E, .dead, .sl (21, 1) false nn C] := by kernel_rfl
def jT (m nl : Bool) (E C : LL) : Hp := [.sl (89, 3) m nl E, .dead, .sl (21, 1) false false C]
theorem zwq (ad : Addr) (l c : Nat) (K : Env -> Hp -> Prop) : aW qa (fun _ => none) 49 (oK Tryz.f37).toList (((oK Tryz.f37).toList.drop 4).take 4) [(45, .pv (.raw (.slice (some ad) l c))), (42, .own 0), (43, .pv (.int .i64 k))] (jT true nl E C) K =
 ((aR [[.int .i64 k, .int .i64 1, .raw (.slice (some ad) l c)]] 3 /\ (E.length + 1) * 40 <= 140737488355328) /\
   K [(6, .own 0), (48, .own 0), (47, .pv (.sl false true [[.int .i64 k, .int .i64 1, .raw (.slice (some ad) l c)]])), (46, .pv (.agg [.int .i64 k, .int .i64 1, .raw (.slice (some ad) l c)])), (45, .pv (.raw (.slice (some ad) l c))), (42, .bot), (43, .pv (.int .i64 k))]
    (jT true (nl && false) (E ++ [[.int .i64 k, .int .i64 1, .raw (.slice (some ad) l c)]]) C)) := by kernel_rfl
theorem zld : (oK Tryz.f37).size = 8 /\ Tryz.f37.results.toList = [.tmp 6] /\ nL qa 37 :=
 ⟨by kernel_rfl, by kernel_rfl, ⟨Tryz.f37, Tryz.func37, by kernel_rfl, by kernel_rfl⟩⟩
end
theorem zwr {w : World} {I : Nat -> Prop} {nn fl : Bool} {es : LL} {cv : Value} (h : Rep w I (.sl nn fl es) cv) (hne : es ≠ []) : nn = false := by
 cases h <;> first | rfl | exact absurd rfl hne
theorem zws {w : World} {I : Nat -> Prop} {G : Nat -> Pl} {S : List DStep} {x v : Value} (r : l5 89 21 S x v w I G) : ∃ I2 nl, (nl = true -> S = []) /\ HRel w I2 G (iZ nl (S.map encDS)) /\ LRel w I2 G (iZ nl (S.map encDS)) (.own 0) v /\ TrH w I G (eZ 89 21 S x) w I2 G (iZ nl (S.map encDS)) := by
 rcases kV S with rfl | ⟨S, s, rfl⟩
 ·exact ⟨I, true, fun _ => rfl, r.hh, r.hv, .refl _ _ _ _⟩
 ·obtain ⟨I2, g1, g2, g3⟩ := zib r;refine ⟨I2, false, (fun h => by cases h), ?_⟩;rw [qu];exact ⟨g1, g2, g3⟩
theorem zwt {w : World} {I : Nat -> Prop} {G : Nat -> Pl} {nl : Bool} {E C : LL} (hh : HRel w I G (jT true nl E C)) : ∃ G', HRel w I G' [.sl (89, 3) true nl E, .sl (21, 1) true false C] /\ (∀ v, LRel w I G (jT true nl E C) (.own 0) v -> LRel w I G' [.sl (89, 3) true nl E, .sl (21, 1) true false C] (.own 0) v) /\
 (∀ v, LRel w I G (jT true nl E C) (.own 2) v -> LRel w I G' [.sl (89, 3) true nl E, .sl (21, 1) true false C] (.own 1) v) /\ ∀ b, aQ [.sl (89, 3) true nl E, .sl (21, 1) true false C] G' b -> aQ (jT true nl E C) G b := by
 refine ⟨fun k => match k with | 0 => G 0 | _ => G 2, ⟨fun i x hx => ?_, fun i j x y hx ax hy ay hb => ?_, fun i x hx ax => ?_, hh.cl⟩, fun v hv => ?_, fun v hv => ?_, ?_⟩
 ·match i, hx with
  | 0, hx => cases hx; have := hh.obs 0 _ rfl; cases nl <;> exact this
  | 1, hx => cases hx; exact hh.obs 2 _ rfl
 ·match i, hx, j, hy with
  | 0, hx, 0, hy => rfl
  | 1, hx, 1, hy => rfl
  | 0, hx, 1, hy => cases hx; cases hy; exact absurd (hh.sep 0 2 _ _ rfl ax rfl ay hb) (by decide)
  | 1, hx, 0, hy => cases hx; cases hy; exact absurd (hh.sep 2 0 _ _ rfl ax rfl ay hb) (by decide)
 ·match i, hx with
  | 0, hx => cases hx; exact hh.nI 0 _ rfl ax
  | 1, hx => cases hx; exact hh.nI 2 _ rfl ax
 ·cases hv with
  | ownNil _ _ _ _ g1 => cases g1; exact .ownNil 0 _ _ _ rfl
  | own _ _ _ es ad g0 g1 => cases g1; exact .own 0 _ _ _ ad g0 rfl
 ·cases hv with
  | ownNil _ _ _ _ g1 => cases g1
  | own _ _ _ es ad g0 g1 => cases g1; exact .own 1 _ _ _ ad g0 rfl
 ·rintro b ⟨o, ob, h1, h2, h3⟩
  match o, h1 with
  | 0, h1 => cases h1; exact ⟨0, _, rfl, h2, h3⟩
  | 1, h1 => cases h1; exact ⟨2, _, rfl, h2, h3⟩
theorem zle (S : List DStep) (x v cv : Value) (k : Int) (c : List Int) (nn fl : Bool) {w : World} {I : Nat -> Prop} {G : Nat -> Pl} (r : l5 89 21 S x v w I G) (hc : Rep w I (.sl nn fl (aA c)) cv) (hne : c ≠ []) (hcl : c.length < 1000000000) (hS : S.length < 1000000000)
 (hk : ∀ S' s, S = S' ++ [s] -> s.kind ≠ k) :
 Calls qa 37 #[v, .int .i64 k, cv] w fun e w' => ∃ v' x' I' G', e = .returned v' /\ l5 89 21 (S ++ [⟨k, 1, c⟩]) x' v' w' I' G' /\ TrH w I G (eZ 89 21 S x) w' I' G' (eZ 89 21 (S ++ [⟨k, 1, c⟩]) x') := by
 obtain ⟨I0, nl, hnl, hh, hv, t0⟩ := zws r;have hnn : nn = false := zwr hc (by cases c with | nil => exact absurd rfl hne | cons => simp [aA])
 subst hnn;have hc : Rep w I0 (.sl false fl (aA c)) cv := hc.mono (fun _ _ _ => rfl) (fun b hb _ => t0.t.i1 b hb);obtain ⟨q0, q1, q2, q3, q4, q5, q6⟩ := zie;obtain ⟨z1, z2, z3⟩ := zld;refine zV (args := [.own 0, .pv (.int .i64 k), .pv (.sl false fl (aA c))]) Tryz.func37 zid (qax (by kernel_rfl)) hh rfl (fun i u hi => ?_) fun a Qx hs hd hq => ?_
 ·match i, hi with
  | 0, hi => cases hi; exact hv
  | 1, hi => cases hi; exact .pv _ _ (.int _ _)
  | 2, hi => cases hi; exact .pv _ _ hc
 have hs : SRel w I0 G (gQ false fl (aA c) k) (iZ nl (S.map encDS)) 49 a := hs;refine wp_seq (mX q0 (by rw [zwm]; exact ⟨rfl, rfl⟩ : aW qa (fun _ => none) 49 _ _ _ _ (fun e' h' => e' = _ /\ h' = _)) hs ?_);rintro _ _ w1 I1 G1 a1 ⟨rfl, rfl⟩ hs1 hd1 ht1;refine wp_seq (wp_seq (mX q1 (by rw [zwn, qe]; exact ⟨rfl, rfl⟩ : aW qa (fun _ => none) 49 _ _ _ _ (fun e' h' => e' = _ /\ h' = _)) (hs1.le (e' := gQ false fl (aA c) k) (LeE.le ⟨rfl, rfl, rfl, trivial⟩)) ?_));rintro _ _ w2 I2 G2 a2 ⟨rfl, rfl⟩ hs2 hd2 ht2;have hw : i64.wrap ((S.length : Int) - 1) = (S.length : Int) - 1 := aC (by omega) (by omega);rw [hw] at hs2;have hs2 := hs2.le (e' := gT false fl (aA c) k ((S.length : Int) - 1)) (LeE.le ⟨rfl, rfl, rfl, rfl, trivial⟩)
 refine wp_seq (mX q2 (K := fun e' h' => ∃ e0, e' = (21, .pv (.bool false)) :: e0 /\ LeE (gT false fl (aA c) k ((S.length : Int) - 1)) e' /\ h' = iZ nl (S.map encDS)) (by
  rw [zwo];rcases kV S with rfl | ⟨S', s, rfl⟩
  ·rw [if_neg (by simp)];exact ⟨_, rfl, ⟨rfl, rfl, rfl, rfl, trivial⟩, rfl⟩
  ·have hl : ((S' ++ [s]).length : Int) - 1 = (S'.length : Nat) := by simp
   rw [hl, if_pos (by simp), qd, qu];have hg := wC (S'.map encDS) (encDS s) [];rw [qe] at hg;refine ⟨zau _ _ _ (by simp) rfl, s.kind, by show (qc 0 ((S'.map encDS ++ [encDS s]).getD S'.length [])).head? = _; rw [hg]; rfl, ?_⟩;have hb : (s.kind == k) = false := by simpa using hk S' s rfl
   rw [hb]
   exact ⟨_, rfl, ⟨rfl, rfl, rfl, rfl, trivial⟩, rfl⟩) hs2 ?_)
 rintro _ _ w3 I3 G3 a3 ⟨e0, rfl, le0, rfl⟩ hs3 hd3 ht3;refine wp_cond (show a3.eval (.tmp 21) = .bool false from (hs3.he 21 _ rfl).bool_eq) ?_;have hs3 := (hs3.le le0.le).le (e' := gQ false fl (aA c) k) (LeE.le ⟨rfl, rfl, rfl, trivial⟩);refine wp_skip ?_;have t3 := ((t0.trans ht1).trans ht2).trans ht3
 refine wp_seq (sL (Φ := fun a' w' => ∃ x' I' G', SRel w' I' G' [(6, .own 0)] (jT true false (S.map encDS ++ [bL ⟨k, 1, c⟩ x']) (aA c)) 49 a' /\ LRel w' I' G' (jT true false (S.map encDS ++ [bL ⟨k, 1, c⟩ x']) (aA c)) (.own 2) x' /\ a'.defers = [] /\
  Tr w I (aQ (eZ 89 21 S x) G) w' I' (aQ (jT true false (S.map encDS ++ [bL ⟨k, 1, c⟩ x']) (aA c)) G')) ?_ ?_)
 ·refine OpsN.step q6 4 (by rw [z1]; omega) (K := fun e' h' => LeE [(45, .own 2), (42, .own 0), (43, .pv (.int .i64 k))] e' /\ h' = jT true nl (S.map encDS) (aA c)) (by
   rw [zwp];refine (zc4 false fl (aA c) (fun h => by cases h) ?_).mono ?_
   ·show iJ true [] (aA c) 1 4;exact ⟨rfl, .inl rfl, fun e he => (by cases he), mN (enc := fun n => [.int .i32 n]) (fun _ => rfl) c, by rw [zav, qaa]; omega⟩
   ·rintro r h' ⟨rfl, rfl⟩
    exact ⟨(), ⟨rfl, rfl⟩, trivial, ⟨rfl, rfl, rfl, trivial⟩, rfl⟩) hs3 ?_
  rintro e4 _ w4 I4 G4 a4 ⟨le4, rfl⟩ hs4 hd4 ht4;have hs4 := hs4.le le4.le;have hx4 : LRel w4 I4 G4 (jT true nl (S.map encDS) (aA c)) (.own 2) (a4.tmps.getD 45 undef) := hs4.he 45 _ rfl;obtain ⟨ad, l, c0, ex⟩ := zic hx4 rfl;rw [ex] at hx4;have hs5 := (hs4.view (d := 45) (v := .pv (.raw (.slice (some ad) l c0))) (by rw [ex]; exact .pv _ _ (.raw _))).le (e' := [(45, .pv (.raw (.slice (some ad) l c0))), (42, .own 0), (43, .pv (.int .i64 k))]) (LeE.le ⟨rfl, rfl, rfl, trivial⟩)
  refine OpsN.step (k := 0 + 4) q6 4 (by rw [z1]; omega) (K := fun e' h' => LeE [(6, .own 0)] e' /\ h' = jT true false (S.map encDS ++ [bL ⟨k, 1, c⟩ (.slice (some ad) l c0)]) (aA c)) (by
   rw [zwq];refine ⟨⟨fun e he => by cases he; rfl, by rw [qe]; omega⟩, ⟨rfl, trivial⟩, ?_⟩
   rw [qbt]; rfl) hs5 ?_
  rintro e6 _ w6 I6 G6 a6 ⟨le6, rfl⟩ hs6 hd6 ht6;refine OpsN.last (by rw [z1]; omega) ⟨_, I6, G6, hs6.le le6.le, mY hx4 rfl rfl rfl ht6, ?_, ((t3.trans ht4).trans ht6).t⟩;rw [hd6, hd4, hd3, hd2, hd1, hd]
 rintro a8 w8 ⟨x', I8, G8, hs8, hx8, hd8, t8⟩;obtain ⟨u, hu, cv', g1, g2⟩ := pX (P := qa) (fn := Tryz.f37) (K := fun u => u = .own 0) hs8.hh hs8.he (by rw [z2]; exact rfl);subst hu;obtain ⟨G9, p1, p2, p3, p4⟩ := zwt hs8.hh;refine wp_ret ((hq a8 w8 hd8 ⟨cv', g1, cv', x', I8, G9, rfl, ⟨?_, ?_, fun _ => ?_⟩, ⟨?_, ?_, fun o ob' ho h1 h2 => ?_⟩⟩).2)
 ·rw [jO]; exact p1
 ·rw [jO]; exact p2 _ g2
 ·rw [jO]; exact p3 _ hx8
 ·rw [jO]; exact t8.trans (Tr.less p4)
 ·rw [jO];rcases kV S with rfl | ⟨S', s, rfl⟩
  ·exact qk _
  ·rw [jO]; exact qk _
 ·rw [jO] at h1
  match o, h1 with
  | 0, h1 => cases h1; cases h2
  | 1, h1 => cases h1; cases h2
theorem zc6 : zaq qa 37 89 21 := by
 refine ⟨zld.2.2, fun w I G S x v cv k c nn fl r hc hne hcl hk hS hb => ?_⟩;rcases kV S with rfl | ⟨S', s, rfl⟩
 ·exact zle [] x v cv k c nn fl r hc hne hcl hS (fun S' s h => by simp at h)
 ·rw [qG];by_cases e : s.kind = k
  ·subst e;rw [if_pos rfl];exact zsz S' s x v cv c nn fl r hc hcl (by simp at hS; omega) (hb s (by simp))
  ·rw [if_neg e]
   exact zle (S' ++ [s]) x v cv k c nn fl r hc hne hcl hS (fun S'' s' h => by
    have := List.append_inj' h rfl;have h2 : s = s' := by simpa using this.2
    rw [<- h2]; exact e)
end Go.Eng
namespace Go.Eng
open Go Go.Eng.Rows
section
variable {H : Nat -> Option HSpec} {tS tr : Nat} {w0 : World} {I0 : Nat -> Prop} {P : Program} {N : Nat}
theorem CodeY.regAdd {f : Nat} (ha : zaq P f tS tr) {ops : Array Oper} {id : Nat} (hd : dG ops.toList = true) {kc : Nat} {o : Oper} (ho : ops[kc]? = some o) (hg : o.guard = none) {d : Nat} (hdst : o.dst = some d) (hdN : d < N) {c : Call} (hop : o.op = .call c) (hcal : c.callee = .value (.func f))
 {x0 x2 : Operand} {kk : Int} (hargs : c.args = #[x0, .const (.int .i64 kk), x2]) (hk : 0 <= kk /\ kk < 3) {s : List DStep × Value} (hS : s.1.length < 1000000000) (hb : ∀ d ∈ s.1, 0 <= d.n /\ d.n < 1000000000000 /\ d.text.length < 1000000000000) {e : Env} {h : Hp} {Q : List DStep × Value -> Qt}
 (hpre : aW P H N ops.toList ((ops.toList.drop 0).take kc) e h fun e1 h1 => aY [] e1 x0 = some (.pv (.raw s.2)) /\ ∃ nn fl c, aY [] e1 x2 = some (.pv (.sl nn fl (aA c))) /\ c ≠ [] /\ c.length < 1000000000 /\
  ∀ v', aW P H N ops.toList ((ops.toList.drop (kc + 1)).take (ops.size - (kc + 1))) (set e1 d (.pv (.raw v'))) h1 fun e2 h2 => Q (dH s.1 (kk, c), v') .normal e2 h2) :
 CodeY (OutZ tS tr w0 I0) P N (.region id ops false) s e h Q := by
 intro w I G a Qx hs hz hq;have hlt : kc < ops.size := (Array.getElem?_eq_some_iff.1 ho).1;refine sL (Φ := fun a' w' => ∃ s' e' h' I' G', Q s' .normal e' h' /\ SRel w' I' G' e' h' N a' /\ a'.defers = a.defers /\ OutZ tS tr w0 I0 s' w' I' G' h') ?_ (fun a' w' ⟨s', e', h', I', G', q1, q2, q3, q4⟩ => hq s' .normal e' h' w' I' G' a' q1 q2 q3 q4);refine OpsN.step hd kc (by omega) hpre hs ?_;rintro e1 h1 w1 I1 G1 a1 ⟨p0, nn, fl, cc, p2, hne, hcl, hpost⟩ hs1 hd1 ht1;have hz1 := OutZ.stab _ _ _ _ _ _ _ _ _ hz hs.hh hs1.hh (ht1.toN (n0 := 0))
 have v0 : a1.eval x0 = s.2 := by
  have := aN hs1.he (AOK.nil _) p0;generalize a1.eval x0 = u at this ⊢;cases this with | pv _ _ h => cases h; rfl
 have v2 : Rep w1 I1 (.sl nn fl (aA cc)) (a1.eval x2) := by
  have := aN hs1.he (AOK.nil _) p2;cases this with | pv _ _ h => exact h
 have hrun := uO (P := P) (w := w1) hop hcal (a := a1) (f := f) (cc := #[]) rfl ha.1;rw [hargs] at hrun
 have e3 : (#[x0, Operand.const (.int .i64 kk), x2].map a1.eval ++ #[] : Array Value) = #[s.2, .int .i64 kk, a1.eval x2] := by
  rw [<- v0]; simp [Act.eval]
 rw [e3] at hrun;rw [Nat.zero_add];refine OpsN.call (R := fun cv w' => ∃ I', HRel w' I' G1 h1 /\ Keeps w1 I1 w' I' /\ OutZ tS tr w0 I0 (dH s.1 (kk, cc), cv) w' I' G1 h1) ho hg hrun ((OutZ.call ha hz1 hs1.hh v2 hne hcl hk hS hb).mono fun e w' ⟨v', I', q1, q2, q3, q4⟩ => ⟨v', q1, I', q2, q3, q4⟩) ?_;rintro cv w2 ⟨I2, g1, g2, g3⟩;obtain ⟨hs2, hd2⟩ := kN (o := o) (v := .pv (.raw cv)) (N := N) (by unfold iM; rw [hdst]; simp [hdN]) hs1.hn g1 (hs1.he.mono g2 (.refl _ _)) (.pv _ _ (.raw cv));have hput : put o (.pv (.raw cv)) e1 = set e1 d (.pv (.raw cv)) := by unfold put; rw [hdst]
 rw [hput] at hs2;refine OpsN.step hd (ops.size - (kc + 1)) (by omega) (hpost cv) hs2 ?_;rintro e3 h3 w3 I3 G3 a3 hQ hs3 hd3 ht3;refine OpsN.last (by omega) ⟨_, e3, h3, I3, G3, hQ, hs3, ?_, OutZ.stab _ _ _ _ _ _ _ _ _ g3 g1 hs3.hh (ht3.toN (n0 := 0))⟩;rw [hd3, hd2, hd1]
theorem CodeY.region {id : Nat} {ops : Array Oper} {s : List DStep × Value} {e : Env} {h : Hp} {Q : List DStep × Value -> Qt} (hK : aW P H N ops.toList ops.toList e h (fun e h => Q s .normal e h)) (hd : dG ops.toList = true) : CodeY (OutZ tS tr w0 I0) P N (.region id ops false) s e h Q := by
 intro w I G a Qx hs hz hq;refine sL (Φ := fun a' w' => ∃ e' h' I' G', Q s .normal e' h' /\ SRel w' I' G' e' h' N a' /\ a'.defers = a.defers /\ OutZ tS tr w0 I0 s w' I' G' h') ?_ (fun a' w' ⟨e', h', I', G', q1, q2, q3, q4⟩ => hq s .normal e' h' w' I' G' a' q1 q2 q3 q4);refine OpsN.step hd ops.size (by omega) (K := fun e h => Q s .normal e h) (by rw [qbu, qh (by simp)]; exact hK) hs fun e' h' w' I' G' a' k1 k2 k3 k4 => OpsN.last (by omega) ⟨e', h', I', G', k1, k2, k3, OutZ.stab _ _ _ _ _ _ _ _ _ hz hs.hh k2.hh (k4.toN (n0 := 0))⟩
theorem CodeY.nilRaw {c : Code} {s : List DStep × Value} {e : Env} {h : Hp} {Q : List DStep × Value -> Qt} {d : Nat} {fl : Bool} (hg : get e d = some (.pv (.sl true fl []))) (hK : CodeY (OutZ tS tr w0 I0) P N c s ((d, .pv (.raw (.slice none 0 0))) :: e) h Q) : CodeY (OutZ tS tr w0 I0) P N c s e h Q := by
 intro w I G a Qx hs hz hq;have hv : LRel w I G h (.pv (.sl true fl [])) (a.tmps.getD d undef) := hs.he d _ hg;refine hK w I G a Qx (hs.view (d := d) ?_) hz hq;generalize a.tmps.getD d undef = u at hv ⊢;cases hv with
 | pv _ _ h =>
   cases h;exact .pv _ _ (.raw _)
def wV (v : LV) (p : PV) : Prop := v = .pv p ∨ ∃ ps : List PV, v = .tup (ps.map .pv) /\ p = .tup ps
theorem zwu {w : World} {I : Nat -> Prop} {G : Nat -> Pl} {h : Hp} {v : LV} {cv : Value} {p : PV} (hr : LRel w I G h v cv) (hp : wV v p) : Rep w I p cv := by
 rcases hp with rfl | ⟨ps, rfl, rfl⟩
 ·cases hr; assumption
 ·cases hr with
  | tup _ vs h1 h6 =>
    refine .tup ps vs (by simpa using h1) fun k u hk => ?_
    have := h6 k (.pv u) (by rw [qbj, hk]; rfl);generalize vs.getD k undef = y at this ⊢;cases this; assumption
def zlf (P : Program) (rs : List ResultVar) (R : PV -> Prop) (s : List DStep × Value) (e : Env) (h : Hp) : Prop :=
 gJ P e h rs (j5 fun v => ∃ p, wV v p /\ R p) ∨ (get e 6 = some (.pv (.raw s.2)) /\ ∀ nl, (nl = true -> s.1 = []) -> gJ P ((6, .pv (.sl nl false (s.1.map encDS))) :: e) h rs (j5 fun v => ∃ p, wV v p /\ R p))
theorem PCall.ofY {f : Nat} {fn : Func} {c : Code} {ps : List PV} {R : PV -> Prop} (hf : P.funcs[f]? = some fn) (hb : fn.body = some c) (hn : (fn.name == "runtime.NumGoroutine") = false) (hl : (ps.map LV.pv).length <= fn.ntmps)
 (hC : ∀ w0 I0, CodeY (OutZ tS tr w0 I0) P fn.ntmps c ([], .slice none 0 0) (fG (ps.map .pv) 0) [] fun s x e h => match x with | .exit _ => False | _ => zlf P fn.results.toList R s e h) : PCall P f ps R := by
 refine ⟨⟨fn, hf, by rw [hb]; rfl, hn⟩, fun w I G cargs hh hsz hrel => ?_⟩;refine zV hf hb hl hh hsz hrel fun a Qx hs hd hq => ?_;have noOwn : ∀ b, ¬ aQ [] G b := fun b ⟨o, ob, h1, _⟩ => by simp at h1
 have hz : OutZ tS tr w I ([], .slice none 0 0) w I G [] := by
  refine ⟨⟨rfl, rfl, rfl, qk _, fun _ _ _ => rfl, fun _ h => h, fun _ h => .inl h, fun b hb => (noOwn b hb).elim, fun _ _ => rfl, qk _⟩, .slice none 0 0, fun _ => ⟨0, 0, 0, 0⟩, ?_, ?_⟩
  ·have dead : ∀ (o : Nat) ob, (eZ tS tr [] (.slice none 0 0))[o]? = some ob -> ¬ ob.alive ⟨0, 0, 0, 0⟩ := fun o ob ho ha => by
    match o, ho with
    | 0, ho => cases ho; cases ha.1
    | 1, ho => cases ho; exact ha
   refine ⟨⟨fun o ob ho => ?_, fun o o' ob ob' ho ha => (dead o ob ho ha).elim, fun o ob ho ha => (dead o ob ho ha).elim, hh.cl⟩, .ownNil 0 _ _ _ rfl, fun h => absurd rfl h⟩
   match o, ho with
   | 0, ho => cases ho; rfl
   | 1, ho => cases ho; trivial
  ·rintro b ⟨o, ob, ho, ha, _⟩
   match o, ho with
   | 0, ho => cases ho; cases ha.1
   | 1, ho => cases ho; exact ha.elim
 refine hC w I w I G a Qx hs hz fun s x e' h' w' I' G' a' hk hs' hd' hz' => ?_
 have fin : zlf P fn.results.toList R s e' h' -> ∃ cv, (results fn a'.tmps).run P w' = .ok cv w' /\ ∃ cv' r h2 I2 G2, Ending.returned cv = .returned cv' /\ (∃ v, r = .pv v /\ R v) /\ HRel w' I2 G2 h2 /\ LRel w' I2 G2 h2 r cv' /\ TrH w I G [] w' I2 G2 h2 := by
  have done : ∀ {e2 : Env} {I2 : Nat -> Prop}, SRel w' I2 G' e2 h' fn.ntmps a' -> Tr w I (fun _ => False) w' I2 (aQ h' G') -> gJ P e2 h' fn.results.toList (j5 fun v => ∃ p, wV v p /\ R p) -> ∃ cv, (results fn a'.tmps).run P w' = .ok cv w' /\ ∃ cv' r h2 I2 G2, Ending.returned cv = .returned cv' /\ (∃ v, r = .pv v /\ R v) /\ HRel w' I2 G2 h2 /\ LRel w' I2 G2 h2 r cv' /\ TrH w I G [] w' I2 G2 h2 := fun {e2 I2} hs2 t hr => by
   obtain ⟨v, ⟨p, hvp, hp⟩, cv, g1, g2⟩ := pX (P := P) hs2.hh hs2.he hr;refine ⟨cv, g1, cv, .pv p, [], I2, G', rfl, ⟨p, rfl, hp⟩, HRel.nil _ hs2.hh.cl, ?_, ⟨⟨t.os, t.tape, t.output, t.size, fun b hb _ => t.keep b hb (fun x => x), t.i1, fun b hb => (t.i2 b hb).elim .inl fun x => x.elim False.elim fun x => .inr (.inr x), fun b ⟨o, ob, h1, _⟩ => by simp at h1, t.frz, t.drawn⟩, qaf _, fun o ob' ho => by simp at ho⟩⟩;exact .pv _ _ (zwu g2 hvp)
  rintro (hr | ⟨h6, hr⟩)
  ·exact done hs' hz'.1 hr
  ·obtain ⟨I2, nl, q1, q2, q3, q4, q5⟩ := hz'.tree hs'.hh
   have h6v : a'.tmps.getD 6 undef = s.2 := by
    have : LRel w' I' G' h' (.pv (.raw s.2)) (a'.tmps.getD 6 undef) := hs'.he 6 _ h6;generalize a'.tmps.getD 6 undef = u at this ⊢;cases this with | pv _ _ h => cases h; rfl
   have hs2 : SRel w' I2 G' e' h' fn.ntmps a' := ⟨q3, hs'.he.mono q4 (.refl _ _), hs'.hn⟩;exact done (hs2.view (d := 6) (v := .pv (.sl nl false (s.1.map encDS))) (by rw [h6v]; exact .pv _ _ q2)) q5 (hr nl q1)
 cases x with
 | exit n => exact hk.elim
 | normal => exact (hq a' w' (hd'.trans hd) (fin hk)).1
 | ret => exact (hq a' w' (hd'.trans hd) (fin hk)).2
end
end Go.Eng
namespace Go.Eng
open Go Go.Proofs
section
variable (na fa : Bool) (xa : LL) (nb fb : Bool) (xb : LL) (nl fl : Bool) (ls : LL) (i k : Int)
def zlg (R : PV -> Prop) : Prop :=
 ∃ n f es, some (PV.sl nb fb xb) = some (PV.sl n f es) /\ R (Z6 (i64.wrap (i64.wrap (i * i64.wrap ((↑es.length : Int) + 1)) + k)))
theorem zwv {R : PV -> Prop} (h : zlg nb fb xb i k R) : PCall qa 38 [.ptr [.sl na fa xa, .sl nb fb xb, .sl nl fl ls], .int .i64 i, .int .i64 k] R :=
 PCall.wz Tryz.func38 aP [0, 1, 2, 6] bF h
end
def zc7 (na fa : Bool) (xa : LL) (nb fb : Bool) (xb : LL) (x2 : Int) (n_1 : Bool) (s_1 : LL) : Env × Hp := ([(0, LV.box 0 0), (2, Y6 x2)], [.box [LV.pv (PV.sl na fa xa), LV.pv (PV.sl nb fb xb), LV.own 1], .sl (3, 1) true n_1 s_1])
def zc8 (na fa : Bool) (xa : LL) (nb fb : Bool) (xb : LL) (x2 x3 : Int) (n_1 : Bool) (s_1 : LL) : Env × Hp := ([(0, LV.box 0 0), (2, Y6 x2), (3, Y6 x3)], [.box [LV.pv (PV.sl na fa xa), LV.pv (PV.sl nb fb xb), LV.own 1], .sl (3, 1) true n_1 s_1])
section
variable (na fa : Bool) (xa : LL) (nb fb : Bool) (xb : LL) (J : Int -> Bool -> LL -> Prop) (μ : Int -> Bool -> LL -> Nat) (J2 : Int -> Int -> Bool -> LL -> Int -> Int -> Bool -> LL -> Prop) (μ2 : Int -> Int -> Bool -> LL -> Nat)
def zlh (R : LV -> Hp -> Prop) : Prop :=
 ((0 : Int) <= i64.wrap (i64.wrap ((↑xa.length : Int) + 1) * i64.wrap ((↑xb.length : Int) + 1)) /\ i64.wrap (i64.wrap ((↑xa.length : Int) + 1) * i64.wrap ((↑xb.length : Int) + 1)) <= i64.wrap (i64.wrap ((↑xa.length : Int) + 1) * i64.wrap ((↑xb.length : Int) + 1)) /\ (↑8 : Int) * i64.wrap (i64.wrap ((↑xa.length : Int) + 1) * i64.wrap ((↑xb.length : Int) + 1)) <= 281474976710656 /\ i64.wrap (i64.wrap ((↑xa.length : Int) + 1) * i64.wrap ((↑xb.length : Int) + 1)) <= 9223372036854775807) /\ (aH (zc7 na fa xa nb fb xb (i64.wrap ((↑xa.length : Int) - 1)) false (qao (i64.wrap (i64.wrap ((↑xa.length : Int) + 1) * i64.wrap ((↑xb.length : Int) + 1))).toNat [Z6 0])) /\ J (i64.wrap ((↑xa.length : Int) - 1)) false (qao (i64.wrap (i64.wrap ((↑xa.length : Int) + 1) * i64.wrap ((↑xb.length : Int) + 1))).toNat [Z6 0])) /\ ∀ (x2 : Int) (n_1 : Bool) (s_1 : LL), J x2 n_1 s_1 -> if decide (x2 >= 0) = true then (aH (zc8 na fa xa nb fb xb x2 (i64.wrap ((↑xb.length : Int) - 1)) n_1 s_1) /\ J2 x2 (i64.wrap ((↑xb.length : Int) - 1)) n_1 s_1 x2 (i64.wrap ((↑xb.length : Int) - 1)) n_1 s_1) /\ ∀ (x21 x3 : Int) (n_11 : Bool) (s_11 : LL), J2 x2 (i64.wrap ((↑xb.length : Int) - 1)) n_1 s_1 x21 x3 n_11 s_11 ->
 let K5 := fun (y0_ y1_ : Int) (y2_ : Bool) (y3_ : LL) => aH (zc8 na fa xa nb fb xb y0_ y1_ y2_ y3_) /\ J2 x2 (i64.wrap ((↑xb.length : Int) - 1)) n_1 s_1 y0_ y1_ y2_ y3_ /\ μ2 y0_ y1_ y2_ y3_ < μ2 x21 x3 n_11 s_11; if decide (x3 >= 0) = true then aF xa x21 1 /\ ∃ n f es, (xa.getD x21.toNat []).head? = some (PV.sl n f es) /\ aF xb x3 1 /\ ∃ n1 f1 es1, (xb.getD x3.toNat []).head? = some (PV.sl n1 f1 es1) /\ PCall qa 36 [PV.sl n f es, PV.sl n1 f1 es1] fun v => ∃ b, v = Zb b /\ if b = true then PCall qa 38 [PV.ptr [PV.sl na fa xa, PV.sl nb fb xb, PV.sl n_11 false s_11], Z6 x21, Z6 x3] fun v1 => ∃ n2, v1 = Z6 n2 /\ true = true /\ PCall qa 38 [PV.ptr [PV.sl na fa xa, PV.sl nb fb xb, PV.sl n_11 false s_11], Z6 (i64.wrap (x21 + 1)), Z6 (i64.wrap (x3 + 1))] fun v2 => ∃ n3, v2 = Z6 n3 /\ true = true /\ aF s_11 n3 1 /\ ∃ n4, (qc 0 (s_11.getD n3.toNat [])).head? = some (Z6 n4) /\ aF s_11 n2 1 /\ (1 = 1 /\ 1 <= (s_11.getD n2.toNat []).length) /\ K5 x21 (i64.wrap (x3 - 1)) n_11 (s_11.set n2.toNat (Z6 (i64.wrap (n4 + 1)) :: (qc 1 (s_11.getD n2.toNat [])))) else PCall qa 38 [PV.ptr [PV.sl na fa xa, PV.sl nb fb xb, PV.sl n_11 false s_11], Z6 x21, Z6 x3] fun v1 => ∃ n2, v1 = Z6 n2 /\ true = true /\ PCall qa 38 [PV.ptr [PV.sl na fa xa, PV.sl nb fb xb, PV.sl n_11 false s_11], Z6 (i64.wrap (x21 + 1)), Z6 x3] fun v2 => ∃ n3, v2 = Z6 n3 /\ true = true /\ aF s_11 n3 1 /\ ∃ n4, (qc 0 (s_11.getD n3.toNat [])).head? = some (Z6 n4) /\ PCall qa 38 [PV.ptr [PV.sl na fa xa, PV.sl nb fb xb, PV.sl n_11 false s_11], Z6 x21, Z6 (i64.wrap (x3 + 1))] fun v3 => ∃ n5, v3 = Z6 n5 /\ true = true /\ aF s_11 n5 1 /\ ∃ n6, (qc 0 (s_11.getD n5.toNat [])).head? = some (Z6 n6) /\ aF s_11 n2 1 /\ (1 = 1 /\ 1 <= (s_11.getD n2.toNat []).length) /\ K5 x21 (i64.wrap (x3 - 1)) n_11 (s_11.set n2.toNat (Z6 (if n4 < n6 then n6 else n4) :: (qc 1 (s_11.getD n2.toNat [])))) else aH (zc7 na fa xa nb fb xb (i64.wrap (x21 - 1)) n_11 s_11) /\ J (i64.wrap (x21 - 1)) n_11 s_11 /\ μ (i64.wrap (x21 - 1)) n_11 s_11 < μ x2 n_1 s_1 else R (LV.tup []) [Ob.box [LV.pv (PV.sl na fa xa), LV.pv (PV.sl nb fb xb), LV.own 1], Ob.sl (3, 1) true n_1 s_1]
theorem zww {R : LV -> Hp -> Prop} (h : zlh na fa xa nb fb xb J μ J2 μ2 R) : ACall qa 35 [.box 0 0] [.box [.pv (.sl na fa xa), .pv (.sl nb fb xb), .pv (.sl true true [])]] R :=
 ACall.wz Tryz.func35 aP [0, 2, 3, 28, 38, 55] (iN [(2, (bP eC (zc7 na fa xa nb fb xb) J μ (fun e h => (gI e 2, oN h 1, oS h 1)) [] [0, 2] [])), (5, (iB jL (zc8 na fa xa nb fb xb) J2 μ2 (fun e h => (gI e 2, gI e 3, oN h 1, oS h 1)) [] [0, 2, 3] []))]) [0, 1] h
end
def zc9 (n f : Bool) (es : LL) (x3 x8 : Int) : Env × Hp := ([(3, Y6 x3), (6, LV.pv (PV.sl n f es)), (7, LV.pv (PV.int i64 (es.length : Int))), (8, Y6 x8)], [])
section
variable (n f : Bool) (es : LL) (J : Int -> Int -> Prop) (μ : Int -> Int -> Nat)
def zli (R : PV -> Prop) : Prop :=
 (aH (zc9 n f es (0 : Int) (0 : Int)) /\ J (0 : Int) (0 : Int)) /\ ∀ (x3 x8 : Int), J x3 x8 ->
 let K3 := fun (y0_ y1_ : Int) => aH (zc9 n f es y0_ y1_) /\ J y0_ y1_ /\ μ y0_ y1_ < μ x3 x8; if decide (x8 < (↑es.length : Int)) = true then aF es x8 3 /\ ∃ n1, (es.getD x8.toNat []).head? = some (Z6 n1) /\ ∃ n2, (es.getD x8.toNat []).tail.head? = some (Z6 n2) /\ ∃ n3 f1 es1, (es.getD x8.toNat []).tail.tail.head? = some (PV.sl n3 f1 es1) /\ if (n1 != 0) = true then K3 (i64.wrap (x3 + n2)) (i64.wrap (x8 + 1)) else K3 x3 (i64.wrap (x8 + 1)) else R (Z6 x3)
theorem zwx {R : PV -> Prop} (h : zli n f es J μ R) : PCall qa 15 [.sl n f es] R :=
 PCall.wz Tryz.func15 aP [0, 2, 3, 5, 6, 7, 8, 9, 14] (c9 3 (bP jK (zc9 n f es) J μ (fun e h => (gI e 3, gI e 8)) [] [3, 6, 7, 8] [])) h
end
def wW (n f : Bool) (es : LL) (x8 : Int) (n_0 : Bool) (s_0 : LL) : Env × Hp := ([(3, LV.own 0), (6, LV.pv (PV.sl n f es)), (7, LV.pv (PV.int i64 (es.length : Int))), (8, Y6 x8)], [.sl (89, 3) true n_0 s_0])
section
variable (n f : Bool) (es : LL) (J : Int -> Bool -> LL -> Prop) (μ : Int -> Bool -> LL -> Nat)
def zlj (R : PV -> Prop) : Prop :=
 (aH (wW n f es (0 : Int) true []) /\ J (0 : Int) true []) /\ ∀ (x8 : Int) (n_0 : Bool) (s_0 : LL), J x8 n_0 s_0 ->
 let K3 := fun (y0_ : Int) (y1_ : Bool) (y2_ : LL) => aH (wW n f es y0_ y1_ y2_) /\ J y0_ y1_ y2_ /\ μ y0_ y1_ y2_ < μ x8 n_0 s_0; if decide (x8 < (↑es.length : Int)) = true then aF es x8 3 /\ ∃ n1, (es.getD x8.toNat []).head?
  = some (Z6 n1) /\ ∃ n2, (es.getD x8.toNat []).tail.head? = some (Z6 n2) /\ ∃ n3 f1 es1, (es.getD x8.toNat []).tail.tail.head? = some (PV.sl n3 f1 es1) /\
 let V1 := PCall qa 47 [PV.sl n3 f1 es1] fun v => ∃ n4 f2 es2, v = PV.sl n4 f2 es2 /\ (aR [[Z6 (i64.wrap ((3 : Int) - n1)), Z6 n2, PV.sl n4 f2 es2]] 3 /\ (s_0.length + 1) * 40 <=
  140737488355328) /\ K3 (i64.wrap (x8 + 1)) (n_0 && false) (s_0 ++ [[Z6 (i64.wrap ((3 : Int) - n1)), Z6 n2, PV.sl n4 f2 es2]]); if (n1 == 1) = true then V1 else if (n1 == 2) = true then V1 else PCall qa 47 [PV.sl n3
  f1 es1] fun v => ∃ n4 f2 es2, v = PV.sl n4 f2 es2 /\ (aR [[Z6 n1, Z6 n2, PV.sl n4 f2 es2]] 3 /\ (s_0.length + 1) * 40 <= 140737488355328) /\ K3 (i64.wrap (x8 + 1)) (n_0 && false) (s_0 ++ [[Z6
  n1, Z6 n2, PV.sl n4 f2 es2]]) else R (PV.sl n_0 false s_0)
theorem zwy {R : PV -> Prop} (h : zlj n f es J μ R) : PCall qa 17 [.sl n f es] R :=
 PCall.wz Tryz.func17 aP [0, 2, 3, 5, 6, 7, 8, 9, 19] (c9 3 (bP eC (wW n f es) J μ (fun e h => (gI e 8, oN h 0, oS h 0)) [(3, 89, 3)] [3, 6, 7, 8] [])) h
end
section
variable (n f : Bool) (es : LL) (n2 f2 : Bool) (ss : LL)
def zlk (R : PV -> Prop) : Prop :=
 PCall qa 24 [PV.sl n f es, PV.sl n2 f2 ss] fun v => ∃ n1 f1 es1, v = PV.sl n1 f1 es1 /\ PCall qa 46 [PV.sl n f es, PV.sl n1 f1 es1] fun v1 => ∃ n3 f3 es2, v1 = PV.sl n3 f3 es2 /\ R (PV.sl n3 f3 es2)
theorem zwz {R : PV -> Prop} (h : zlk n f es n2 f2 ss R) : PCall qa 14 [.sl n f es, .sl n2 f2 ss] R :=
 PCall.wz Tryz.func14 aP [0, 1, 4] bF h
end
def zda (n f : Bool) (es : LL) (n2 f2 : Bool) (ss : LL) (x6 : Int) (n_0 : Bool) (s_0 : LL) : Env × Hp := ([(0, LV.pv (PV.sl n f es)), (1, LV.pv (PV.sl n2 f2 ss)), (5, LV.own 0), (6, Y6 x6)], [.sl (3, 1) true n_0 s_0])
def zdb (n f : Bool) (es : LL) (n2 f2 : Bool) (ss : LL) (n5 f5 : Bool) (s5 : LL) (x7 : Int) : Env × Hp := ([(0, LV.pv (PV.sl n f es)), (1, LV.pv (PV.sl n2 f2 ss)), (5, .pv (.sl n5 f5 s5)), (7, Y6 x7)], [])
def oX (n f : Bool) (es : LL) (n2 f2 : Bool) (ss : LL) (n5 f5 : Bool) (s5 : LL) (x7 x9 : Int) (n_0 : Bool) (s_0 : LL) : Env × Hp := ([(0, LV.pv (PV.sl n f es)), (1, LV.pv (PV.sl n2 f2 ss)), (5, .pv (.sl n5 f5 s5)), (7, Y6 x7), (8, LV.own 0), (9, Y6 x9)], [.sl (3, 1) true n_0 s_0])
section
variable (n f : Bool) (es : LL) (n2 f2 : Bool) (ss : LL) (ν : Nat) (J3 : Int -> Bool -> LL -> Prop) (μ3 : Int -> Bool -> LL -> Nat) (J4 : Bool -> Bool -> LL -> Int -> Prop) (μ4 : Bool -> Bool -> LL -> Int -> Nat) (J5 : Bool -> Bool -> LL -> Int -> Int -> Bool -> LL -> Bool -> Bool -> LL -> Int -> Int -> Bool -> LL -> Prop) (μ5 : Bool -> Bool -> LL -> Int -> Int -> Bool -> LL -> Nat)
def zll (R : PV -> Prop) : Prop :=
 (aH (zda n f es n2 f2 ss (0 : Int) true []) /\ J3 (0 : Int) true []) /\ ∀ (x6 : Int) (n_0 : Bool) (s_0 : LL), J3 x6 n_0 s_0 -> if decide (x6 <= (↑ss.length : Int)) = true then (aR [[Z6 0]] 1 /\ (s_0.length + 1) * 8 <= 140737488355328) /\
  aH (zda n f es n2 f2 ss (i64.wrap (x6 + 1)) (n_0 && false) (s_0 ++ [[Z6 0]])) /\ J3 (i64.wrap (x6 + 1)) (n_0 && false) (s_0 ++ [[Z6 0]]) /\ μ3 (i64.wrap (x6 + 1)) (n_0 && false) (s_0 ++ [[Z6 0]]) < μ3 x6 n_0
  s_0 else (aH (zdb n f es n2 f2 ss n_0 false s_0 (0 : Int)) /\ J4 n_0 false s_0 (0 : Int)) /\ ∀ (n5 f5 : Bool) (s5 : LL) (x7 : Int), J4 n5 f5 s5 x7 ->
 let K7 := fun (y0_ y1_ : Bool) (y2_ : LL) (y3_ : Int) => aH (zdb n f es n2 f2 ss y0_ y1_ y2_ y3_) /\ J4 y0_ y1_ y2_ y3_ /\ μ4 y0_ y1_ y2_ y3_ < μ4 n5 f5 s5 x7; if decide (x7 < (↑es.length : Int)) = true then if decide ((0 :
  Int) < (↑ss.length : Int)) = true then aF s5 (i64.wrap ((0 : Int) + 1)) 1 /\ ∃ n1, (s5.getD 1 []).head? = some (Z6 n1) /\ aF [[Z6 0]] (0 : Int) 1 /\ ∃ n3, some (Z6 0) = some (Z6 n3) /\
 let V1 := aF s5 (0 : Int) 1 /\ ∃ n8, (s5.getD 0 []).head? = some (Z6 n8) /\ iJ true [[Z6 0]] [[Z6 (i64.wrap (n8 + 1))]] 1 8 /\ (aH (oX n f es n2 f2 ss n5 f5 s5 x7 (i64.wrap ((0 : Int) + 1)) false [[Z6 0],
  [Z6 (i64.wrap (n8 + 1))]]) /\ J5 n5 f5 s5 x7 (i64.wrap ((0 : Int) + 1)) false [[Z6 0], [Z6 (i64.wrap (n8 + 1))]] n5 f5 s5 x7 (i64.wrap ((0 : Int) + 1)) false [[Z6 0], [Z6 (i64.wrap (n8 + 1))]] /\ μ5
  n5 f5 s5 x7 (i64.wrap ((0 : Int) + 1)) false [[Z6 0], [Z6 (i64.wrap (n8 + 1))]] < ν) /\ ∀ (n51 f51 : Bool) (s51 : LL) (x71 x9 : Int) (n_01 : Bool) (s_01 : LL), J5 n5 f5 s5 x7 (i64.wrap ((0 : Int) + 1)) false [[Z6
  0], [Z6 (i64.wrap (n8 + 1))]] n51 f51 s51 x71 x9 n_01 s_01 ->
 let K11 := fun (y0_ y1_ : Bool) (y2_ : LL) (y3_ y4_ : Int) (y5_ : Bool) (y6_ : LL) => aH (oX n f es n2 f2 ss y0_ y1_ y2_ y3_ y4_ y5_ y6_) /\ J5 n5 f5 s5 x7 (i64.wrap ((0 : Int) + 1)) false [[Z6 0], [Z6
  (i64.wrap (n8 + 1))]] y0_ y1_ y2_ y3_ y4_ y5_ y6_ /\ μ5 y0_ y1_ y2_ y3_ y4_ y5_ y6_ < μ5 n51 f51 s51 x71 x9 n_01 s_01; if decide (x9 < (↑ss.length : Int)) = true then aF s51 (i64.wrap (x9 + 1)) 1 /\ ∃ (n9 : Int),
  (s51.getD (i64.wrap (x9 + 1)).toNat []).head? = some (Z6 n9) /\ aF s_01 x9 1 /\ ∃ n10, (qc 0 (s_01.getD x9.toNat [])).head? = some (Z6 n10) /\
 let V2 := aF s51 x9 1 /\ ∃ n14, (s51.getD x9.toNat []).head? = some (Z6 n14) /\ (aR [[Z6 (i64.wrap (n14 + 1))]] 1 /\ (s_01.length + 1) * 8 <= 140737488355328) /\ K11 n51 f51 s51 x71 (i64.wrap (x9 + 1)) (n_01 &&
  false) (s_01 ++ [[Z6 (i64.wrap (n14 + 1))]]); if decide (n10 > n9) = true then aF s_01 x9 1 /\ ∃ n11, (qc 0 (s_01.getD x9.toNat [])).head? = some (Z6 n11) /\ aF es x71 1 /\ ∃ n12 f4, ∃ (es3
  : LL), (es.getD x71.toNat []).head? = some (PV.sl n12 f4 es3) /\ aF ss x9 1 /\ ∃ n13 f6 es4, (ss.getD x9.toNat []).head? = some (PV.sl n13 f6 es4) /\ PCall qa 21 [PV.sl n12 f4 es3, PV.sl n13 f6 es4]
  fun v1 => ∃ b1, v1 = Zb b1 /\ if b1 = true then V2 else (aR [[Z6 n11]] 1 /\ (s_01.length + 1) * 8 <= 140737488355328) /\ K11 n51 f51 s51 x71 (i64.wrap (x9 + 1)) (n_01 && false) (s_01 ++ [[Z6 n11]]) else aF es x71
  1 /\ ∃ n11 f4 es3, (es.getD x71.toNat []).head? = some (PV.sl n11 f4 es3) /\ aF ss x9 1 /\ ∃ n12 f6 es4, (ss.getD x9.toNat []).head? = some (PV.sl n12 f6 es4) /\ PCall
  qa 21 [PV.sl n11 f4 es3, PV.sl n12 f6 es4] fun v1 => ∃ b1, v1 = Zb b1 /\ if b1 = true then V2 else (aR [[Z6 n9]] 1 /\ (s_01.length + 1) * 8 <= 140737488355328) /\ K11 n51 f51 s51 x71 (i64.wrap (x9 + 1)) (n_01
  && false) (s_01 ++ [[Z6 n9]]) else K7 n_01 false s_01 (i64.wrap (x71 + 1)); if decide (n3 > n1) = true then aF [[Z6 0]] (0 : Int) 1 /\ ∃ n4, some (Z6 0) = some (Z6 n4) /\ aF es x7 1 /\ ∃ n6 f1, ∃
  (es1 : LL), (es.getD x7.toNat []).head? = some (PV.sl n6 f1 es1) /\ aF ss (0 : Int) 1 /\ ∃ n7 f3 es2, (ss.getD 0 []).head? = some (PV.sl n7 f3 es2) /\ PCall qa 21 [PV.sl n6 f1 es1, PV.sl n7 f3 es2]
  fun v => ∃ b, v = Zb b /\ if b = true then V1 else iJ true [[Z6 0]] [[Z6 n4]] 1 8 /\ (aH (oX n f es n2 f2 ss n5 f5 s5 x7 (i64.wrap ((0 : Int) + 1)) false [[Z6 0], [Z6 n4]]) /\ J5 n5 f5 s5 x7 (i64.wrap
  ((0 : Int) + 1)) false [[Z6 0], [Z6 n4]] n5 f5 s5 x7 (i64.wrap ((0 : Int) + 1)) false [[Z6 0], [Z6 n4]] /\ μ5 n5 f5 s5 x7 (i64.wrap ((0 : Int) + 1)) false [[Z6 0], [Z6 n4]] < ν) /\ ∀ (n51 f51 : Bool) (s51 : LL) (x71 x9 :
  Int) (n_01 : Bool) (s_01 : LL), J5 n5 f5 s5 x7 (i64.wrap ((0 : Int) + 1)) false [[Z6 0], [Z6 n4]] n51 f51 s51 x71 x9 n_01 s_01 ->
 let K11 := fun (y0_ y1_ : Bool) (y2_ : LL) (y3_ y4_ : Int) (y5_ : Bool) (y6_ : LL) => aH (oX n f es n2 f2 ss y0_ y1_ y2_ y3_ y4_ y5_ y6_) /\ J5 n5 f5 s5 x7 (i64.wrap ((0 : Int) + 1)) false [[Z6 0], [Z6 n4]]
  y0_ y1_ y2_ y3_ y4_ y5_ y6_ /\ μ5 y0_ y1_ y2_ y3_ y4_ y5_ y6_ < μ5 n51 f51 s51 x71 x9 n_01 s_01; if decide (x9 < (↑ss.length : Int)) = true then aF s51 (i64.wrap (x9 + 1)) 1 /\ ∃ n8, (s51.getD (i64.wrap (x9 +
  1)).toNat []).head? = some (Z6 n8) /\ aF s_01 x9 1 /\ ∃ n9, (qc 0 (s_01.getD x9.toNat [])).head? = some (Z6 n9) /\
 let V3 := aF s51 x9 1 /\ ∃ n13, (s51.getD x9.toNat []).head? = some (Z6 n13) /\ (aR [[Z6 (i64.wrap (n13 + 1))]] 1 /\ (s_01.length + 1) * 8 <= 140737488355328) /\ K11 n51 f51 s51 x71 (i64.wrap (x9 + 1)) (n_01 &&
  false) (s_01 ++ [[Z6 (i64.wrap (n13 + 1))]]); if decide (n9 > n8) = true then aF s_01 x9 1 /\ ∃ n10, (qc 0 (s_01.getD x9.toNat [])).head? = some (Z6 n10) /\ aF es x71 1 /\ ∃ n11 f4, ∃ (es3 :
  LL), (es.getD x71.toNat []).head? = some (PV.sl n11 f4 es3) /\ aF ss x9 1 /\ ∃ n12 f6 es4, (ss.getD x9.toNat []).head? = some (PV.sl n12 f6 es4) /\ PCall qa 21 [PV.sl n11 f4 es3, PV.sl n12 f6 es4]
  fun v1 => ∃ b1, v1 = Zb b1 /\ if b1 = true then V3 else (aR [[Z6 n10]] 1 /\ (s_01.length + 1) * 8 <= 140737488355328) /\ K11 n51 f51 s51 x71 (i64.wrap (x9 + 1)) (n_01 && false) (s_01 ++ [[Z6 n10]]) else aF es x71
  1 /\ ∃ n10 f4 es3, (es.getD x71.toNat []).head? = some (PV.sl n10 f4 es3) /\ aF ss x9 1 /\ ∃ n11 f6 es4, (ss.getD x9.toNat []).head? = some (PV.sl n11 f6 es4) /\ PCall
  qa 21 [PV.sl n10 f4 es3, PV.sl n11 f6 es4] fun v1 => ∃ b1, v1 = Zb b1 /\ if b1 = true then V3 else (aR [[Z6 n8]] 1 /\ (s_01.length + 1) * 8 <= 140737488355328) /\ K11 n51 f51 s51 x71 (i64.wrap (x9 + 1)) (n_01
  && false) (s_01 ++ [[Z6 n8]]) else K7 n_01 false s_01 (i64.wrap (x71 + 1)) else aF es x7 1 /\ ∃ n4 f1 es1, (es.getD x7.toNat []).head? = some (PV.sl n4 f1 es1) /\ aF ss (0 : Int) 1 /\ ∃ (n6 :
  Bool), ∃ f3 es2, (ss.getD 0 []).head? = some (PV.sl n6 f3 es2) /\ PCall qa 21 [PV.sl n4 f1 es1, PV.sl n6 f3 es2] fun v => ∃ b, v = Zb b /\ if b = true then V1 else iJ true [[Z6 0]] [[Z6 n1]] 1 8 /\
  (aH (oX n f es n2 f2 ss n5 f5 s5 x7 (i64.wrap ((0 : Int) + 1)) false [[Z6 0], [Z6 n1]]) /\ J5 n5 f5 s5 x7 (i64.wrap ((0 : Int) + 1)) false [[Z6 0], [Z6 n1]] n5 f5 s5 x7 (i64.wrap ((0 : Int) + 1)) false [[Z6
  0], [Z6 n1]] /\ μ5 n5 f5 s5 x7 (i64.wrap ((0 : Int) + 1)) false [[Z6 0], [Z6 n1]] < ν) /\ ∀ (n51 f51 : Bool) (s51 : LL) (x71 x9 : Int) (n_01 : Bool) (s_01 : LL), J5 n5 f5 s5 x7 (i64.wrap ((0 : Int) + 1)) false [[Z6 0], [Z6
  n1]] n51 f51 s51 x71 x9 n_01 s_01 ->
 let K11 := fun (y0_ y1_ : Bool) (y2_ : LL) (y3_ y4_ : Int) (y5_ : Bool) (y6_ : LL) => aH (oX n f es n2 f2 ss y0_ y1_ y2_ y3_ y4_ y5_ y6_) /\ J5 n5 f5 s5 x7 (i64.wrap ((0 : Int) + 1)) false [[Z6 0], [Z6 n1]]
  y0_ y1_ y2_ y3_ y4_ y5_ y6_ /\ μ5 y0_ y1_ y2_ y3_ y4_ y5_ y6_ < μ5 n51 f51 s51 x71 x9 n_01 s_01; if decide (x9 < (↑ss.length : Int)) = true then aF s51 (i64.wrap (x9 + 1)) 1 /\ ∃ n7, (s51.getD (i64.wrap (x9 +
  1)).toNat []).head? = some (Z6 n7) /\ aF s_01 x9 1 /\ ∃ n8, (qc 0 (s_01.getD x9.toNat [])).head? = some (Z6 n8) /\
 let V4 := aF s51 x9 1 /\ ∃ n12, (s51.getD x9.toNat []).head? = some (Z6 n12) /\ (aR [[Z6 (i64.wrap (n12 + 1))]] 1 /\ (s_01.length + 1) * 8 <= 140737488355328) /\ K11 n51 f51 s51 x71 (i64.wrap (x9 + 1)) (n_01 &&
  false) (s_01 ++ [[Z6 (i64.wrap (n12 + 1))]]); if decide (n8 > n7) = true then aF s_01 x9 1 /\ ∃ n9, (qc 0 (s_01.getD x9.toNat [])).head? = some (Z6 n9) /\ aF es x71 1 /\ ∃ n10 f4, ∃ (es3 :
  LL), (es.getD x71.toNat []).head? = some (PV.sl n10 f4 es3) /\ aF ss x9 1 /\ ∃ n11 f6 es4, (ss.getD x9.toNat []).head? = some (PV.sl n11 f6 es4) /\ PCall qa 21 [PV.sl n10 f4 es3, PV.sl n11 f6 es4]
  fun v1 => ∃ b1, v1 = Zb b1 /\ if b1 = true then V4 else (aR [[Z6 n9]] 1 /\ (s_01.length + 1) * 8 <= 140737488355328) /\ K11 n51 f51 s51 x71 (i64.wrap (x9 + 1)) (n_01 && false) (s_01 ++ [[Z6 n9]]) else aF es x71 1
  /\ ∃ n9 f4 es3, (es.getD x71.toNat []).head? = some (PV.sl n9 f4 es3) /\ aF ss x9 1 /\ ∃ n10 f6 es4, (ss.getD x9.toNat []).head? = some (PV.sl n10 f6 es4) /\ PCall qa 21
  [PV.sl n9 f4 es3, PV.sl n10 f6 es4] fun v1 => ∃ b1, v1 = Zb b1 /\ if b1 = true then V4 else (aR [[Z6 n7]] 1 /\ (s_01.length + 1) * 8 <= 140737488355328) /\ K11 n51 f51 s51 x71 (i64.wrap (x9 + 1)) (n_01 && false)
  (s_01 ++ [[Z6 n7]]) else K7 n_01 false s_01 (i64.wrap (x71 + 1)) else K7 false true [[Z6 0]] (i64.wrap (x7 + 1)) else aF s5 (↑ss.length : Int) 1 /\ ∃ n1, (s5.getD (↑ss.length : Int).toNat []).head? = some (Z6
  n1) /\ R (Z6 n1)
theorem zw0 {R : PV -> Prop} (h : zll n f es n2 f2 ss ν J3 μ3 J4 μ4 J5 μ5 R) : PCall qa 16 [.sl n f es, .sl n2 f2 ss] R :=
 PCall.wz Tryz.func16 aP [0, 1, 4, 5, 6, 7, 8, 9, 10, 14, 23, 30, 43, 56] (fun zz_ => match zz_ with | 3 => some ⟨Int × Bool × LL, fun s => zda n f es n2 f2 ss s.1 s.2.1 s.2.2, fun _ s => J3 s.1 s.2.1 s.2.2, fun s => μ3 s.1 s.2.1 s.2.2, fun e h => (gI e 6, oN h 0, oS h 0), [(5, 3, 1)], [0, 1, 5, 6], [], fun p => ∀ (x6 : Int) (n_0 : Bool) (s_0 : LL), p (x6, n_0, s_0), fun p h s => h s.1 s.2.1 s.2.2⟩ | 7 => some ⟨Bool × Bool × LL × Int, fun s => zdb n f es n2 f2 ss s.1 s.2.1 s.2.2.1 s.2.2.2, fun _ s => J4 s.1 s.2.1 s.2.2.1 s.2.2.2, fun s => μ4 s.1 s.2.1 s.2.2.1 s.2.2.2, fun e h => (gN e 5, gF e 5, gS e 5, gI e 7), [], [0, 1, 5, 7], [], fun p => ∀ (n5 f5 : Bool) (s5 : LL) (x7 : Int), p (n5, f5, s5, x7), fun p h s => h s.1 s.2.1 s.2.2.1 s.2.2.2⟩ | 11 => some ⟨Bool × Bool × LL × Int × Int × Bool × LL, fun s => oX n f es n2 f2 ss s.1 s.2.1 s.2.2.1 s.2.2.2.1 s.2.2.2.2.1 s.2.2.2.2.2.1 s.2.2.2.2.2.2, fun t s => J5 t.1 t.2.1 t.2.2.1 t.2.2.2.1 t.2.2.2.2.1 t.2.2.2.2.2.1 t.2.2.2.2.2.2 s.1 s.2.1 s.2.2.1 s.2.2.2.1 s.2.2.2.2.1 s.2.2.2.2.2.1 s.2.2.2.2.2.2, fun s => μ5 s.1 s.2.1 s.2.2.1 s.2.2.2.1 s.2.2.2.2.1 s.2.2.2.2.2.1 s.2.2.2.2.2.2, fun e h => (gN e 5, gF e 5, gS e 5, gI e 7, gI e 9, oN h 0, oS h 0), [], [0, 1, 5, 7, 8, 9], [], fun p => ∀ (n5 f5 : Bool) (s5 : LL) (x7 x9 : Int) (n_0 : Bool) (s_0 : LL), p (n5, f5, s5, x7, x9, n_0, s_0), fun p h s => h s.1 s.2.1 s.2.2.1 s.2.2.2.1 s.2.2.2.2.1 s.2.2.2.2.2.1 s.2.2.2.2.2.2⟩ | 1000011 => some ⟨Unit, fun _ => ([], []), fun _ _ => True, fun _ => ν, fun _ _ => (), [], [], [], fun p => p (), fun p h _ => h⟩ | 2000007 => some ⟨Unit, fun _ => ([], []), fun _ _ => True, fun _ => 0, fun _ _ => (), [], [5], [], fun p => p (), fun p h _ => h⟩ | _ => none) h
end
def zlm  (R : PV -> Prop) : Prop :=
 PCall qa 8 [] fun v => ∃ n f es, v = PV.sl n f es /\ PCall qa 10 [PV.sl n f es] fun v1 => PCall qa 9 [v1, PV.sl false true [[Z3 97], [Z3 98], [Z3 99]], PV.sl false true [[Z3 97], [Z3 120], [Z3 99]]] fun v2 => ∃ vs, v2 = PV.tup vs /\ vs.length = 2 /\ ∃ x, vs.head? = some x /\ ∃ n1 f1 es1, x = PV.sl n1 f1 es1 /\ ∃ x1, vs.tail.head? = some x1 /\ ∃ n2, x1 = Z6 n2 /\ if (n2 == 0 && (↑es1.length : Int) == 4) = true then aF es1 (0 : Int) 3 /\ ∃ n3, (qc 0 (es1.getD 0 [])).head? = some (Z6 n3) /\ if (n3 == 0) = true then aF es1 (1 : Int) 3 /\ ∃ n4, (qc 0 (es1.getD 1 [])).head? = some (Z6 n4) /\ if (n4 == 1) = true then aF es1 (2 : Int) 3 /\ ∃ n5, (qc 0 (es1.getD 2 [])).head? = some (Z6 n5) /\ if (n5 == 2) = true then PCall qa 15 [PV.sl n1 f1 es1] fun v3 => ∃ n6, v3 = Z6 n6 /\ R (Zb (n6 == 2)) else R (Zb false) else R (Zb false) else R (Zb false) else R (Zb false)
theorem zw1  {R : PV -> Prop} (h : zlm  R) : PCall qa 13 [] R :=
 PCall.wz Tryz.func13 aP [0, 1, 2] bF h

section
variable (n f : Bool) (es : LL) (n2 f2 : Bool) (ss : LL)
def zln (R : PV -> Prop) : Prop :=
 PCall qa 7 [PV.sl n f es, Z6 30] fun v => ∃ n1 f1 es1, v = PV.sl n1 f1 es1 /\ PCall qa 7 [PV.sl n2 f2 ss, Z6 30] fun v1 => ∃ n3 f3 es2, v1 = PV.sl n3 f3 es2 /\ PCall qa 8 [] fun v2 => ∃ n4 f4 es3, v2 = PV.sl n4 f4 es3 /\ PCall qa 10 [PV.sl n4 f4 es3] fun v3 => PCall qa 9 [v3, PV.sl n1 f1 es1, PV.sl n3 f3 es2] fun v4 => ∃ vs, v4 = PV.tup vs /\ vs.length = 2 /\ ∃ x, vs.head? = some x /\ ∃ n5 f5 es4, x = PV.sl n5 f5 es4 /\ ∃ x1, vs.tail.head? = some x1 /\ ∃ n6, x1 = Z6 n6 /\ PCall qa 14 [PV.sl n4 f4 es3, PV.sl n1 f1 es1] fun v5 => ∃ n7 f6 es5, v5 = PV.sl n7 f6 es5 /\ PCall qa 14 [PV.sl n4 f4 es3, PV.sl n3 f3 es2] fun v6 => ∃ n8 f7 es6, v6 = PV.sl n8 f7 es6 /\ if (n6 == 0) = true then PCall qa 15 [PV.sl n5 f5 es4] fun v7 => ∃ n9, v7 = Z6 n9 /\ PCall qa 16 [PV.sl n7 f6 es5, PV.sl n8 f7 es6] fun v8 => ∃ n10, v8 = Z6 n10 /\ if (n9 == i64.wrap (i64.wrap ((↑es5.length : Int) + (↑es6.length : Int)) - i64.wrap ((2 : Int) * n10))) = true then PCall qa 15 [PV.sl n5 f5 es4] fun v9 => ∃ n11, v9 = Z6 n11 /\ PCall qa 17 [PV.sl n5 f5 es4] fun v10 => ∃ n12 f8 es7, v10 = PV.sl n12 f8 es7 /\ PCall qa 15 [PV.sl n12 f8 es7] fun v11 => ∃ n13, v11 = Z6 n13 /\ if (n11 == n13) = true then PCall qa 13 [] fun v12 => ∃ b, v12 = Zb b /\ R (Zb b) else R (Zb false) else R (Zb false) else R (Zb false)
theorem zw2 {R : PV -> Prop} (h : zln n f es n2 f2 ss R) : PCall qa 4 [.sl n f es, .sl n2 f2 ss] R :=
 PCall.wz Tryz.func4 aP [0, 1, 4, 5, 6, 7, 8, 9] bF h
end
section
variable (n f : Bool) (es : LL) (k : Int)
def zlo (R : PV -> Prop) : Prop :=
 if decide ((↑es.length : Int) > k) = true then (fO es.length none (some k) none /\ aR es 1) /\ R (PV.sl n (f && decide (k = (↑es.length : Int))) (qc 0 (qal k.toNat es))) else R (PV.sl n f es)
theorem zw3 {R : PV -> Prop} (h : zlo n f es k R) : PCall qa 7 [.sl n f es, .int .i64 k] R :=
 PCall.wz Tryz.func7 aP [0, 1, 4, 8] bF h
end
def zdc (n f : Bool) (es : LL) (n2 f2 : Bool) (es2 : LL) (x5 : Int) : Env × Hp := ([(0, LV.pv (PV.sl n f es)), (1, LV.pv (PV.sl n2 f2 es2)), (5, Y6 x5)], [])
section
variable (n f : Bool) (es : LL) (n2 f2 : Bool) (es2 : LL) (J : Int -> Prop) (μ : Int -> Nat)
def zdd (R : PV -> Prop) : Prop :=
 if ((↑es.length : Int) != (↑es2.length : Int)) = true then R (Zb false) else (aH (zdc n f es n2 f2 es2 (0 : Int)) /\ J (0 : Int)) /\ ∀ (x5 : Int), J x5 -> if decide (x5 < (↑es.length : Int)) = true then aF es x5 1 /\ ∃ n1, (es.getD x5.toNat []).head? = some (Z3 n1) /\ aF es2 x5 1 /\ ∃ n3, (es2.getD x5.toNat []).head? = some (Z3 n3) /\ if (n1 != n3) = true then R (Zb false) else aH (zdc n f es n2 f2 es2 (i64.wrap (x5 + 1))) /\ J (i64.wrap (x5 + 1)) /\ μ (i64.wrap (x5 + 1)) < μ x5 else R (Zb true)
theorem zw4 {R : PV -> Prop} (h : zdd n f es n2 f2 es2 J μ R) : PCall qa 21 [.sl n f es, .sl n2 f2 es2] R :=
 PCall.wz Tryz.func21 aP [0, 1, 4, 5, 10, 14, 25] (c9 4 (bP cz1 (zdc n f es n2 f2 es2) J μ (fun e h => (((gI e 5), ()))) [] [0, 1, 5] [])) h
end
def zde (n f : Bool) (es : LL) (n2 f2 : Bool) (ss : LL) (x7 : Int) (n_0 : Bool) (s_0 : LL) (n_1 : Bool) (s_1 : LL) : Env × Hp := ([(0, LV.pv (PV.sl n f es)), (1, LV.pv (PV.sl n2 f2 ss)), (5, LV.own 0), (6, LV.own 1), (7, Y6 x7)], [.sl (21, 1) true n_0 s_0, .sl (3, 1) true n_1 s_1])
def zdg (n f : Bool) (es : LL) (n2 f2 : Bool) (ss : LL) (x7 x8 x9 : Int) (n_0 : Bool) (s_0 : LL) (n_1 : Bool) (s_1 : LL) : Env × Hp := ([(0, LV.pv (PV.sl n f es)), (1, LV.pv (PV.sl n2 f2 ss)), (5, LV.own 0), (6, LV.own 1), (7, Y6 x7), (8, Y6 x8), (9, Y6 x9)], [.sl (21, 1) true n_0 s_0, .sl (3, 1) true n_1 s_1])
section
variable (n f : Bool) (es : LL) (n2 f2 : Bool) (ss : LL) (J : Int -> Bool -> LL -> Bool -> LL -> Prop) (μ : Int -> Bool -> LL -> Bool -> LL -> Nat) (J2 : Int -> Int -> Int -> Bool -> LL -> Bool -> LL -> Int -> Int -> Int -> Bool -> LL -> Bool -> LL -> Prop) (μ2 : Int -> Int -> Int -> Bool -> LL -> Bool -> LL -> Nat)
def zlp (R : PV -> Prop) : Prop :=
 (aH (zde n f es n2 f2 ss (0 : Int) true [] true []) /\ J (0 : Int) true [] true []) /\ ∀ (x7 : Int) (n_0 : Bool) (s_0 : LL) (n_1 : Bool) (s_1 : LL), J x7 n_0 s_0 n_1 s_1 -> if decide (x7 < (↑ss.length : Int)) = true then aF ss x7 1 /\ ∃ n1, (ss.getD x7.toNat []).head? = some (Z3 n1) /\ PCall qa 96 [PV.sl n f es, Z3 n1] fun v => ∃ n3, v = Z6 n3 /\ aF ss x7 1 /\ ∃ n4, (ss.getD x7.toNat []).head? = some (Z3 n4) /\ (aR [[Z3 n4]] 1 /\ (s_0.length + 1) * 4 <= 140737488355328) /\ (aR [[Z6 n3]] 1 /\ (s_1.length + 1) * 8 <= 140737488355328) /\ (aH (zdg n f es n2 f2 ss x7 n3 (↑s_0.length : Int) (n_0 && false) (s_0 ++ [[Z3 n4]]) (n_1 && false) (s_1 ++ [[Z6 n3]])) /\ J2 x7 n3 (↑s_0.length : Int) (n_0 && false) (s_0 ++ [[Z3 n4]]) (n_1 && false) (s_1 ++ [[Z6 n3]]) x7 n3 (↑s_0.length : Int) (n_0 && false) (s_0 ++ [[Z3 n4]]) (n_1 && false) (s_1 ++ [[Z6 n3]])) /\ ∀ (x71 x8 x9 : Int) (n_01 : Bool) (s_01 : LL) (n_11 : Bool) (s_11 : LL), J2 x7 n3 (↑s_0.length : Int) (n_0 && false) (s_0 ++ [[Z3 n4]]) (n_1 && false) (s_1 ++ [[Z6 n3]]) x71 x8 x9 n_01 s_01 n_11 s_11 ->
 let V1 := aH (zde n f es n2 f2 ss (i64.wrap (x71 + 1)) n_01 s_01 n_11 s_11) /\ J (i64.wrap (x71 + 1)) n_01 s_01 n_11 s_11 /\ μ (i64.wrap (x71 + 1)) n_01 s_01 n_11 s_11 < μ x7 n_0 s_0 n_1 s_1; if (decide (x9 > 0) && x8 != 0) = true then aF s_11 (i64.wrap (x9 - 1)) 1 /\ ∃ n5, (qc 0 (s_11.getD (i64.wrap (x9 - 1)).toNat [])).head? = some (Z6 n5) /\ if decide (n5 > x8) = true then aF s_01 (i64.wrap (x9 - 1)) 1 /\ ∃ n6, (qc 0 (s_01.getD (i64.wrap (x9 - 1)).toNat [])).head? = some (Z3 n6) /\ aF s_01 x9 1 /\ (1 = 1 /\ 1 <= (s_01.getD x9.toNat []).length) /\ aF s_11 (i64.wrap (x9 - 1)) 1 /\ ∃ n7, (qc 0 (s_11.getD (i64.wrap (x9 - 1)).toNat [])).head? = some (Z6 n7) /\ aF s_11 x9 1 /\ (1 = 1 /\ 1 <= (s_11.getD x9.toNat []).length) /\ aF ss x71 1 /\ ∃ n8, (ss.getD x71.toNat []).head? = some (Z3 n8) /\ aF (s_01.set x9.toNat (Z3 n6 :: zq (qc 1 (s_01.getD x9.toNat [])))) (i64.wrap (x9 - 1)) 1 /\ (1 = 1 /\ 1 <= ((s_01.set x9.toNat (Z3 n6 :: zq (qc 1 (s_01.getD x9.toNat [])))).getD (i64.wrap (x9 - 1)).toNat []).length) /\ aF (s_11.set x9.toNat (Z6 n7 :: zq (qc 1 (s_11.getD x9.toNat [])))) (i64.wrap (x9 - 1)) 1 /\ (1 = 1 /\ 1 <= ((s_11.set x9.toNat (Z6 n7 :: zq (qc 1 (s_11.getD x9.toNat [])))).getD (i64.wrap (x9 - 1)).toNat []).length) /\ aH (zdg n f es n2 f2 ss x71 x8 (i64.wrap (x9 - 1)) n_01 ((s_01.set x9.toNat (Z3 n6 :: zq (qc 1 (s_01.getD x9.toNat [])))).set (i64.wrap (x9 - 1)).toNat (Z3 n8 :: zq (qc 1 ((s_01.set x9.toNat (Z3 n6 :: zq (qc 1 (s_01.getD x9.toNat [])))).getD (i64.wrap (x9 - 1)).toNat [])))) n_11 ((s_11.set x9.toNat (Z6 n7 :: zq (qc 1 (s_11.getD x9.toNat [])))).set (i64.wrap (x9 - 1)).toNat (Z6 x8 :: zq (qc 1 ((s_11.set x9.toNat (Z6 n7 :: zq (qc 1 (s_11.getD x9.toNat [])))).getD (i64.wrap (x9 - 1)).toNat []))))) /\ J2 x7 n3 (↑s_0.length : Int) (n_0 && false) (s_0 ++ [[Z3 n4]]) (n_1 && false) (s_1 ++ [[Z6 n3]]) x71 x8 (i64.wrap (x9 - 1)) n_01 ((s_01.set x9.toNat (Z3 n6 :: zq (qc 1 (s_01.getD x9.toNat [])))).set (i64.wrap (x9 - 1)).toNat (Z3 n8 :: zq (qc 1 ((s_01.set x9.toNat (Z3 n6 :: zq (qc 1 (s_01.getD x9.toNat [])))).getD (i64.wrap (x9 - 1)).toNat [])))) n_11 ((s_11.set x9.toNat (Z6 n7 :: zq (qc 1 (s_11.getD x9.toNat [])))).set (i64.wrap (x9 - 1)).toNat (Z6 x8 :: zq (qc 1 ((s_11.set x9.toNat (Z6 n7 :: zq (qc 1 (s_11.getD x9.toNat [])))).getD (i64.wrap (x9 - 1)).toNat [])))) /\ μ2 x71 x8 (i64.wrap (x9 - 1)) n_01 ((s_01.set x9.toNat (Z3 n6 :: zq (qc 1 (s_01.getD x9.toNat [])))).set (i64.wrap (x9 - 1)).toNat (Z3 n8 :: zq (qc 1 ((s_01.set x9.toNat (Z3 n6 :: zq (qc 1 (s_01.getD x9.toNat [])))).getD (i64.wrap (x9 - 1)).toNat [])))) n_11 ((s_11.set x9.toNat (Z6 n7 :: zq (qc 1 (s_11.getD x9.toNat [])))).set (i64.wrap (x9 - 1)).toNat (Z6 x8 :: zq (qc 1 ((s_11.set x9.toNat (Z6 n7 :: zq (qc 1 (s_11.getD x9.toNat [])))).getD (i64.wrap (x9 - 1)).toNat [])))) < μ2 x71 x8 x9 n_01 s_01 n_11 s_11 else V1 else V1 else R (PV.sl n_0 false s_0)
theorem zw5 {R : PV -> Prop} (h : zlp n f es n2 f2 ss J μ J2 μ2 R) : PCall qa 78 [.sl n f es, .sl n2 f2 ss] R :=
 PCall.wz Tryz.func78 aP [0, 1, 4, 5, 6, 7, 8, 9, 13, 49] (iN [(4, (bP cz5 (zde n f es n2 f2 ss) J μ (fun e h => (gI e 7, oN h 0, oS h 0, oN h 1, oS h 1)) [(5, 21, 1), (6, 3, 1)] [0, 1, 5, 6, 7] [])), (10, (iB cz7 (zdg n f es n2 f2 ss) J2 μ2 (fun e h => (gI e 7, gI e 8, gI e 9, oN h 0, oS h 0, oN h 1, oS h 1)) [] [0, 1, 5, 6, 7, 8, 9] []))]) h
end
def zdh (tc tg tj tf tp : PV) (M S : List (PV × PV)) (n f : Bool) (es : LL) (x12 : Int) (h0_0 : PV) (n_1 : Bool) (s_1 : LL) : Env × Hp := ([(0, LV.pv (PV.ptr [tc, tg, tj, tf, tp, PV.mp M, PV.mp S])), (5, LV.box 0 0), (10, LV.pv (PV.sl n f es)), (11, LV.pv (PV.int i64 (es.length : Int))), (12, Y6 x12)], [.box [.pv h0_0, LV.own 1], .sl (21, 1) true n_1 s_1])
section
variable (tc tg tj tf tp : PV) (M S : List (PV × PV)) (n f : Bool) (es : LL) (J : Int -> PV -> Bool -> LL -> Prop) (μ : Int -> PV -> Bool -> LL -> Nat)
def zlq (R : PV -> Prop) : Prop :=
 fZ (PV.ptr [tc, tg, tj, tf, tp, PV.mp M, PV.mp S]) = true /\ (aH (zdh tc tg tj tf tp M S n f es (0 : Int) (PV.ptr [tc, tg, tj, tf, tp, PV.mp M, PV.mp S]) true []) /\ J (0 : Int) (PV.ptr [tc, tg, tj, tf, tp, PV.mp M, PV.mp S]) true []) /\ ∀ (x12 : Int) (h0_0 : PV) (n_1 : Bool) (s_1 : LL), J x12 h0_0 n_1 s_1 -> if decide (x12 < (↑es.length : Int)) = true then aF es x12 1 /\ ∃ n1, (es.getD x12.toNat []).head? = some (Z3 n1) /\ ACall qa 81 [LV.box 0 0, LV.pv (Z3 n1), Y6 8] [Ob.box [LV.pv h0_0, LV.own 1], Ob.sl (21, 1) false n_1 s_1] fun (r : LV) (h' : Hp) => ∃ (t : Bool × LL), (r = LV.tup [] /\ h' = [Ob.box [LV.pv h0_0, LV.own 1], Ob.sl (21, 1) true t.fst t.snd]) /\ (True /\ True /\ True) /\ aH (zdh tc tg tj tf tp M S n f es (i64.wrap (x12 + 1)) h0_0 t.fst t.snd) /\ J (i64.wrap (x12 + 1)) h0_0 t.fst t.snd /\ μ (i64.wrap (x12 + 1)) h0_0 t.fst t.snd < μ x12 h0_0 n_1 s_1 else PCall qa 82 [PV.ptr [tc, tg, tj, tf, tp, PV.mp M, PV.mp S], PV.sl n_1 false s_1] fun v => ∃ n1 f1 es1, v = PV.sl n1 f1 es1 /\ R (PV.sl n1 f1 es1)
theorem zw6 {R : PV -> Prop} (h : zlq tc tg tj tf tp M S n f es J μ R) : PCall qa 55 [.ptr [tc, tg, tj, tf, tp, .mp M, .mp S], .sl n f es] R :=
 PCall.wz Tryz.func55 (fun zz_ => match zz_ with | 81 => some ⟨Bool × LL, fun _ hs t => (.tup [], match hs with | [.box (x :: _), .sl ty _ _ _] => [.box [x, .own 1], .sl ty true t.1 t.2] | [.box (x :: _)] => [.box [x, .own 1], .sl (21, 1) true t.1 t.2] | h => h), none⟩ | _ => none) [0, 1, 4, 5, 7, 10, 11, 12, 13] (c9 3 (bP jL (zdh tc tg tj tf tp M S n f es) J μ (fun e h => (gI e 12, hP h 0 0, oN h 1, oS h 1)) [(1000001, 21, 1)] [0, 5, 10, 11, 12] [])) h
end
def zdi (n f : Bool) (es : LL) (n2 f2 : Bool) (ss : LL) (x6 : Int) (n_0 : Bool) (s_0 : LL) : Env × Hp := ([(0, LV.pv (PV.sl n f es)), (1, LV.pv (PV.sl n2 f2 ss)), (5, LV.own 0), (6, Y6 x6)], [.sl (21, 1) true n_0 s_0])
section
variable (n f : Bool) (es : LL) (n2 f2 : Bool) (ss : LL) (J : Int -> Bool -> LL -> Prop) (μ : Int -> Bool -> LL -> Nat)
def zlr (R : PV -> Prop) : Prop :=
 (aH (zdi n f es n2 f2 ss (0 : Int) true []) /\ J (0 : Int) true []) /\ ∀ (x6 : Int) (n_0 : Bool) (s_0 : LL), J x6 n_0 s_0 ->
 let K3 := fun (y0_ : Int) (y1_ : Bool) (y2_ : LL) => aH (zdi n f es n2 f2 ss y0_ y1_ y2_) /\ J y0_ y1_ y2_ /\ μ y0_ y1_ y2_ < μ x6 n_0 s_0; if decide (x6 < (↑ss.length : Int)) = true then aF ss x6 1 /\ ∃ n1, (ss.getD x6.toNat []).head? = some (Z3 n1) /\ ACall qa 77 [LV.pv (PV.sl n f es), LV.pv (Z3 n1), Y6 8] [] fun (r : LV) (h' : Hp) => (∃ (t : Bool × LL), (r = LV.own 0 /\ h' = [Ob.sl (21, 1) true t.fst t.snd]) /\ True /\ (aR t.snd 1 /\ (s_0.length + t.snd.length) * 4 <= 140737488355328) /\ K3 (i64.wrap (x6 + 1)) (n_0 && t.snd.isEmpty) (s_0 ++ t.snd)) ∨ ∃ (t : LL), (r = LV.pv (PV.sl false true t) /\ h' = []) /\ True /\ (aR t 1 /\ (s_0.length + t.length) * 4 <= 140737488355328) /\ K3 (i64.wrap (x6 + 1)) (n_0 && t.isEmpty) (s_0 ++ t) else PCall qa 78 [PV.sl n f es, PV.sl n_0 false s_0] fun v => ∃ n1 f1 es1, v = PV.sl n1 f1 es1 /\ R (PV.sl n1 f1 es1)
theorem zw7 {R : PV -> Prop} (h : zlr n f es n2 f2 ss J μ R) : PCall qa 52 [.sl n f es, .sl n2 f2 ss] R :=
 PCall.wz Tryz.func52 (fun zz_ => match zz_ with | 77 => some ⟨Bool × LL, fun _ hs t => (.own hs.length, hs ++ [.sl (21, 1) true t.1 t.2]), some ⟨LL, fun _ hs t => (.pv (.sl false true t), hs)⟩⟩ | _ => none) [0, 1, 4, 5, 6, 10] (c9 3 (bP eC (zdi n f es n2 f2 ss) J μ (fun e h => (gI e 6, oN h 0, oS h 0)) [(5, 21, 1)] [0, 1, 5, 6] [])) h
end
def zdj (n f : Bool) (es : LL) (n2 f2 : Bool) (ss : LL) (x13 : Int) : Env × Hp := ([(0, LV.pv (PV.sl n f es)), (1, LV.pv (PV.sl n2 f2 ss)), (12, LV.pv (PV.int i64 (es.length : Int))), (13, Y6 x13)], [])
section
variable (n f : Bool) (es : LL) (n2 f2 : Bool) (ss : LL) (J : Int -> Prop) (μ : Int -> Nat)
def zdk (R : PV -> Prop) : Prop :=
 if ((↑es.length : Int) != (↑ss.length : Int)) = true then R (Zb false) else (aH (zdj n f es n2 f2 ss (0 : Int)) /\ J (0 : Int)) /\ ∀ (x13 : Int), J x13 -> if decide (x13 < (↑es.length : Int)) = true then aF es x13 1 /\ ∃ n1, (es.getD x13.toNat []).head? = some (Z3 n1) /\ aF ss x13 1 /\ ∃ n3, (ss.getD x13.toNat []).head? = some (Z3 n3) /\ if (n1 != n3) = true then R (Zb false) else aH (zdj n f es n2 f2 ss (i64.wrap (x13 + 1))) /\ J (i64.wrap (x13 + 1)) /\ μ (i64.wrap (x13 + 1)) < μ x13 else R (Zb true)
theorem zw8 {R : PV -> Prop} (h : zdk n f es n2 f2 ss J μ R) : PCall qa 36 [.sl n f es, .sl n2 f2 ss] R :=
 PCall.wz Tryz.func36 aP [0, 1, 4, 5, 10, 12, 13, 14, 24] (c9 4 (bP cz1 (zdj n f es n2 f2 ss) J μ (fun e h => (((gI e 13), ()))) [] [0, 1, 12, 13] [])) h
end
end Go.Eng
namespace Go.Eng
open Go Go.Proofs Go.Eng.Rows Go.Eng.Trie
theorem wX : dN tab := zri (by kernel_rfl)
theorem tG : eP tab := zrk (by kernel_rfl)
theorem wY : iP tab := zrm (by kernel_rfl)
theorem q1 : sQ tab false 0 [101, 769] = 2 := by kernel_rfl
theorem q2 : sQ tab false 0 [233] = 0 := by kernel_rfl
theorem q3 : sQ tab false 0 [769, 807] = 1 := by kernel_rfl
theorem q4 : sQ tab false 0 [8491] = 1 := by kernel_rfl
theorem q5 : zac tab 101 = true := by kernel_rfl
theorem q6 : zac tab 769 = false := by kernel_rfl
theorem q7 : zac tab 4449 = false := by kernel_rfl
theorem zls {α : Type} (p : α -> Bool) : ∀ {A : List α} (B : List α), (∀ x ∈ A, p x = false) -> (A ++ B).find? p = B.find? p
 | [], B, _ => rfl
 | a :: A, B, h => by
   rw [qbo, qaw, h a qar];exact zls p B fun x hx => h x (qam _ hx)
theorem zlt {α : Type} (p : α -> Bool) : ∀ (A : List α) {B : List α}, (∀ x ∈ B, p x = false) -> (A ++ B).find? p = A.find? p
 | [], B, h => List.find?_eq_none.2 fun x hx => by rw [h x hx]; simp
 | a :: A, B, h => by
   rw [qbo, qaw, qaw];cases p a with
   | true => rfl
   | false => exact zlt p A h
def noK (k : Int) (l : List Row) : Bool := l.all fun x => !decide (x.kind = k)
theorem zlu {k r : Int} {l : List Row} (h : noK k l = true) : ∀ x ∈ l, x.has k r = false := fun x hx => by
 have := List.all_eq_true.1 h x hx;simp only [qr, dJ] at this;simp [Row.has, this]
theorem zw9 {A B C : List Row} {k : Int} (h1 : noK k A = true) (h2 : noK k C = true) (r : Int) : cH (A ++ (B ++ C)) k r = cH B k r := by
 unfold cH first
 rw [zls _ _ (zlu h1), zlt _ _ (zlu h2)]
theorem zlv : tab = zbr ++ (tab73 ++ (zbs ++ zbt ++ zbu ++ zbv ++ zbw ++ zbx)) := by unfold tab; simp only [qi]
theorem zxa : aJ tab = aJ tab73 := funext fun r => by
 unfold aJ; rw [zlv, zw9 (by kernel_rfl) (by kernel_rfl)]
theorem zxb {A B : List Row} (h : aJ A = aJ B) : ∀ d, aZ A d = aZ B d := fun d => by
 induction d with
 | zero => rfl
 | succ d ih => funext r; simp only [aZ, h, ih]
theorem zxc (d : Nat) : aZ tab d = aZ tab73 d := zxb zxa d
theorem zxd {x : Row} (hx : x ∈ tab) (hk : x.kind = 2) : x ∈ tab73 := by
 rw [zlv] at hx
 have no : ∀ {l : List Row}, noK 2 l = true -> x ∉ l := fun h hx => by
  have := List.all_eq_true.1 h x hx;simp [hk] at this
 rcases List.mem_append.1 hx with h | h
 ·exact absurd h (no (by kernel_rfl))
 ·rcases List.mem_append.1 h with h | h
  ·exact h
  ·exact absurd h (no (by kernel_rfl))
end Go.Eng
namespace Go.Eng
open Go Go.Proofs Go.Eng.Rows Go.Eng.Trie
end Go.Eng
namespace Go.Eng
open Go Go.Proofs Go.Eng.Rows Go.Eng.Trie Go.Eng.Srt
theorem PCall.ofA {P : Program} {f : Nat} {args : List PV} {Q : LV -> Hp -> Prop} {R : PV -> Prop} (hc : ACall P f (args.map .pv) [] Q) (hq : ∀ r h', Q r h' -> ∃ p, kH h' r = some p /\ R p) : PCall P f args R :=
 ⟨hc.1, fun w I G cargs h1 h2 h3 => (hc.2 w I G cargs h1 h2 h3).mono fun e w' ⟨cv, r, h', I', G', e1, e2, e3, e4, e5⟩ => by
  obtain ⟨p, hp, hR⟩ := hq r h' e2;have ht := e5.t;have hno : ∀ b, ¬ aQ [] G b := fun b ⟨o, ob, ho, _⟩ => by simp at ho
  exact ⟨cv, .pv p, [], AllB I' h' G', G', e1, ⟨p, rfl, hR⟩, HRel.nil G' (fun b hb => hb.elim (e3.cl b) e3.blk_lt), .pv _ _ (rS e3 e4 hp),
   ⟨⟨ht.os, ht.tape, ht.output, ht.size, ht.keep, fun b hb => .inl (ht.i1 b hb), fun b hb => hb.elim (ht.i2 b) (fun ho => (ht.own2 b ho).elim (fun x => absurd x (hno b)) (fun x => .inr (.inr x))), fun b hb => absurd hb (fun ⟨o, ob, ho, _⟩ => by simp at ho), ht.frz, ht.drawn⟩, qk _, fun o ob ho => by simp at ho⟩⟩⟩
theorem zlw (n f : Bool) (l : List Int) (k : Nat) (hk : k < 1000) : PCall qa 7 [.sl n f (aA l), .int .i64 k] fun v => ∃ n f, v = .sl n f (aA (l.take k)) := by
 refine zw3 _ _ _ _ ?_; unfold zlo;refine aD (fun hc => ?_) (fun hc => ?_)
 ·simp only [aB, bY] at hc;refine ⟨⟨by unfold fO; simp; omega, eT _⟩, n, _, by rw [show ((k : Int)).toNat = k by omega]; simp only [aA, List.map_take, qbu]; rfl⟩
 ·simp only [aB, bY] at hc;rw [qh (by omega)];exact ⟨_, _, rfl⟩
theorem zxe (n f n2 f2 : Bool) (l m : List Int) (hl : l.length < 1000000000000) : zdd n f (aA l) n2 f2 (aA m) (fun i => 0 <= i /\ i <= l.length /\ l.take i.toNat = m.take i.toNat) (fun i => l.length - i.toNat) fun v => v = .bool (decide (l = m)) := by
 unfold zdd;refine aD (fun hc => ?_) (fun hc => ?_)
 ·simp only [bY, bne_iff_ne, ne_eq] at hc;have : l ≠ m := fun e => hc (by rw [e]);simp [this]
 ·simp only [bY, bne_iff_ne, ne_eq, qg] at hc;have hlm : l.length = m.length := by omega
  refine ⟨⟨rfl, qq _, by omega, rfl⟩, ?_⟩;rintro i ⟨i0, i1, he⟩;refine aD (fun h => ?_) (fun h => ?_)
  ·simp only [aB, bY] at h;have hi : i.toNat < l.length := by omega
   have hj : i.toNat < m.length := by omega
   obtain ⟨g1, g2⟩ := iE i0 hi;obtain ⟨k1, k2⟩ := iE i0 hj;have hw : i64.wrap (i + 1) = i + 1 := aC (by omega) (by omega);refine ⟨g1, l[i.toNat], by rw [g2]; rfl, k1, m[i.toNat], by rw [k2]; rfl, aD (fun hc2 => ?_) (fun hc2 => ?_)⟩
   ·simp only [bne_iff_ne, ne_eq] at hc2;have : l ≠ m := fun e => hc2 (by subst e; rfl);simp [this]
   ·simp only [bne_iff_ne, ne_eq, qg] at hc2;rw [hw];exact ⟨rfl, ⟨by omega, by omega, by rw [show (i + 1).toNat = i.toNat + 1 by omega, dE hi, dE hj, he, hc2]⟩, by dsimp only; omega⟩
  ·simp only [aB, bY] at h;rw [qh (by omega), qh (by omega)] at he;simp [he]
theorem zxf (n f n2 f2 : Bool) (l m : List Int) (hl : l.length < 1000000000000) : zdk n f (aA l) n2 f2 (aA m) (fun i => 0 <= i /\ i <= l.length /\ l.take i.toNat = m.take i.toNat) (fun i => l.length - i.toNat) fun v => v = .bool (decide (l = m)) := by
 unfold zdk;refine aD (fun hc => ?_) (fun hc => ?_)
 ·simp only [bY, bne_iff_ne, ne_eq] at hc;have : l ≠ m := fun e => hc (by rw [e]);simp [this]
 ·simp only [bY, bne_iff_ne, ne_eq, qg] at hc;have hlm : l.length = m.length := by omega
  refine ⟨⟨rfl, qq _, by omega, rfl⟩, ?_⟩;rintro i ⟨i0, i1, he⟩;refine aD (fun h => ?_) (fun h => ?_)
  ·simp only [aB, bY] at h;have hi : i.toNat < l.length := by omega
   have hj : i.toNat < m.length := by omega
   obtain ⟨g1, g2⟩ := iE i0 hi;obtain ⟨k1, k2⟩ := iE i0 hj;have hw : i64.wrap (i + 1) = i + 1 := aC (by omega) (by omega);refine ⟨g1, l[i.toNat], by rw [g2]; rfl, k1, m[i.toNat], by rw [k2]; rfl, aD (fun hc2 => ?_) (fun hc2 => ?_)⟩
   ·simp only [bne_iff_ne, ne_eq] at hc2;have : l ≠ m := fun e => hc2 (by subst e; rfl);simp [this]
   ·simp only [bne_iff_ne, ne_eq, qg] at hc2;rw [hw];exact ⟨rfl, ⟨by omega, by omega, by rw [show (i + 1).toNat = i.toNat + 1 by omega, dE hi, dE hj, he, hc2]⟩, by dsimp only; omega⟩
  ·simp only [aB, bY] at h;rw [qh (by omega), qh (by omega)] at he;simp [he]
theorem zxg (n f n2 f2 : Bool) (l m : List Int) (hl : l.length < 1000000000000) : PCall qa 21 [.sl n f (aA l), .sl n2 f2 (aA m)] fun v => v = .bool (decide (l = m)) :=
 zw4 _ _ _ _ _ _ _ _ (zxe n f n2 f2 l m hl)
theorem zlx (n f n2 f2 : Bool) (l m : List Int) (hl : l.length < 1000000000000) : PCall qa 36 [.sl n f (aA l), .sl n2 f2 (aA m)] fun v => v = .bool (decide (l = m)) :=
 zw8 _ _ _ _ _ _ (fun i => 0 <= i /\ i <= l.length /\ l.take i.toNat = m.take i.toNat) (fun i => l.length - i.toNat) (zxf n f n2 f2 l m hl)
section
variable {rows : List Row}
end
section
variable {rows : List Row}
theorem set1 {es : List (List PV)} {k : Nat} {v x : PV} (h : es.getD k [] = [x]) : es.set k (v :: zq (qc 1 (es.getD k []))) = es.set k [v] := by rw [h]; rfl
theorem zdl (A : List Int) (x : Int) (B : List Int) : (aA (A ++ x :: B)).getD A.length [] = [.int .i32 x] := by
 rw [zgs (by simp)]; simp
theorem zdm (A : List Int) (x : Int) (B : List Int) : (bH (A ++ x :: B)).getD A.length [] = [.int .i64 x] := by
 simp [bH]
theorem zxh (hk : iP rows) (n f n2 f2 : Bool) (L : List Int) (hrl : rows.length < 1000000) (hL : L.length < 1000000000) (hr : R32 L) :
 PCall qa 78 [.sl n f (bK rows), .sl n2 f2 (aA L)] fun v => ∃ n f, v = .sl n f (aA (c6 (aG rows 1) L)) := by
 have olen : ∀ l, (c6 (aG rows 1) l).length = l.length := fun l => ((sU (key := aG rows 1) hk l).len).symm
 refine zw5 _ _ _ _ _ _
  (fun i _ s0 _ s1 => 0 <= i /\ i <= L.length /\ s0 = aA (c6 (aG rows 1) (L.take i.toNat)) /\ s1 = bH ((c6 (aG rows 1) (L.take i.toNat)).map (aG rows 1))) (fun i _ _ _ _ => L.length - i.toNat)
  (fun i0 _ _ _ _ _ _ i c k _ s0 _ s1 => i = i0 /\ 0 <= i /\ i.toNat < L.length /\ ∃ x A B, L[i.toNat]? = some x /\ c = aG rows 1 x /\ k = (A.length : Nat) /\ c6 (aG rows 1) (L.take i.toNat) = A ++ B /\ (∀ y ∈ B, fH (aG rows 1) x y = true) /\ s0 = aA (A ++ x :: B) /\ s1 = bH ((A ++ x :: B).map (aG rows 1))) (fun _ _ k _ _ _ _ => k.toNat) ?_
 unfold zlp;refine ⟨⟨rfl, qq _, by omega, by simp [c6, aA], by simp [c6, bH]⟩, ?_⟩;rintro i n0 _ n1 _ ⟨i0, i1, rfl, rfl⟩;refine aD (fun hc => ?_) (fun hc => ?_)
 ·simp only [aB, bY] at hc;have hi : i.toNat < L.length := by omega
  obtain ⟨g1, g2⟩ := iE i0 hi;have hx := hr _ (qp hi);have hw : i64.wrap (i + 1) = i + 1 := aC (by omega) (by omega);have hol := olen (L.take i.toNat);rw [qj] at hol;refine ⟨g1, L[i.toNat], by rw [g2]; rfl, ?_⟩;refine (wN n f _ hrl hx).mono ?_;rintro _ rfl;refine ⟨_, rfl, g1, L[i.toNat], by rw [g2]; rfl, ⟨eT [_], by rw [bY]; omega⟩, ⟨mN (enc := fun n => [PV.int .i64 n]) (fun _ => rfl) [_], by rw [kW, qe]; omega⟩, ⟨rfl, ?_⟩, ?_⟩
  ·refine ⟨rfl, i0, hi, L[i.toNat], c6 (aG rows 1) (L.take i.toNat), [], qae hi, rfl, by simp, by simp, fun y hy => (by cases hy), by simp [aA], by simp [bH]⟩
  ·rintro i' c k n01 _ n11 _ ⟨rfl, _, _, x, A, B, hxi, rfl, rfl, hord, hB, rfl, rfl⟩;have hwi : i64.wrap (i' + 1) = i' + 1 := aC (by omega) (by omega);have hAB : A.length + B.length = min i'.toNat L.length := by rw [<- hol, hord, qb]
   have hxe : L[i'.toNat] = x := (List.getElem?_eq_some_iff.1 hxi).2
   -- the end of the walk back
   have done : (A = [] ∨ ∃ A' z, A = A' ++ [z] /\ fH (aG rows 1) x z = false) -> 0 <= i' + 1 /\ i' + 1 <= L.length /\ aA (A ++ x :: B) = aA (c6 (aG rows 1) (L.take (i' + 1).toNat)) /\ bH ((A ++ x :: B).map (aG rows 1)) = bH ((c6 (aG rows 1) (L.take (i' + 1).toNat)).map (aG rows 1)) := fun h => by
    have : c6 (aG rows 1) (L.take (i' + 1).toNat) = A ++ x :: B := by
     rw [show (i' + 1).toNat = i'.toNat + 1 by omega, dE hi, zae, hord, hxe, oD hB h]
    rw [this];exact ⟨by omega, by omega, rfl, rfl⟩
   have hmu : L.length - (i' + 1).toNat < L.length - i'.toNat := by omega
   refine aD (fun h1 => ?_) (fun h1 => ?_)
   ·simp only [qf, aB, bne_iff_ne, ne_eq] at h1
    obtain ⟨A', z, rfl⟩ : ∃ A' z, A = A' ++ [z] := by
     rcases A.eq_nil_or_concat with rfl | ⟨D, z, rfl⟩
     ·simp at h1
     ·exact ⟨D, z, by simp⟩
    have lA : (A' ++ [z]).length = A'.length + 1 := by simp
    rw [lA] at hAB;have hwk : i64.wrap ((((A' ++ [z]).length : Nat) : Int) - 1) = (A'.length : Nat) := by rw [lA, aC (by omega) (by omega)]; omega
    have e0 : (A' ++ [z]) ++ x :: B = A' ++ z :: (x :: B) := by simp
    rw [hwk, e0];simp only [qu, List.map_cons, qd];rw [lA];generalize hk2 : aG rows 1 = key at *;have i1 : aF (aA (A' ++ z :: x :: B)) ((A'.length : Nat) : Int) 1 := cU (enc := fun n => [PV.int .i32 n]) (fun _ => rfl) (by omega) (by simp; omega);have i2 : aF (aA (A' ++ z :: x :: B)) ((A'.length + 1 : Nat) : Int) 1 := cU (enc := fun n => [PV.int .i32 n]) (fun _ => rfl) (by omega) (by simp; omega);have j1 : aF (bH (A'.map key ++ key z :: key x :: B.map key)) ((A'.length : Nat) : Int) 1 := cU oO (by omega) (by simp; omega);have j2 : aF (bH (A'.map key ++ key z :: key x :: B.map key)) ((A'.length + 1 : Nat) : Int) 1 := cU oO (by omega) (by simp; omega);have i3 : aF (aA (A' ++ z :: z :: B)) ((A'.length : Nat) : Int) 1 := cU (enc := fun n => [PV.int .i32 n]) (fun _ => rfl) (by omega) (by simp; omega);have j3 : aF (bH (A'.map key ++ key z :: key z :: B.map key)) ((A'.length : Nat) : Int) 1 := cU oO (by omega) (by simp; omega);have gz := zdl A' z (x :: B);have gx : (aA (A' ++ z :: x :: B)).getD (A'.length + 1) [] = [.int .i32 x] := by have := zdl (A' ++ [z]) x B; simpa using this
    have hz : (bH (A'.map key ++ key z :: key x :: B.map key)).getD A'.length [] = [.int .i64 (key z)] := by have := zdm (A'.map key) (key z) (key x :: B.map key); simpa using this
    have hx2 : (bH (A'.map key ++ key z :: key x :: B.map key)).getD (A'.length + 1) [] = [.int .i64 (key x)] := by have := zdm (A'.map key ++ [key z]) (key x) (B.map key); simpa using this
    have gz2 := zdl A' z (z :: B);have hz2 : (bH (A'.map key ++ key z :: key z :: B.map key)).getD A'.length [] = [.int .i64 (key z)] := by have := zdm (A'.map key) (key z) (key z :: B.map key); simpa using this
    have s1 : (aA (A' ++ z :: x :: B)).set (A'.length + 1) [.int .i32 z] = aA (A' ++ z :: z :: B) := by
     have := sR (A' ++ [z]) B x z;have e : (aA (A' ++ z :: x :: B)).set (A'.length + 1) [.int .i32 z] = aA ((A' ++ z :: x :: B).set (A'.length + 1) z) := by simp [aA, List.map_set]
     rw [e]; simp at this ⊢
    have s2 : (aA (A' ++ z :: z :: B)).set A'.length [.int .i32 x] = aA (A' ++ x :: z :: B) := by simp [aA]
    have t1 : (bH (A'.map key ++ key z :: key x :: B.map key)).set (A'.length + 1) [.int .i64 (key z)] = bH (A'.map key ++ key z :: key z :: B.map key) := by simp [bH]
    have t2 : (bH (A'.map key ++ key z :: key z :: B.map key)).set A'.length [.int .i64 (key x)] = bH (A'.map key ++ key x :: key z :: B.map key) := by simp [bH]
    refine ⟨j1, key z, by rw [hz]; rfl, aD (fun h2 => ?_) (fun h2 => ?_)⟩
    ·simp only [aB] at h2;refine ⟨i1, z, by rw [gz]; rfl, i2, ⟨trivial, by rw [gx]; exact qk _⟩, j1, key z, by rw [hz]; rfl, j2, ⟨trivial, by rw [hx2]; exact qk _⟩, g1, x, by rw [g2, hxe]; rfl, ?_⟩;rw [set1 gx, set1 hx2, s1, t1, set1 gz2, set1 hz2, s2, t2];refine ⟨i3, ⟨trivial, by rw [gz2]; exact qk _⟩, j3, ⟨trivial, by rw [hz2]; exact qk _⟩, rfl, ⟨trivial, i0, hi, x, A', z :: B, hxi, rfl, rfl, by rw [hord]; simp, fun y hy => ?_, rfl, by simp⟩, by simp⟩;rcases List.mem_cons.1 hy with rfl | hy
     ·exact qC.2 ⟨h1.2, h2⟩
     ·exact hB y hy
    ·simp only [aB] at h2;rw [hwi];obtain ⟨d1, d2, d3, d4⟩ := done (.inr ⟨A', z, rfl, vO.2 (.inr (by omega))⟩);refine ⟨rfl, ⟨d1, d2, ?_, ?_⟩, hmu⟩
     ·rw [<- d3, e0]
     ·rw [<- d4]; simp
   ·have hA : A = [] ∨ aG rows 1 x = 0 := by
     simp only [qf, aB, bne_iff_ne, ne_eq, not_and, qg] at h1;by_cases hA : A = []
     ·exact .inl hA
     ·exact .inr (h1 (by have := List.length_pos_iff.2 hA; omega))
    rw [hwi];refine ⟨rfl, done ?_, hmu⟩;rcases hA with h | h
    ·exact .inl h
    ·rcases A.eq_nil_or_concat with rfl | ⟨D, z, rfl⟩
     ·exact .inl rfl
     ·exact .inr ⟨D, z, by simp, vO.2 (.inl h)⟩
 ·simp only [aB, bY] at hc;rw [qh (by omega)];exact ⟨_, _, rfl⟩
end
theorem zdn : tab.length < 1000000 := by have := zuf; omega
theorem zly (n f : Bool) : PCall qa 10 [.sl n f (bK tab)] (fY tab) := zvx n f tab zdn wX
theorem R32.take {l : List Int} (h : R32 l) (k : Nat) : R32 (l.take k) := fun x hx => h x (qac hx)
section
variable {rows : List Row} {v : PV}
theorem zxi {ts : List PV} {key : Int -> Int} (hT : ∀ r : Int, (-2147483648 <= r /\ r <= 2147483647) -> PCall qa 71 [.ptr ts, .int .i32 r] fun v => v = .int .i64 (key r)) : kX (.ptr ts) key := by
 intro a b ha hb;refine zs0 _ _ _ ?_; unfold zig;refine .inl ⟨ts, rfl, .inl ⟨ts, rfl, ?_⟩⟩;refine (hT a ha).mono ?_;rintro _ rfl;refine ⟨_, rfl, ?_⟩;refine (hT b hb).mono ?_;rintro _ rfl;refine ⟨_, rfl, ?_⟩;refine (p61 _ _).mono ?_;rintro _ rfl;refine ⟨_, rfl, _, rfl, ?_⟩;unfold cmpS; split <;> (try split) <;> omega
theorem zxj (hk : iP rows) (hv : fY rows v) (n f : Bool) (L : List Int) (hr : R32 L) (hL : L.length < 1000000000000) : PCall qa 82 [v, .sl n f (aA L)] fun x => ∃ n f, x = .sl n f (aA (c6 (aG rows 1) L)) := by
 obtain ⟨tc, tg, tj, tf, tp, made, sec, rfl, ht, hm⟩ := hv;have hT : ∀ r : Int, (-2147483648 <= r /\ r <= 2147483647) -> PCall qa 71 [.ptr [tc, tg, tj, tf, tp, .mp (eS made), .mp (j7 sec)], .int .i32 r] fun v => v = .int .i64 (aG rows 1 r) := fun r hr => wJ _ _ ht hr;exact PCall.ofA (args := [_, _]) (zwl hk hT (zxi hT) L hr hL) fun r h' ⟨hr, hh⟩ => by subst hr; subst hh; exact ⟨_, rfl, _, _, rfl⟩
theorem zlz (hp : dN rows) {l : List Int} (h : R32 l) : R32 (l.flatMap (aZ rows 8)) := fun x hx => by
 obtain ⟨r, hr, h2⟩ := List.mem_flatMap.1 hx;rcases vN hp 8 r x h2 with rfl | h3
 ·exact h x hr
 ·omega
theorem wZ (rows : List Row) (l : List Int) : (l.flatMap (aZ rows 8)).length <= 768 * l.length := by
 induction l with
 | nil => simp
 | cons x l ih =>
   have := mP rows 8 x;rw [qbk, qb, qad]; omega
theorem zl0 (rows : List Row) {l : List Int} {i : Nat} (hi : i < l.length) : (l.take (i + 1)).flatMap (aZ rows 8) = (l.take i).flatMap (aZ rows 8) ++ aZ rows 8 l[i] := by
 rw [dE hi, List.flatMap_append]; simp
theorem zxk (hp : dN rows) (hk : iP rows) (hv : fY rows v) (n f : Bool) (L : List Int) (hr : R32 L) (hL : L.length < 1000000) : PCall qa 55 [v, .sl n f (aA L)] fun x => ∃ n f, x = .sl n f (aA (jN rows L)) := by
 have hv' := hv;obtain ⟨tc, tg, tj, tf, tp, made, sec, rfl, ht, hm⟩ := hv;refine zw6 _ _ _ _ _ _ _ _ _ _ (fun i h0 _ s => h0 = .ptr [tc, tg, tj, tf, tp, .mp (eS made), .mp (j7 sec)] /\ 0 <= i /\ i <= L.length /\ s = aA ((L.take i.toNat).flatMap (aZ rows 8))) (fun i _ _ _ => L.length - i.toNat) ?_;unfold zlq;refine ⟨rfl, ⟨rfl, rfl, qq _, by omega, rfl⟩, ?_⟩;rintro i h0 n1 _ ⟨rfl, i0, i1, rfl⟩;refine aD (fun hc => ?_) (fun hc => ?_)
 ·simp only [aB, bY] at hc;have hi : i.toNat < L.length := by omega
  obtain ⟨g1, g2⟩ := iE i0 hi;have hx := hr _ (qp hi);have hw : i64.wrap (i + 1) = i + 1 := aC (by omega) (by omega);have hfl := wZ rows (L.take i.toNat);rw [qj] at hfl;refine ⟨g1, L[i.toNat], by rw [g2]; rfl, ?_⟩;refine (zv1 _ _ hp ht 8 _ n1 _ (by omega) hx (by omega)).mono ?_;rintro r h' ⟨nl, rfl, rfl⟩;rw [hw];exact ⟨(nl, _), ⟨rfl, rfl⟩, ⟨trivial, trivial, trivial⟩, rfl, ⟨rfl, by omega, by omega, by rw [show (i + 1).toNat = i.toNat + 1 by omega, zl0 rows hi]; rfl⟩, by dsimp only; omega⟩
 ·simp only [aB, bY] at hc;rw [qh (by omega)];have hfl := wZ rows L;refine (zxj hk hv' n1 false _ (zlz hp hr) (by omega)).mono ?_;rintro _ ⟨n2, f2, rfl⟩;exact ⟨_, _, _, rfl, _, _, rfl⟩
theorem zxl (hp : dN rows) (hk : iP rows) (n f n2 f2 : Bool) (hrl : rows.length < 1000000) (L : List Int) (hr : R32 L) (hL : L.length < 1000000) : PCall qa 52 [.sl n f (bK rows), .sl n2 f2 (aA L)] fun x => ∃ n f, x = .sl n f (aA (jN rows L)) := by
 refine zw7 _ _ _ _ _ _ (fun i _ s => 0 <= i /\ i <= L.length /\ s = aA ((L.take i.toNat).flatMap (aZ rows 8))) (fun i _ _ => L.length - i.toNat) ?_;unfold zlr;refine ⟨⟨rfl, qq _, by omega, rfl⟩, ?_⟩;rintro i n1 _ ⟨i0, i1, rfl⟩;refine aD (fun hc => ?_) (fun hc => ?_)
 ·simp only [aB, bY] at hc;have hi : i.toNat < L.length := by omega
  obtain ⟨g1, g2⟩ := iE i0 hi;have hx := hr _ (qp hi);have hw : i64.wrap (i + 1) = i + 1 := aC (by omega) (by omega);have hfl := wZ rows (L.take i.toNat);rw [qj] at hfl;have hf1 := mP rows 8 L[i.toNat]
  have he : aA ((L.take i.toNat).flatMap (aZ rows 8)) ++ aA (aZ rows 8 L[i.toNat]) = aA ((L.take (i + 1).toNat).flatMap (aZ rows 8)) := by
   rw [show (i + 1).toNat = i.toNat + 1 by omega, zl0 rows hi, j8]
  refine ⟨g1, L[i.toNat], by rw [g2]; rfl, ?_⟩;rw [hw];refine (zvz hp n f hrl 8 _ (by omega) hx).mono ?_;rintro r h' (⟨nl, rfl, rfl⟩ | ⟨rfl, rfl⟩)
  ·exact .inl ⟨(nl, _), ⟨rfl, rfl⟩, trivial, ⟨eT _, by simp only [bY, qe]; omega⟩, rfl, ⟨by omega, by omega, he⟩, by dsimp only; omega⟩
  ·exact .inr ⟨_, ⟨rfl, rfl⟩, trivial, ⟨eT _, by rw [bY, bY]; omega⟩, rfl, ⟨by omega, by omega, he⟩, by dsimp only; omega⟩
 ·simp only [aB, bY] at hc;rw [qh (by omega)];have hfl := wZ rows L;refine (zxh hk n f n1 false _ hrl (by omega) (zlz hp hr)).mono ?_;rintro _ ⟨n2, f2, rfl⟩;exact ⟨_, _, _, rfl, _, _, rfl⟩
theorem zl1 (hk : iP rows) {l : List Int} (h : l.length < 1000000) : (jN rows l).length < 1000000000000 := by
 have := zrz hk l; omega
end
end Go.Eng
namespace Go.Eng
open Go Go.Proofs Go.Eng.Rows Go.Eng.Trie
end Go.Eng
namespace Go.Eng
open Go Go.Proofs
section
variable (a b : Int)
def zl2 (R : PV -> Prop) : Prop :=
 if (decide (a >= 4352) && decide (a < 4371) && decide (b >= 4449) && decide (b < 4470)) = true then R (PV.tup [Z3 (i32.wrap ((44032 : Int) + i32.wrap (i32.wrap (i32.wrap (i32.wrap (i32.wrap (a - 4352) * 21) + b) - 4449) * 28))), Zb true]) else PCall qa 131 [Z3 a] fun v => ∃ b1, v = Zb b1 /\ if (b1 && (i32.wrap (a - 44032)).tmod (28 : Int) == 0 && decide (b > 4519) && decide (b < 4547)) = true then R (PV.tup [Z3 (i32.wrap (i32.wrap (a + b) - 4519)), Zb true]) else R (PV.tup [Z3 0, Zb false])
theorem zxm {R : PV -> Prop} (h : zl2 a b R) : PCall qa 106 [.int .i32 a, .int .i32 b] R :=
 PCall.wz Tryz.func106 aP [0, 1, 4, 5, 6, 29] bF h
end
section
variable (tc tg tj tf tp : PV) (M S : List (PV × PV)) (a b : Int)
def zl3 (R : PV -> Prop) : Prop :=
 PCall qa 106 [Z3 a, Z3 b] fun v => ∃ vs, v = PV.tup vs /\ vs.length = 2 /\ ∃ x, vs.head? = some x /\ ∃ n, x = Z3 n /\ ∃ x1, vs.tail.head? = some x1 /\ ∃ b1, x1 = Zb b1 /\ if b1 = true then R (PV.tup [Z3 n, Zb true]) else PCall qa 107 [PV.ptr [tc, tg, tj, tf, tp, PV.mp M, PV.mp S], Z3 a, Z3 b] fun v1 => ∃ vs1, v1 = PV.tup vs1 /\ vs1.length = 2 /\ ∃ x2, vs1.head? = some x2 /\ ∃ n1, x2 = Z3 n1 /\ ∃ x3, vs1.tail.head? = some x3 /\ ∃ b2, x3 = Zb b2 /\ R (PV.tup [Z3 n1, Zb b2])
theorem zxn {R : PV -> Prop} (h : zl3 tc tg tj tf tp M S a b R) : PCall qa 80 [.ptr [tc, tg, tj, tf, tp, .mp M, .mp S], .int .i32 a, .int .i32 b] R :=
 PCall.wz Tryz.func80 aP [0, 1, 2, 6, 7, 8, 9, 16] bF h
end
def zdo (tc tg tj tf tp : PV) (M S : List (PV × PV)) (n f : Bool) (es : LL) (x6 x7 x16 : Int) (n_0 : Bool) (s_0 : LL) : Env × Hp := ([(0, LV.pv (PV.ptr [tc, tg, tj, tf, tp, PV.mp M, PV.mp S])), (5, LV.own 0), (6, Y6 x6), (7, Y6 x7), (14, LV.pv (PV.sl n f es)), (15, LV.pv (PV.int i64 (es.length : Int))), (16, Y6 x16)], [.sl (21, 1) true n_0 s_0])
section
variable (tc tg tj tf tp : PV) (M S : List (PV × PV)) (n f : Bool) (es : LL) (J : Int -> Int -> Int -> Bool -> LL -> Prop) (μ : Int -> Int -> Int -> Bool -> LL -> Nat)
def zl4 (R : PV -> Prop) : Prop :=
 (aH (zdo tc tg tj tf tp M S n f es (-1 : Int) (0 : Int) (0 : Int) true []) /\ J (-1 : Int) (0 : Int) (0 : Int) true []) /\ ∀ (x6 x7 x16 : Int) (n_0 : Bool) (s_0 : LL), J x6 x7 x16 n_0 s_0 ->
 let K5 := fun (y0_ y1_ y2_ : Int) (y3_ : Bool) (y4_ : LL) => aH (zdo tc tg tj tf tp M S n f es y0_ y1_ y2_ y3_ y4_) /\ J y0_ y1_ y2_ y3_ y4_ /\ μ y0_ y1_ y2_ y3_ y4_ < μ x6 x7 x16 n_0 s_0; if decide (x16 < (↑es.length :
  Int)) = true then aF es x16 1 /\ ∃ n1, (es.getD x16.toNat []).head? = some (Z3 n1) /\ PCall qa 71 [PV.ptr [tc, tg, tj, tf, tp, PV.mp M, PV.mp S], Z3 n1] fun v => ∃ n2, v = Z6 n2 /\
 let V1 := if (n2 == 0) = true then (aR [[Z3 n1]] 1 /\ (s_0.length + 1) * 4 <= 140737488355328) /\ K5 (↑s_0.length : Int) n2 (i64.wrap (x16 + 1)) (n_0 && false) (s_0 ++ [[Z3 n1]]) else (aR [[Z3 n1]] 1 /\ (s_0.length + 1) * 4 <=
  140737488355328) /\ K5 x6 n2 (i64.wrap (x16 + 1)) (n_0 && false) (s_0 ++ [[Z3 n1]]); if (decide (x6 >= 0) && (x6 == i64.wrap ((↑s_0.length : Int) - 1) || x7 != 0 && decide (x7 < n2))) = true then aF s_0 x6 1 /\ ∃ (n3 :
  Int), (qc 0 (s_0.getD x6.toNat [])).head? = some (Z3 n3) /\ PCall qa 80 [PV.ptr [tc, tg, tj, tf, tp, PV.mp M, PV.mp S], Z3 n3, Z3 n1] fun v1 => ∃ vs, v1 = PV.tup vs /\ vs.length = 2 /\ ∃ x, vs.head? =
  some x /\ ∃ n4, x = Z3 n4 /\ ∃ x1, vs.tail.head? = some x1 /\ ∃ b, x1 = Zb b /\ if b = true then aF s_0 x6 1 /\ (1 = 1 /\ 1 <= (s_0.getD x6.toNat []).length) /\ K5 x6 x7 (i64.wrap (x16 + 1)) n_0 (s_0.set
  x6.toNat (Z3 n4 :: zq (qc 1 (s_0.getD x6.toNat [])))) else V1 else V1 else R (PV.sl n_0 false s_0)
theorem zxo {R : PV -> Prop} (h : zl4 tc tg tj tf tp M S n f es J μ R) : PCall qa 54 [.ptr [tc, tg, tj, tf, tp, .mp M, .mp S], .sl n f es] R :=
 PCall.wz Tryz.func54 aP [0, 1, 4, 5, 6, 7, 9, 10, 11, 12, 13, 14, 15, 16, 17, 41, 52, 58] (c9 5 (bP cz5 (zdo tc tg tj tf tp M S n f es) J μ (fun e h => (gI e 6, gI e 7, gI e 16, oN h 0, oS h 0)) [(5, 21, 1)] [0, 5, 6, 7, 14, 15, 16] [])) h
end
section
variable (tc tg tj tf tp : PV) (M S : List (PV × PV)) (n f : Bool) (es : LL)
def zl5 (R : PV -> Prop) : Prop :=
 PCall qa 55 [PV.ptr [tc, tg, tj, tf, tp, PV.mp M, PV.mp S], PV.sl n f es] fun v => ∃ n1 f1 es1, v = PV.sl n1 f1 es1 /\ PCall qa 54 [PV.ptr [tc, tg, tj, tf, tp, PV.mp M, PV.mp S], PV.sl n1 f1 es1] fun v1 => ∃ n2 f2 es2, v1 = PV.sl n2 f2 es2 /\ R (PV.sl n2 f2 es2)
theorem zxp {R : PV -> Prop} (h : zl5 tc tg tj tf tp M S n f es R) : PCall qa 34 [.ptr [tc, tg, tj, tf, tp, .mp M, .mp S], .sl n f es] R :=
 PCall.wz Tryz.func34 aP [0, 1, 4] bF h
end
end Go.Eng
namespace Go.Eng
open Go Go.Proofs Go.Eng.Rows Go.Eng.Trie Go.Eng.Srt
def lC : Option Int -> PV
 | some r => .tup [.int .i32 r, .bool true]
 | none => .tup [.int .i32 0, .bool false]
theorem zxq {a b : Int} (ha : -2147483648 <= a /\ a <= 2147483647) (hb : -2147483648 <= b /\ b <= 2147483647) : PCall qa 106 [.int .i32 a, .int .i32 b] fun v => v = lC (eQ a b) := by
 refine zxm _ _ ?_; unfold zl2;refine aD (fun hc => ?_) (fun hc => ?_)
 ·simp only [qf, aB, ge_iff_le] at hc;have w1 : i32.wrap (a - 4352) = a - 4352 := dB (by omega) (by omega);have w2 : i32.wrap ((a - 4352) * 21) = (a - 4352) * 21 := dB (by omega) (by omega);have w3 : i32.wrap ((a - 4352) * 21 + b) = (a - 4352) * 21 + b := dB (by omega) (by omega);have w4 : i32.wrap ((a - 4352) * 21 + b - 4449) = (a - 4352) * 21 + b - 4449 := dB (by omega) (by omega);have w5 : i32.wrap (((a - 4352) * 21 + b - 4449) * 28) = ((a - 4352) * 21 + b - 4449) * 28 := dB (by omega) (by omega);have w6 : i32.wrap (44032 + ((a - 4352) * 21 + b - 4449) * 28) = 44032 + ((a - 4352) * 21 + b - 4449) * 28 := dB (by omega) (by omega);rw [w1, w2, w3, w4, w5, w6];unfold eQ;rw [if_pos (by omega)];simp only [lC];rw [show (a - 4352) * 21 + b - 4449 = (a - 4352) * 21 + (b - 4449) by omega]
 ·simp only [qf, aB, ge_iff_le] at hc;refine (zk3 a).mono ?_;rintro _ rfl;refine ⟨_, rfl, ?_⟩;have hn : ¬ ((4352 <= a /\ a < 4371) /\ 4449 <= b /\ b < 4470) := by omega
  cases hs : cD a with
  | false =>
    refine bZ (by simp) ?_;unfold eQ; rw [if_neg hn, if_neg (by rw [hs]; simp)]; rfl
  | true =>
    have hr := hs;simp only [cD, qf, aB] at hr;have w1 : i32.wrap (a - 44032) = a - 44032 := dB (by omega) (by omega);have e3 : (a - 44032).tmod 28 = (a - 44032) % 28 := qai (by omega);rw [w1, e3];refine aD (fun h2 => ?_) (fun h2 => ?_)
    ·simp only [qf, aB, gt_iff_lt, beq_iff_eq, qaj] at h2;have w2 : i32.wrap (a + b) = a + b := dB (by omega) (by omega);have w3 : i32.wrap (a + b - 4519) = a + b - 4519 := dB (by omega) (by omega);rw [w2, w3];unfold eQ; rw [if_neg hn, if_pos ⟨⟨hs, h2.1.1⟩, h2.1.2, h2.2⟩];simp only [lC];rw [show a + b - 4519 = a + (b - 4519) by omega]
    ·simp only [qf, aB, gt_iff_lt, beq_iff_eq, qaj] at h2;unfold eQ; rw [if_neg hn, if_neg (by omega)]; rfl
section
variable {rows : List Row} {v : PV}
theorem zxr (hp : dN rows) (h1 : eP rows) (hv : fY rows v) {a b : Int} (ha : -2147483648 <= a /\ a <= 2147483647) (hb : -2147483648 <= b /\ b <= 2147483647) : PCall qa 80 [v, .int .i32 a, .int .i32 b] fun x => x = lC (fI rows a b) := by
 obtain ⟨tc, tg, tj, tf, tp, made, sec, rfl, ht, hm⟩ := hv;refine zxn _ _ _ _ _ _ _ _ _ ?_; unfold zl3;refine (zxq ha hb).mono ?_;rintro _ rfl;unfold fI;cases eQ a b with
 | some r =>
   exact ⟨_, rfl, rfl, _, rfl, _, rfl, _, rfl, _, rfl, bV rfl rfl⟩
 | none =>
   refine ⟨_, rfl, rfl, _, rfl, _, rfl, _, rfl, _, rfl, bZ (by simp) ?_⟩;refine (zvw _ _ _ _ _ _ made a b).mono ?_;rintro _ rfl;rw [<- zr0 hp h1 hm a b];unfold wK;split
   ·exact ⟨_, rfl, rfl, _, rfl, _, rfl, _, rfl, _, rfl, rfl⟩
   ·cases cR (a, b) made with
    | none => exact ⟨_, rfl, rfl, _, rfl, _, rfl, _, rfl, _, rfl, rfl⟩
    | some r => exact ⟨_, rfl, rfl, _, rfl, _, rfl, _, rfl, _, rfl, rfl⟩
def dF (st : CSt) : Int := match st.s with | none => -1 | some _ => st.P.length
theorem zl6 {d : List Int} : ∀ m ∈ (bT rows d).M, aG rows 1 m ≠ 0 := by
 induction d using jM with
 | h0 => intro m hm; cases hm
 | h1 d r ih =>
   rw [iD];rcases qD rows (bT rows d) r with e | ⟨a, c, hs, hp, _, e⟩
   ·rw [e];unfold cX;split
    ·intro m hm; cases hm
    ·rename_i h0;intro m hm;rcases List.mem_append.1 hm with hm | hm
     ·exact ih m hm
     ·rw [qbe] at hm; subst hm; exact h0
   ·rw [e]; exact ih
def JC (rows : List Row) (L : List Int) (x6 x7 i : Int) (s : List (List PV)) : Prop := (0 <= i /\ i <= L.length) /\ s = aA (bT rows (L.take i.toNat)).out /\ x6 = dF (bT rows (L.take i.toNat)) /\ x7 = dO (aG rows 1) (bT rows (L.take i.toNat)).M
theorem JC.next {L : List Int} {i : Int} (h0 : 0 <= i) (hi : i.toNat < L.length) {st : CSt} (he : cV rows (bT rows (L.take i.toNat)) L[i.toNat] = st) : JC rows L (dF st) (dO (aG rows 1) st.M) (i + 1) (aA st.out) := by
 have e : bT rows (L.take (i + 1).toNat) = st := by
  rw [show (i + 1).toNat = i.toNat + 1 by omega, dE hi, iD, he]
 exact ⟨⟨by omega, by omega⟩, by rw [e], by rw [e], by rw [e]⟩
theorem zxs (hp : dN rows) (h1 : eP rows) (hv : fY rows v) (n f : Bool) (L : List Int) (hr : R32 L) (hL : L.length < 1000000000000) : PCall qa 54 [v, .sl n f (aA L)] fun x => ∃ n f, x = .sl n f (aA (iC rows L)) := by
 have hv' := hv;obtain ⟨tc, tg, tj, tf, tp, made, sec, rfl, ht, hm⟩ := hv;refine zxo _ _ _ _ _ _ _ _ _ _ (fun x6 x7 i _ s => JC rows L x6 x7 i s) (fun _ _ i _ _ => L.length - i.toNat) ?_;unfold zl4;refine ⟨⟨rfl, ⟨qq _, by omega⟩, rfl, rfl, rfl⟩, ?_⟩;rintro x6 x7 i n0 _ ⟨⟨i0, i1⟩, rfl, rfl, rfl⟩;refine aD (fun hc => ?_) (fun hc => ?_)
 ·simp only [aB, bY] at hc;have hi : i.toNat < L.length := by omega
  obtain ⟨g1, g2⟩ := iE i0 hi;have hx := hr _ (qp hi);have hw : i64.wrap (i + 1) = i + 1 := aC (by omega) (by omega);refine ⟨g1, L[i.toNat], by rw [g2]; rfl, ?_⟩;refine (wJ _ _ ht hx).mono ?_;rintro _ rfl;refine ⟨_, rfl, ?_⟩;rw [hw];have hlen := zaj rows (L.take i.toNat);have hrng := zak h1 (L.take i.toNat);have hnz := zl6 (rows := rows) (d := L.take i.toNat);have hnP := sW (rows := rows) (d := L.take i.toNat);rw [qj] at hlen;unfold iC at hlen hrng;have next := fun st => JC.next (rows := rows) (st := st) i0 hi
  generalize bT rows (L.take i.toNat) = st at *;have hmu : L.length - (i + 1).toNat < L.length - i.toNat := by omega
  have hsz : aR [[PV.int .i32 L[i.toNat]]] 1 /\ ((aA st.out).length + 1) * 4 <= 140737488355328 := ⟨eT [_], by rw [bY]; omega⟩;have hout : aA st.out ++ [[PV.int .i32 L[i.toNat]]] = aA (st.out ++ [L[i.toNat]]) := by rw [j8]; rfl
  have hl : ((aA st.out).length : Int) = st.out.length := by rw [bY]
  have app0 : cV rows st L[i.toNat] = cX (aG rows 1) st L[i.toNat] -> aG rows 1 L[i.toNat] = 0 -> JC rows L (aA st.out).length (aG rows 1 L[i.toNat]) (i + 1) (aA st.out ++ [[PV.int .i32 L[i.toNat]]]) := fun he h0 => by
   have := next _ (he.trans (by unfold cX; rw [if_pos h0]))
   rw [hout, hl, h0];simpa [dF, dO, CSt.out] using this
  have app1 : cV rows st L[i.toNat] = cX (aG rows 1) st L[i.toNat] -> aG rows 1 L[i.toNat] ≠ 0 -> JC rows L (dF st) (aG rows 1 L[i.toNat]) (i + 1) (aA st.out ++ [[PV.int .i32 L[i.toNat]]]) := fun he h0 => by
   have := next _ (he.trans (by unfold cX; rw [if_neg h0]))
   rw [hout];simp only [sV] at this;have e2 : st.out ++ [L[i.toNat]] = CSt.out ⟨st.P, st.s, st.M ++ [L[i.toNat]]⟩ := by simp [CSt.out]
   rw [e2];exact this
  refine aD (fun hf => ?_) (fun hf => ?_)
  ·simp only [qf, aB, ql, beq_iff_eq, bne_iff_ne, ne_eq, ge_iff_le] at hf;obtain ⟨hf1, hf2⟩ := hf;cases hs : st.s with
   | none => simp [dF, hs] at hf1
   | some a =>
     have hsi : dF st = st.P.length := by simp [dF, hs]
     have hol : st.out.length = st.P.length + 1 + st.M.length := by simp [CSt.out, hs]; omega
     have hw2 : i64.wrap ((aA st.out).length - 1) = st.out.length - 1 := by rw [hl]; exact aC (by omega) (by omega)
     have hfree : st.M = [] ∨ dO (aG rows 1) st.M < aG rows 1 L[i.toNat] := by
      rcases hf2 with h | h
      ·rw [hw2, hsi] at h;exact .inl (List.eq_nil_of_length_eq_zero (by omega))
      ·exact .inr h.2
     have hat : st.out[st.P.length]'(by omega) = a := by simp [CSt.out, hs]
     obtain ⟨k1, k2⟩ := iE (l := st.out) (i := dF st) (by omega) (by omega);have hta : (dF st).toNat = st.P.length := by omega
     have k3 : (aA st.out).getD (dF st).toNat [] = [PV.int .i32 a] := by
      rw [k2]; simp only [hta, hat]
     have ha : -2147483648 <= a /\ a <= 2147483647 := by
      rcases hrng a (by simp [CSt.out, hs]) with h | h
      ·exact hr a (qac h)
      ·omega
     refine ⟨k1, a, by rw [k3]; rfl, ?_⟩;refine (zxr hp h1 hv' ha hx).mono ?_;rintro _ rfl;cases hpc : fI rows a L[i.toNat] with
     | some c =>
       refine ⟨_, rfl, rfl, _, rfl, _, rfl, _, rfl, _, rfl, bV rfl ⟨k1, ⟨rfl, by rw [k3]; exact qk _⟩, rfl, ?_, by dsimp only; omega⟩⟩;rw [k3, hta]
       have he : cV rows st L[i.toNat] = ⟨st.P, some c, st.M⟩ := by
        unfold cV; rw [hs]; simp only; rw [if_pos hfree, hpc]
       have := next _ he
       have e2 : (aA st.out).set st.P.length [PV.int .i32 c] = aA (CSt.out ⟨st.P, some c, st.M⟩) := by
        simp [CSt.out, hs, aA]
       have e3 : dF ⟨st.P, some c, st.M⟩ = dF st := by rw [hsi]; rfl
       rw [e3] at this;show JC rows L (dF st) (dO (aG rows 1) st.M) (i + 1) ((aA st.out).set st.P.length [PV.int .i32 c]);rw [e2];exact this
     | none =>
       have he : cV rows st L[i.toNat] = cX (aG rows 1) st L[i.toNat] := by
        unfold cV; rw [hs]; simp only; rw [if_pos hfree, hpc]
       refine ⟨_, rfl, rfl, _, rfl, _, rfl, _, rfl, _, rfl, bZ (by simp) (aD (fun h0 => ?_) (fun h0 => ?_))⟩
       ·exact ⟨hsz, rfl, app0 he (by simpa using h0), by dsimp only; omega⟩
       ·exact ⟨hsz, rfl, app1 he (by simpa using h0), by dsimp only; omega⟩
  ·simp only [qf, aB, ql, beq_iff_eq, bne_iff_ne, ne_eq, ge_iff_le] at hf
   have he : cV rows st L[i.toNat] = cX (aG rows 1) st L[i.toNat] := by
    rcases qD rows st L[i.toNat] with e | ⟨a, c, hs, hpc, hfree, e⟩
    ·exact e
    ·have hsi : dF st = st.P.length := by simp [dF, hs]
     have hol : st.out.length = st.P.length + 1 + st.M.length := by simp [CSt.out, hs]; omega
     have hw2 : i64.wrap ((aA st.out).length - 1) = st.out.length - 1 := by rw [hl]; exact aC (by omega) (by omega)
     refine absurd ⟨by omega, ?_⟩ hf;by_cases hM : st.M = []
     ·left; rw [hw2, hsi, hol, hM]; simp
     ·right;obtain ⟨m, hm, e⟩ := zan (key := aG rows 1) hM;exact ⟨by rw [e]; exact hnz m hm, hfree.elim (fun e => absurd e hM) id⟩
   refine aD (fun h0 => ?_) (fun h0 => ?_)
   ·exact ⟨hsz, rfl, app0 he (by simpa using h0), by dsimp only; omega⟩
   ·exact ⟨hsz, rfl, app1 he (by simpa using h0), by dsimp only; omega⟩
 ·simp only [aB, bY] at hc;rw [qh (by omega)];exact ⟨_, _, rfl⟩
theorem zxt (hp : dN rows) (h1 : eP rows) (hk : iP rows) (hv : fY rows v) (n f : Bool) (L : List Int) (hr : R32 L) (hL : L.length < 1000000) : PCall qa 34 [v, .sl n f (aA L)] fun x => ∃ n f, x = .sl n f (aA (dT rows L)) := by
 have hv' := hv;obtain ⟨tc, tg, tj, tf, tp, made, sec, rfl, ht, hm⟩ := hv;refine zxp _ _ _ _ _ _ _ _ _ _ ?_; unfold zl5;refine (zxk hp hk hv' n f L hr hL).mono ?_;rintro _ ⟨n1, f1, rfl⟩;refine ⟨_, _, _, rfl, ?_⟩;refine (zxs hp h1 hv' _ _ _ (zaf hk hp hr) (zl1 hk hL)).mono ?_;rintro _ ⟨n2, f2, rfl⟩;exact ⟨_, _, _, rfl, _, _, rfl⟩
theorem zxu (hp : dN rows) (h1 : eP rows) (hk : iP rows) {l : List Int} (h : R32 l) : R32 (dT rows l) := fun x hx => by
 rcases zak h1 _ x hx with h2 | h2
 ·exact zaf hk hp h x h2
 ·omega
end
theorem v22 : Tryz.prog.underlying 22 = some (.slice 21) := by kernel_rfl
theorem v21 : Tryz.prog.underlying 21 = some (.int .i32) := by kernel_rfl
theorem zl7 {v : PV} (h : p8 qa 8 22 v) : ∃ nl l, v = .sl nl false (aA l) /\ R32 l := by
 obtain ⟨nl, l, e, hl, _, hr⟩ := zqn v22 v21 (zqo (by kernel_rfl) h);cases e;exact ⟨nl, l, rfl, hr⟩
end Go.Eng
namespace Go.Eng
open Go Go.Proofs
end Go.Eng
namespace Go.Eng
open Go Go.Proofs Go.Eng.Rows Go.Eng.Trie Go.Eng.Srt
theorem zl8 {t : PV} (ht : fY tab t) (n f : Bool) (L : List Int) (hr : R32 L) (hL : L.length < 1000000) : PCall qa 34 [t, .sl n f (aA L)] fun x => ∃ n f, x = .sl n f (aA (dT tab L)) := zxt wX tG wY ht n f L hr hL
theorem tH (n f n2 f2 : Bool) (a b : List Int) (hl : a.length < 1000000000000) : PCall qa 21 [.sl n f (aA a), .sl n2 f2 (aA b)] fun x => x = .bool (decide (a = b)) := zxg n f n2 f2 a b hl
theorem zdp {l : List Int} (h : R32 l) : R32 (dT tab l) := zxu wX tG wY h
theorem zl9 (l : List Int) (k : Nat) : (l.take k).length <= k := by rw [qj]; omega
theorem zma {len : Nat} {i j : Int} (h0 : 0 <= i) (h1 : i <= j) (h2 : j <= len) : fO len (some i) (some j) none := ⟨h0, h1, h2, trivial⟩
theorem zmb (L : List Int) (i j : Nat) : qc i (qal j (aA L)) = aA (fJ L i j) := by simp [aA, fJ]
theorem R32.sub {L : List Int} (h : R32 L) (i j : Nat) : R32 (fJ L i j) := fun x hx => h x (qac (List.mem_of_mem_drop hx))
theorem zxv (L : List Int) (i j : Nat) : (fJ L i j).length <= L.length := by unfold fJ; rw [qz, qj]; omega
theorem w3 : Tryz.prog.underlying 3 = some (.int .i64) := by kernel_rfl
end Go.Eng

namespace Go.Eng.Rows
open Go Go.Eng Go.Eng.Trie Go.Eng.Srt
def xA (rows : List Row) (hard : List Int) (lo hi : Int) : Bool := rows.all fun y => !(decide (y.kind = 4) && hard.contains y.a) || (decide (y.to < lo) || decide (hi < y.fr))
theorem zmc {rows : List Row} {hard : List Int} {lo hi r : Int} (h : xA rows hard lo hi = true) (h0 : hard.contains 0 = false) (h1 : hard.contains 12 = false) (h2 : hard.contains 13 = false) (hr : lo <= r /\ r <= hi) : hard.contains (aL rows r) = false := by
 unfold aL;split
 ·split <;> assumption
 ·unfold aG;cases hf : cH rows 4 r with
  | none => exact h0
  | some p =>
    obtain ⟨x, hx, hk, ha, _, h3, h4, _⟩ := kS hf;dsimp only;rw [<- ha];have := List.all_eq_true.1 h x hx;simp only [ql, qr, qay, aB, dJ] at this;rcases this with (h5 | h5) | h5 | h5
    ·exact absurd hk h5
    ·exact h5
    ·omega
    ·omega
def zxw (rows : List Row) : Bool := rows.all fun x =>
 (!(decide (x.kind = 5) && decide (x.a = 1)) || xA rows [1, 2, 3, 5] x.fr x.to) &&
 (!decide (x.kind = 6) || (xA rows [1, 2, 3] x.fr x.to && ((decide (0 <= x.a) && decide (x.a <= 2)) && (!decide (x.a = 1) || (decide (x.fr = x.to) && (decide (aL rows x.fr = 4) || (decide (aL rows x.fr = 5) || decide (aL rows x.fr = 8))))))))
theorem zxx {b : Int} (h : ([1, 2, 3] : List Int).contains b = false) : dA b = false := by
 simp only [qbg, qbl, qbv, qag, beq_eq_false_iff_ne, ne_eq] at h;unfold dA;simp only [qag, dJ]; omega
theorem zxy {rows : List Row} (h : zxw rows = true) : iR rows := by
 have hall := List.all_eq_true.1 h
 have h6 : ∀ r, aG rows 6 r ≠ 0 -> ∃ x ∈ rows, x.kind = 6 /\ x.a = aG rows 6 r /\ x.fr <= r /\ r <= x.to := fun r hr => by
  unfold aG at hr ⊢;cases hf : cH rows 6 r with
  | none => rw [hf] at hr; exact absurd rfl hr
  | some p =>
    obtain ⟨x, hx, hk, ha, _, h3, h4, _⟩ := kS hf;exact ⟨x, hx, hk, ha, h3, h4⟩
 have g6 : ∀ x ∈ rows, x.kind = 6 -> xA rows [1, 2, 3] x.fr x.to = true /\ (0 <= x.a /\ x.a <= 2) /\ (x.a ≠ 1 ∨ (x.fr = x.to /\ (aL rows x.fr = 4 ∨ aL rows x.fr = 5 ∨ aL rows x.fr = 8))) := fun x hx hk => by
  have := hall x hx;simp only [qf, ql, qr, aB, dJ] at this;rcases this.2 with h | h
  ·exact absurd hk h
  ·exact h
 refine ⟨fun r hr => ?_, fun r => ?_, fun r hr => ?_, fun r hr => ?_⟩
 ·unfold cJ at hr;cases hf : cH rows 5 r with
  | none => rw [hf] at hr; cases hr
  | some p =>
    rw [hf] at hr;obtain ⟨x, hx, hk, ha, _, h3, h4, _⟩ := kS hf;have := hall x hx;simp only [qf, ql, qr, qay, dJ] at this;rcases this.1 with (h5 | h5) | h5
    ·exact absurd hk h5
    ·exact absurd (ha.trans (of_decide_eq_true hr)) h5
    ·have := zmc h5 (by decide) (by decide) (by decide) ⟨h3, h4⟩;simp only [qbg, qbl, qbv, qag, beq_eq_false_iff_ne, ne_eq] at this;refine ⟨?_, this.2.2.2⟩;unfold dA;simp only [qag, dJ]; exact ⟨this.2.2.1, this.1, this.2.1⟩
 ·unfold cK;split
  ·rename_i hn;obtain ⟨x, hx, hk, ha, _, _⟩ := h6 r hn;have := (g6 x hx hk).2.1;omega
  ·split
   ·exact .inr (.inr (.inr rfl))
   ·exact .inl rfl
 ·unfold cK at hr;split at hr
  ·rename_i hn;obtain ⟨x, hx, hk, ha, h3, h4⟩ := h6 r hn;exact zxx (zmc (g6 x hx hk).1 (by decide) (by decide) (by decide) ⟨h3, h4⟩)
  ·split at hr
   ·rename_i h4;unfold dA;rcases h4.1 with e | e <;> rw [e] <;> rfl
   ·exact absurd rfl hr
 ·unfold cK at hr;split at hr
  ·rename_i hn;obtain ⟨x, hx, hk, ha, h3, h4⟩ := h6 r hn;obtain ⟨_, g2, g3⟩ := g6 x hx hk;have h1 : x.a = 1 := by omega
   obtain ⟨g4, g5⟩ := g3.resolve_left (fun h => h h1);rw [show r = x.fr by omega]; exact g5
  ·split at hr
   ·rename_i h4;rcases h4.1 with e | e
    ·exact .inl e
    ·exact .inr (.inl e)
   ·omega
end Go.Eng.Rows
namespace Go.Eng
open Go.Eng.Rows
theorem zdr : iR tab := zxy (by kernel_rfl)
end Go.Eng

namespace Go.Eng
open Go Go.Proofs
section
variable (tc tg tj tf tp : PV) (M S : List (PV × PV)) (r : Int)
def zmd (R : PV -> Prop) : Prop :=
 if (decide (r >= 44032) && decide (r <= 55203) && (i32.wrap (r - 44032)).tmod (28 : Int) == 0) = true then R (Z6 12) else if (decide (r >= 44032) && decide (r <= 55203)) = true then R (Z6 13) else (∃ ps, some tg = some (PV.ptr ps) /\ PCall qa 94 [PV.ptr ps, Z6 (i64.wrap r)] fun v => ∃ n, v = Z6 n /\ R (Z6 n)) ∨ some tg = some PV.nilp /\ PCall qa 94 [PV.nilp, Z6 (i64.wrap r)] fun v => ∃ n, v = Z6 n /\ R (Z6 n)
theorem zxz {R : PV -> Prop} (h : zmd tg r R) : PCall qa 102 [.ptr [tc, tg, tj, tf, tp, .mp M, .mp S], .int .i32 r] R :=
 PCall.wz Tryz.func102 aP [0, 1, 4, 5, 18, 25] bF h
end
section
variable (tc tg tj tf tp : PV) (M S : List (PV × PV)) (r : Int)
def zme (R : PV -> Prop) : Prop :=
 let V1 := PCall qa 102 [PV.ptr [tc, tg, tj, tf, tp, PV.mp M, PV.mp S], Z3 r] fun v1 => ∃ n1, v1 = Z6 n1 /\ if ((n1 == 4 || n1 == 5) && r != 8204) = true then R (Z6 3) else R (Z6 0); (∃ ps, some tj = some (PV.ptr ps) /\ PCall qa 94 [PV.ptr ps, Z6 (i64.wrap r)] fun v => ∃ n, v = Z6 n /\ if (n != 0) = true then R (Z6 n) else V1) ∨ some tj = some PV.nilp /\ PCall qa 94 [PV.nilp, Z6 (i64.wrap r)] fun v => ∃ n, v = Z6 n /\ if (n != 0) = true then R (Z6 n) else V1
theorem zx0 {R : PV -> Prop} (h : zme tc tg tj tf tp M S r R) : PCall qa 104 [.ptr [tc, tg, tj, tf, tp, .mp M, .mp S], .int .i32 r] R :=
 PCall.wz Tryz.func104 aP [0, 1, 4, 5, 6, 8, 17, 31] bF h
end
section
variable (tc tg tj tf tp : PV) (M S : List (PV × PV)) (r : Int)
def zmf (R : PV -> Prop) : Prop :=
 (∃ ps, some tf = some (PV.ptr ps) /\ PCall qa 70 [PV.ptr ps, Z6 (i64.wrap r)] fun v => ∃ cs, v = PV.agg cs /\ cs.length = 4 /\ ∃ b, cs.head? = some (Zb b) /\ ∃ b1, cs.tail.head? = some (Zb b1) /\ ∃ b2, cs.tail.tail.head? = some (Zb b2) /\ ∃ b3, cs.tail.tail.tail.head? = some (Zb b3) /\ R (Zb b)) ∨ some tf = some PV.nilp /\ PCall qa 70 [PV.nilp, Z6 (i64.wrap r)] fun v => ∃ cs, v = PV.agg cs /\ cs.length = 4 /\ ∃ b, cs.head? = some (Zb b) /\ ∃ b1, cs.tail.head? = some (Zb b1) /\ ∃ b2, cs.tail.tail.head? = some (Zb b2) /\ ∃ b3, cs.tail.tail.tail.head? = some (Zb b3) /\ R (Zb b)
theorem zx1 {R : PV -> Prop} (h : zmf tf r R) : PCall qa 103 [.ptr [tc, tg, tj, tf, tp, .mp M, .mp S], .int .i32 r] R :=
 PCall.wz Tryz.func103 aP [0, 1, 4] bF h
end
section
variable (n f : Bool) (es : LL) (r : Int)
def zmg (R : PV -> Prop) : Prop :=
 if (decide (r >= 44032) && decide (r <= 55203)) = true then if ((i32.wrap (r - 44032)).tmod (28 : Int) == 0) = true then R (Z6 12) else R (Z6 13) else PCall qa 128 [PV.sl n f es, Z6 4, Z3 r] fun v => ∃ n1, v = Z6 n1 /\ R (Z6 n1)
theorem zx2 {R : PV -> Prop} (h : zmg n f es r R) : PCall qa 122 [.sl n f es, .int .i32 r] R :=
 PCall.wz Tryz.func122 aP [0, 1, 4, 10, 14] bF h
end
section
variable (n f : Bool) (es : LL) (r : Int)
def zmh (R : PV -> Prop) : Prop :=
 PCall qa 128 [PV.sl n f es, Z6 6, Z3 r] fun v => ∃ n1, v = Z6 n1 /\ if (n1 != 0) = true then R (Z6 n1) else PCall qa 122 [PV.sl n f es, Z3 r] fun v1 => ∃ n2, v1 = Z6 n2 /\ if ((n2 == 4 || n2 == 5) && r != 8204) = true then R (Z6 3) else R (Z6 0)
theorem zx3 {R : PV -> Prop} (h : zmh n f es r R) : PCall qa 139 [.sl n f es, .int .i32 r] R :=
 PCall.wz Tryz.func139 aP [0, 1, 4, 5, 6, 11, 25] bF h
end
section
variable (a b : Int)
def zmi (R : PV -> Prop) : Prop :=
 let X := if (a == 13) = true then if (a == 13) = true then R (Zb (b == 11)) else R (Zb false) else if (a == 11) = true then R (Zb (b == 11)) else R (Zb false)
 let A := if (a == 7) = true then R (Zb true) else if (a == 9) = true then R (Zb (b == 9 || b == 10 || b == 12 || b == 13)) else if (a == 12) = true then if (a == 12) = true then R (Zb (b == 10 || b == 11)) else X else if (a == 10) = true then R (Zb (b == 10 || b == 11)) else X
 let B := if (b == 4) = true then if (b == 4) = true then R (Zb true) else A else if (b == 5) = true then if (b == 5) = true then R (Zb true) else A else if (b == 8) = true then R (Zb true) else A
 let C := if (b == 1) = true then if (b == 1) = true then R (Zb false) else B else if (b == 2) = true then if (b == 2) = true then R (Zb false) else B else if (b == 3) = true then R (Zb false) else B
 if (a == 1) = true then R (Zb (b == 2)) else if (a == 2) = true then if (a == 2) = true then R (Zb false) else C else if (a == 3) = true then R (Zb false) else C
theorem zx4 {R : PV -> Prop} (h : zmi a b R) : PCall qa 105 [.int .i64 a, .int .i64 b] R :=
 PCall.wz Tryz.func105 aP [0, 1, 4, 5, 6, 10, 13, 14, 18, 22, 23, 25, 41, 50] bF h
end
section
variable (so od : Bool) (la pi co : Int) (tc tg tj tf tp : PV) (M S : List (PV × PV)) (r : Int)
def zmj (R : PV -> Prop) : Prop :=
 PCall qa 102 [PV.ptr [tc, tg, tj, tf, tp, PV.mp M, PV.mp S], Z3 r] fun v => ∃ n, v = Z6 n /\ PCall qa 103 [PV.ptr [tc, tg, tj, tf, tp, PV.mp M, PV.mp S], Z3 r] fun v1 => ∃ b, v1 = Zb b /\ PCall
 qa 104 [PV.ptr [tc, tg, tj, tf, tp, PV.mp M, PV.mp S], Z3 r] fun v2 => ∃ n1, v2 = Z6 n1 /\ PCall qa 105 [Z6 la, Z6 n] fun v3 => ∃ b1, v3 = Zb b1 /\
 let C : Int -> Bool -> Bool -> Prop := fun p o c => if (n1 == 2) = true then R (PV.tup [PV.agg [Zb true, Z6 n, Z6 p, Z6 1, Zb o], Zb c]) else if (co != 0 && n1 == 1) = true then R (PV.tup [PV.agg [Zb true, Z6 n, Z6 p, Z6 2, Zb o], Zb c]) else if (co != 0 && n1 == 3) = true then R (PV.tup [PV.agg [Zb true, Z6 n, Z6 p, Z6 co, Zb o], Zb c]) else R (PV.tup [PV.agg [Zb true, Z6 n, Z6 p, Z6 0, Zb o], Zb c])
 let D : Bool -> Bool -> Prop := fun o c => if b = true then C 1 o c else if (pi == 1 && n == 4) = true then C 1 o c else if (pi == 1 && n == 5) = true then C 2 o c else C 0 o c
 let E : Bool -> Prop := fun c => if (n == 6) = true then D (!od) c else D false c
 if (!b1) = true then if (!(pi == 2 && b)) = true then if (!(co == 2 && n1 == 2)) = true then E (!so || !(od && n == 6)) else E (!so || false) else E (!so || false) else E (!so || false)
theorem zx5 {R : PV -> Prop} (h : zmj so od la pi co tc tg tj tf tp M S r R) : PCall qa 79 [.agg [.bool so, .int .i64 la, .int .i64 pi, .int .i64 co, .bool od], .ptr [tc, tg, tj, tf, tp, .mp M, .mp S], .int .i32 r] R :=
 PCall.wz Tryz.func79 aP [0, 1, 2, 3, 6, 7, 8, 9, 10, 11, 12, 64, 67, 76, 85, 89, 98] bF h
end
def zds (tc tg tj tf tp : PV) (M S : List (PV × PV)) (n f : Bool) (es : LL) (x2 : Int) (h0_0 : Bool) (h0_1 h0_2 h0_3 : Int) (h0_4 : Bool) : Env × Hp := ([(0, LV.pv (PV.ptr [tc, tg, tj, tf, tp, PV.mp M, PV.mp S])), (1, LV.pv (PV.sl n f es)), (2, Y6 x2), (7, LV.box 0 0)], [.box [.pv (.bool h0_0), Y6 h0_1, Y6 h0_2, Y6 h0_3, .pv (.bool h0_4)]])
section
variable (tc tg tj tf tp : PV) (M S : List (PV × PV)) (n f : Bool) (es : LL) (k : Int) (J : Int -> Bool -> Int -> Int -> Int -> Bool -> Prop) (μ : Int -> Bool -> Int -> Int -> Int -> Bool -> Nat)
def zmk (R : PV -> Prop) : Prop :=
 if (decide (k < 0) || decide (k >= (↑es.length : Int))) = true then R (Z6 (↑es.length : Int)) else aF es k 1 /\ ∃ n1, (es.getD k.toNat []).head? = some (Z3 n1) /\ PCall qa 79 [PV.agg [Zb false, Z6 0, Z6 0, Z6 0, Zb false],
  PV.ptr [tc, tg, tj, tf, tp, PV.mp M, PV.mp S], Z3 n1] fun v => ∃ vs, v = PV.tup vs /\ vs.length = 2 /\ ∃ x, vs.head? = some x /\ ∃ cs, x = PV.agg cs /\ cs.length = 5 /\ ∃ b, cs.head? = some (Zb b)
  /\ ∃ n2, cs.tail.head? = some (Z6 n2) /\ ∃ n3, cs.tail.tail.head? = some (Z6 n3) /\ ∃ n4, cs.tail.tail.tail.head? = some (Z6 n4) /\ ∃ b1, cs.tail.tail.tail.tail.head? = some (Zb b1) /\ ∃ (x1 : PV),
  vs.tail.head? = some x1 /\ ∃ b2, x1 = Zb b2 /\ (aH (zds tc tg tj tf tp M S n f es (i64.wrap (k + 1)) b n2 n3 n4 b1) /\ J (i64.wrap (k + 1)) b n2 n3 n4 b1) /\ ∀ (x2 : Int) (h0_0 : Bool) (h0_1 h0_2 h0_3 : Int)
  (h0_4 : Bool), J x2 h0_0 h0_1 h0_2 h0_3 h0_4 ->
 let K5 := fun (y0_ : Int) (y1_ : Bool) (y2_ y3_ y4_ : Int) (y5_ : Bool) => aH (zds tc tg tj tf tp M S n f es y0_ y1_ y2_ y3_ y4_ y5_) /\ J y0_ y1_ y2_ y3_ y4_ y5_ /\ μ y0_ y1_ y2_ y3_ y4_ y5_ < μ x2 h0_0 h0_1 h0_2 h0_3
  h0_4; if decide (x2 < (↑es.length : Int)) = true then aF es x2 1 /\ ∃ n5, (es.getD x2.toNat []).head? = some (Z3 n5) /\ (PCall qa 79 [PV.agg [Zb h0_0, Z6 h0_1, Z6 h0_2, Z6 h0_3, Zb h0_4], PV.ptr [tc, tg, tj, tf, tp, PV.mp
  M, PV.mp S], Z3 n5] fun v1 => ∃ vs1, v1 = PV.tup vs1 /\ vs1.length = 2 /\ ∃ x3, vs1.head? = some x3 /\ ∃ cs1, x3 = PV.agg cs1 /\ cs1.length = 5 /\ ∃ b3, cs1.head? = some (Zb b3) /\ ∃ (n6 : Int),
  cs1.tail.head? = some (Z6 n6) /\ ∃ n7, cs1.tail.tail.head? = some (Z6 n7) /\ ∃ n8, cs1.tail.tail.tail.head? = some (Z6 n8) /\ ∃ b4, cs1.tail.tail.tail.tail.head? = some (Zb b4) /\ ∃ x4, vs1.tail.head? = some
  x4 /\ ∃ b5, x4 = Zb b5 /\
 let V1 := if b5 = true then R (Z6 x2) else K5 (i64.wrap (x2 + 1)) b3 n6 n7 n8 b4; V1 /\ V1 /\ V1) /\ PCall qa 79 [PV.agg [Zb h0_0, Z6 h0_1, Z6 h0_2, Z6 h0_3, Zb h0_4], PV.ptr [tc, tg, tj, tf, tp, PV.mp M, PV.mp S], Z3 n5] fun
  (v1 : PV) => ∃ vs1, v1 = PV.tup vs1 /\ vs1.length = 2 /\ ∃ x3, vs1.head? = some x3 /\ ∃ cs1, x3 = PV.agg cs1 /\ cs1.length = 5 /\ ∃ b3, cs1.head? = some (Zb b3) /\ ∃ n6, cs1.tail.head? = some (Z6
  n6) /\ ∃ n7, cs1.tail.tail.head? = some (Z6 n7) /\ ∃ n8, cs1.tail.tail.tail.head? = some (Z6 n8) /\ ∃ b4, cs1.tail.tail.tail.tail.head? = some (Zb b4) /\ ∃ x4, vs1.tail.head? = some x4 /\ ∃ b5, x4 = Zb
  b5 /\
 let V2 := if b5 = true then R (Z6 x2) else K5 (i64.wrap (x2 + 1)) b3 n6 n7 n8 b4; V2 /\ V2 else R (Z6 x2)
theorem zx6 {R : PV -> Prop} (h : zmk tc tg tj tf tp M S n f es k J μ R) : PCall qa 53 [.ptr [tc, tg, tj, tf, tp, .mp M, .mp S], .sl n f es, .int .i64 k] R :=
 PCall.wz Tryz.func53 aP [0, 1, 2, 6, 7, 9, 10, 18, 36, 49] (c9 5 (bP cz6 (zds tc tg tj tf tp M S n f es) J μ (fun e h => (gI e 2, hB h 0 0, hI h 0 1, hI h 0 2, hI h 0 3, hB h 0 4)) [] [0, 1, 2, 7] [])) h
end
def zdt (tc tg tj tf tp : PV) (M S : List (PV × PV)) (n f : Bool) (es : LL) (x6 : Int) (n_0 : Bool) (s_0 : LL) : Env × Hp := ([(0, LV.pv (PV.ptr [tc, tg, tj, tf, tp, PV.mp M, PV.mp S])), (1, LV.pv (PV.sl n f es)), (5, LV.own 0), (6, Y6 x6)], [.sl (22, 1) true n_0 s_0])
section
variable (tc tg tj tf tp : PV) (M S : List (PV × PV)) (n f : Bool) (es : LL) (J : Int -> Bool -> LL -> Prop) (μ : Int -> Bool -> LL -> Nat)
def zml (R : PV -> Prop) : Prop :=
 (aH (zdt tc tg tj tf tp M S n f es (0 : Int) true []) /\ J (0 : Int) true []) /\ ∀ (x6 : Int) (n_0 : Bool) (s_0 : LL), J x6 n_0 s_0 -> if decide (x6 < (↑es.length : Int)) = true then PCall qa 53 [PV.ptr [tc, tg, tj, tf, tp, PV.mp M, PV.mp S], PV.sl n f es, Z6 x6] fun v => ∃ n1, v = Z6 n1 /\ (fO es.length (some x6) (some n1) none /\ aR es 1) /\ PCall qa 47 [PV.sl n (f && decide (n1 = (↑es.length : Int))) (qc x6.toNat (qal n1.toNat es))] fun v1 => ∃ n2 f1 es1, v1 = PV.sl n2 f1 es1 /\ (aR [[PV.sl n2 f1 es1]] 1 /\ (s_0.length + 1) * 24 <= 140737488355328) /\ aH (zdt tc tg tj tf tp M S n f es n1 (n_0 && false) (s_0 ++ [[PV.sl n2 f1 es1]])) /\ J n1 (n_0 && false) (s_0 ++ [[PV.sl n2 f1 es1]]) /\ μ n1 (n_0 && false) (s_0 ++ [[PV.sl n2 f1 es1]]) < μ x6 n_0 s_0 else R (PV.sl n_0 false s_0)
theorem zx7 {R : PV -> Prop} (h : zml tc tg tj tf tp M S n f es J μ R) : PCall qa 33 [.ptr [tc, tg, tj, tf, tp, .mp M, .mp S], .sl n f es] R :=
 PCall.wz Tryz.func33 aP [0, 1, 4, 5, 6, 7, 11] (c9 3 (bP eC (zdt tc tg tj tf tp M S n f es) J μ (fun e h => (gI e 6, oN h 0, oS h 0)) [(5, 22, 1)] [0, 1, 5, 6] [])) h
end
section
variable (a : Int)
def zmm (R : PV -> Prop) : Prop :=
 R (Zb (a == 3 || a == 1 || a == 2))
theorem zx8 {R : PV -> Prop} (h : zmm a R) : PCall qa 123 [.int .i64 a] R :=
 PCall.wz Tryz.func123 aP [0, 2] bF h
end
section
variable (a b : Int)
def zmn (R : PV -> Prop) : Prop :=
 if (a == 9) = true then R (Zb (b == 9 || b == 10 || b == 12 || b == 13)) else if (a == 12 || a == 10) = true then R (Zb (b == 10 || b == 11)) else if (a == 13 || a == 11) = true then R (Zb (b == 11)) else R (Zb false)
theorem zx9 {R : PV -> Prop} (h : zmn a b R) : PCall qa 124 [.int .i64 a, .int .i64 b] R :=
 PCall.wz Tryz.func124 aP [0, 1, 4, 6, 26, 38] bF h
end
def zdu (n f : Bool) (es : LL) (n2 f2 : Bool) (ss : LL) (x7 : Bool) (x8 : Int) : Env × Hp := ([(0, LV.pv (PV.sl n f es)), (1, LV.pv (PV.sl n2 f2 ss)), (7, .pv (.bool x7)), (8, Y6 x8)], [])
section
variable (n f : Bool) (es : LL) (n2 f2 : Bool) (ss : LL) (k : Int) (J : Bool -> Int -> Prop) (μ : Bool -> Int -> Nat)
def zmo (R : PV -> Prop) : Prop :=
 aF ss k 1 /\ ∃ n1, (ss.getD k.toNat []).head? = some (Z3 n1) /\ PCall qa 139 [PV.sl n f es, Z3 n1] fun v => ∃ n3, v = Z6 n3 /\ if (n3 != 2) = true then R (Zb false) else (aH (zdu n f es n2 f2 ss false (i64.wrap (k - 1))) /\ J false (i64.wrap (k - 1))) /\ ∀ (x7 : Bool) (x8 : Int), J x7 x8 ->
 let K5 := fun (y0_ : Bool) (y1_ : Int) => aH (zdu n f es n2 f2 ss y0_ y1_) /\ J y0_ y1_ /\ μ y0_ y1_ < μ x7 x8; if decide (x8 >= 0) = true then aF ss x8 1 /\ ∃ n4, (ss.getD x8.toNat []).head? = some (Z3 n4) /\ PCall qa 139 [PV.sl n f es, Z3 n4] fun v1 => ∃ n5, v1 = Z6 n5 /\ if (n5 == 2) = true then R (Zb x7) else if (n5 == 0) = true then R (Zb false) else if (n5 == 1) = true then K5 true (i64.wrap (x8 - 1)) else K5 x7 (i64.wrap (x8 - 1)) else R (Zb false)
theorem zya {R : PV -> Prop} (h : zmo n f es n2 f2 ss k J μ R) : PCall qa 125 [.sl n f es, .sl n2 f2 ss, .int .i64 k] R :=
 PCall.wz Tryz.func125 aP [0, 1, 2, 6, 7, 8, 9, 16, 20, 30, 33, 35] (c9 5 (bP jK (zdu n f es n2 f2 ss) J μ (fun e h => (gB e 7, gI e 8)) [] [0, 1, 7, 8] [])) h
end
def zdv (n f : Bool) (es : LL) (n2 f2 : Bool) (ss : LL) (x7 : Int) : Env × Hp := ([(0, LV.pv (PV.sl n f es)), (1, LV.pv (PV.sl n2 f2 ss)), (7, Y6 x7)], [])
section
variable (n f : Bool) (es : LL) (n2 f2 : Bool) (ss : LL) (k : Int) (J : Int -> Prop) (μ : Int -> Nat)
def zmp (R : PV -> Prop) : Prop :=
 aF ss k 1 /\ ∃ n1, (ss.getD k.toNat []).head? = some (Z3 n1) /\ PCall qa 128 [PV.sl n f es, Z6 5, Z3 n1] fun v => ∃ n3, v = Z6 n3 /\ if (n3 != 1) = true then R (Zb false) else aF ss (i64.wrap (k - 1)) 1 /\ ∃ n4, (ss.getD (i64.wrap (k - 1)).toNat []).head? = some (Z3 n4) /\ PCall qa 122 [PV.sl n f es, Z3 n4] fun v1 => ∃ n5, v1 = Z6 n5 /\ if (n5 != 5) = true then R (Zb false) else (aH (zdv n f es n2 f2 ss (i64.wrap (k - 2))) /\ J (i64.wrap (k - 2))) /\ ∀ (x7 : Int), J x7 -> if decide (x7 >= 0) = true then aF ss x7 1 /\ ∃ n6, (ss.getD x7.toNat []).head? = some (Z3 n6) /\ PCall qa 128 [PV.sl n f es, Z6 5, Z3 n6] fun v2 => ∃ n7, v2 = Z6 n7 /\ if (n7 == 1) = true then R (Zb true) else aF ss x7 1 /\ ∃ n8, (ss.getD x7.toNat []).head? = some (Z3 n8) /\ PCall qa 122 [PV.sl n f es, Z3 n8] fun v3 => ∃ n9, v3 = Z6 n9 /\ if (n9 != 4) = true then R (Zb false) else aH (zdv n f es n2 f2 ss (i64.wrap (x7 - 1))) /\ J (i64.wrap (x7 - 1)) /\ μ (i64.wrap (x7 - 1)) < μ x7 else R (Zb false)
theorem zyb {R : PV -> Prop} (h : zmp n f es n2 f2 ss k J μ R) : PCall qa 126 [.sl n f es, .sl n2 f2 ss, .int .i64 k] R :=
 PCall.wz Tryz.func126 aP [0, 1, 2, 6, 7, 24, 28, 37, 44] (c9 4 (bP cz1 (zdv n f es n2 f2 ss) J μ (fun e h => (((gI e 7), ()))) [] [0, 1, 7] [])) h
end
def zdw (n f : Bool) (es : LL) (n2 f2 : Bool) (ss : LL) (x7 x8 : Int) : Env × Hp := ([(0, LV.pv (PV.sl n f es)), (1, LV.pv (PV.sl n2 f2 ss)), (7, Y6 x7), (8, Y6 x8)], [])
section
variable (n f : Bool) (es : LL) (n2 f2 : Bool) (ss : LL) (k : Int) (J : Int -> Int -> Prop) (μ : Int -> Int -> Nat)
def zmq (R : PV -> Prop) : Prop :=
 aF ss k 1 /\ ∃ n1, (ss.getD k.toNat []).head? = some (Z3 n1) /\ PCall qa 122 [PV.sl n f es, Z3 n1] fun v => ∃ n3, v = Z6 n3 /\ if (n3 != 6) = true then R (Zb false) else (aH (zdw n f es n2 f2 ss (0 : Int) (i64.wrap (k - 1))) /\ J (0 : Int) (i64.wrap (k - 1))) /\ ∀ (x7 x8 : Int), J x7 x8 -> if decide (x8 >= 0) = true then aF ss x8 1 /\ ∃ n4, (ss.getD x8.toNat []).head? = some (Z3 n4) /\ PCall qa 122 [PV.sl n f es, Z3 n4] fun v1 => ∃ n5, v1 = Z6 n5 /\ if (n5 == 6) = true then aH (zdw n f es n2 f2 ss (i64.wrap (x7 + 1)) (i64.wrap (x8 - 1))) /\ J (i64.wrap (x7 + 1)) (i64.wrap (x8 - 1)) /\ μ (i64.wrap (x7 + 1)) (i64.wrap (x8 - 1)) < μ x7 x8 else R (Zb (x7.tmod (2 : Int) == 1)) else R (Zb (x7.tmod (2 : Int) == 1))
theorem zyc {R : PV -> Prop} (h : zmq n f es n2 f2 ss k J μ R) : PCall qa 127 [.sl n f es, .sl n2 f2 ss, .int .i64 k] R :=
 PCall.wz Tryz.func127 aP [0, 1, 2, 6, 7, 8, 15, 28] (c9 5 (bP jK (zdw n f es n2 f2 ss) J μ (fun e h => (gI e 7, gI e 8)) [] [0, 1, 7, 8] [])) h
end
section
variable (n f : Bool) (es : LL) (n2 f2 : Bool) (ss : LL) (k : Int)
def zmr (R : PV -> Prop) : Prop :=
 if (k == 0) = true then R (Zb true) else aF ss (i64.wrap (k - 1)) 1 /\ ∃ n1, (ss.getD (i64.wrap (k - 1)).toNat []).head? = some (Z3 n1) /\ aF ss k 1 /\ ∃ n3, (ss.getD k.toNat []).head? = some (Z3 n3) /\ PCall qa 122 [PV.sl n f es, Z3 n1] fun v => ∃ n4, v = Z6 n4 /\ PCall qa 122 [PV.sl n f es, Z3 n3] fun v1 => ∃ n5, v1 = Z6 n5 /\ if (n4 == 1 && n5 == 2) = true then R (Zb false) else PCall qa 123 [Z6 n4] fun v2 => ∃ b, v2 = Zb b /\ if b = true then R (Zb true) else PCall qa 123 [Z6 n5] fun v3 => ∃ b1, v3 = Zb b1 /\ if b1 = true then R (Zb true) else PCall qa 124 [Z6 n4, Z6 n5] fun v4 => ∃ b2, v4 = Zb b2 /\ if (b2 || n5 == 4 || n5 == 5 || n5 == 8 || n4 == 7) = true then R (Zb false) else PCall qa 125 [PV.sl n f es, PV.sl n2 f2 ss, Z6 k] fun v5 => ∃ b3, v5 = Zb b3 /\ if (!b3) = true then PCall qa 126 [PV.sl n f es, PV.sl n2 f2 ss, Z6 k] fun v6 => ∃ b4, v6 = Zb b4 /\ if (!b4) = true then PCall qa 127 [PV.sl n f es, PV.sl n2 f2 ss, Z6 k] fun v7 => ∃ b5, v7 = Zb b5 /\ R (Zb !b5) else R (Zb false) else R (Zb false)
theorem zyd {R : PV -> Prop} (h : zmr n f es n2 f2 ss k R) : PCall qa 95 [.sl n f es, .sl n2 f2 ss, .int .i64 k] R :=
 PCall.wz Tryz.func95 aP [0, 1, 2, 6, 7, 8, 10, 29, 35, 54] bF h
end
def zdx (n f : Bool) (es : LL) (n2 f2 : Bool) (ss : LL) (x7 : Int) : Env × Hp := ([(0, LV.pv (PV.sl n f es)), (1, LV.pv (PV.sl n2 f2 ss)), (7, Y6 x7)], [])
section
variable (n f : Bool) (es : LL) (n2 f2 : Bool) (ss : LL) (k : Int) (J : Int -> Prop) (μ : Int -> Nat)
def zms (R : PV -> Prop) : Prop :=
 (aH (zdx n f es n2 f2 ss (i64.wrap (k + 1))) /\ J (i64.wrap (k + 1))) /\ ∀ (x7 : Int), J x7 -> if decide (x7 < (↑ss.length : Int)) = true then PCall qa 95 [PV.sl n f es, PV.sl n2 f2 ss, Z6 x7] fun v => ∃ b, v = Zb b /\ if b = true then R (Z6 x7) else aH (zdx n f es n2 f2 ss (i64.wrap (x7 + 1))) /\ J (i64.wrap (x7 + 1)) /\ μ (i64.wrap (x7 + 1)) < μ x7 else R (Z6 (↑ss.length : Int))
theorem zye {R : PV -> Prop} (h : zms n f es n2 f2 ss k J μ R) : PCall qa 72 [.sl n f es, .sl n2 f2 ss, .int .i64 k] R :=
 PCall.wz Tryz.func72 aP [0, 1, 2, 6, 7, 13, 19] (c9 2 (bP cz1 (zdx n f es n2 f2 ss) J μ (fun e h => (((gI e 7), ()))) [] [0, 1, 7] [])) h
end
def zdy (n f : Bool) (es : LL) (n2 f2 : Bool) (ss : LL) (x6 : Int) (n_0 : Bool) (s_0 : LL) : Env × Hp := ([(0, LV.pv (PV.sl n f es)), (1, LV.pv (PV.sl n2 f2 ss)), (5, LV.own 0), (6, Y6 x6)], [.sl (22, 1) true n_0 s_0])
section
variable (n f : Bool) (es : LL) (n2 f2 : Bool) (ss : LL) (J : Int -> Bool -> LL -> Prop) (μ : Int -> Bool -> LL -> Nat)
def zmt (R : PV -> Prop) : Prop :=
 (aH (zdy n f es n2 f2 ss (0 : Int) true []) /\ J (0 : Int) true []) /\ ∀ (x6 : Int) (n_0 : Bool) (s_0 : LL), J x6 n_0 s_0 -> if decide (x6 < (↑ss.length : Int)) = true then PCall qa 72 [PV.sl n f es, PV.sl n2 f2 ss, Z6 x6] fun v => ∃ n1, v = Z6 n1 /\ (fO ss.length (some x6) (some n1) none /\ aR ss 1) /\ (aR [[PV.sl n2 (f2 && decide (n1 = (↑ss.length : Int))) (qc x6.toNat (qal n1.toNat ss))]] 1 /\ (s_0.length + 1) * 24 <= 140737488355328) /\ aH (zdy n f es n2 f2 ss n1 (n_0 && false) (s_0 ++ [[PV.sl n2 (f2 && decide (n1 = (↑ss.length : Int))) (qc x6.toNat (qal n1.toNat ss))]])) /\ J n1 (n_0 && false) (s_0 ++ [[PV.sl n2 (f2 && decide (n1 = (↑ss.length : Int))) (qc x6.toNat (qal n1.toNat ss))]]) /\ μ n1 (n_0 && false) (s_0 ++ [[PV.sl n2 (f2 && decide (n1 = (↑ss.length : Int))) (qc x6.toNat (qal n1.toNat ss))]]) < μ x6 n_0 s_0 else R (PV.sl n_0 false s_0)
theorem zyf {R : PV -> Prop} (h : zmt n f es n2 f2 ss J μ R) : PCall qa 46 [.sl n f es, .sl n2 f2 ss] R :=
 PCall.wz Tryz.func46 aP [0, 1, 4, 5, 6, 7, 11] (c9 3 (bP eC (zdy n f es n2 f2 ss) J μ (fun e h => (gI e 6, oN h 0, oS h 0)) [(5, 22, 1)] [0, 1, 5, 6] [])) h
end
end Go.Eng
namespace Go.Eng
open Go Go.Proofs Go.Eng.Rows Go.Eng.Trie Go.Eng.Srt
def zdz (st : SSt) : PV := .agg [.bool st.some, .int .i64 st.last, .int .i64 st.pict, .int .i64 st.conj, .bool st.odd]
theorem zmu {r : Int} (h : 44032 <= r /\ r <= 55203) : i32.wrap (r - 44032) = r - 44032 := dB (by omega) (by omega)
section
variable {rows : List Row} {v : PV}
theorem zmv (hv : fY rows v) {r : Int} (hr : -2147483648 <= r /\ r <= 2147483647) : PCall qa 102 [v, .int .i32 r] fun x => x = .int .i64 (aL rows r) := by
 obtain ⟨tc, tg, tj, tf, tp, made, sec, rfl, ht, hm⟩ := hv;refine zxz _ _ _ _ _ _ _ _ ?_; unfold zmd;by_cases hh : 44032 <= r /\ r <= 55203
 ·rw [zmu hh];by_cases hm28 : (r - 44032).tmod 28 = 0
  ·refine bV (by simp [hh, hm28]) ?_;unfold aL; rw [if_pos hh, if_pos hm28]
  ·refine bZ (by simp [hm28]) (bV (by simp [hh]) ?_);unfold aL; rw [if_pos hh, if_neg hm28]
 ·refine bZ (by simp; omega) (bZ (by simp; omega) ?_);obtain ⟨ps, rfl⟩ := ht.g.ptr;refine .inl ⟨ps, rfl, ?_⟩;have hw : i64.wrap r = r := aC (by omega) (by omega);rw [hw];refine (zb3 ht.g r (by omega)).mono ?_;rintro _ rfl;refine ⟨_, rfl, ?_⟩;rw [zcq]; unfold aL; rw [if_neg hh]
theorem zyg (hv : fY rows v) {r : Int} (hr : -2147483648 <= r /\ r <= 2147483647) : PCall qa 104 [v, .int .i32 r] fun x => x = .int .i64 (cK rows r) := by
 have hb := zmv hv hr;obtain ⟨tc, tg, tj, tf, tp, made, sec, rfl, ht, hm⟩ := hv;refine zx0 _ _ _ _ _ _ _ _ ?_; unfold zme;obtain ⟨ps, rfl⟩ := ht.j.ptr;refine .inl ⟨ps, rfl, ?_⟩;have hw : i64.wrap r = r := aC (by omega) (by omega);rw [hw];refine (zb3 ht.j r (by omega)).mono ?_;rintro _ rfl;refine ⟨_, rfl, ?_⟩;rw [zcq];unfold cK;refine aD (fun hc => ?_) (fun hc => ?_)
 ·simp only [bne_iff_ne, ne_eq] at hc;rw [if_pos hc]
 ·simp only [bne_iff_ne, ne_eq, qg] at hc;rw [if_neg (fun h => h hc)];refine hb.mono ?_;rintro _ rfl;refine ⟨_, rfl, aD (fun h2 => ?_) (fun h2 => ?_)⟩
  ·simp only [qf, ql, beq_iff_eq, bne_iff_ne, ne_eq] at h2;rw [if_pos h2]
  ·simp only [qf, ql, beq_iff_eq, bne_iff_ne, ne_eq] at h2;rw [if_neg h2]
theorem zyh (hv : fY rows v) {r : Int} (hr : -2147483648 <= r /\ r <= 2147483647) : PCall qa 103 [v, .int .i32 r] fun x => x = .bool (cJ rows 5 r) := by
 obtain ⟨tc, tg, tj, tf, tp, made, sec, rfl, ht, hm⟩ := hv;refine zx1 _ _ _ _ _ _ _ _ ?_; unfold zmf;obtain ⟨ps, rfl⟩ := ht.f.ptr;refine .inl ⟨ps, rfl, ?_⟩;have hw : i64.wrap r = r := aC (by omega) (by omega);rw [hw];refine (zkb ht.f r (by omega)).mono ?_;rintro _ rfl;rw [zk2];exact ⟨_, rfl, rfl, _, rfl, _, rfl, _, rfl, _, rfl, rfl⟩
theorem oY (n f : Bool) (hl : rows.length < 1000000) {r : Int} (hr : -2147483648 <= r /\ r <= 2147483647) : PCall qa 122 [.sl n f (bK rows), .int .i32 r] fun x => x = .int .i64 (aL rows r) := by
 refine zx2 _ _ _ _ ?_; unfold zmg;refine aD (fun hh => ?_) (fun hh => ?_)
 ·simp only [qf, aB, ge_iff_le] at hh;rw [zmu hh];unfold aL; rw [if_pos hh];refine aD (fun h2 => ?_) (fun h2 => ?_)
  ·simp only [beq_iff_eq] at h2; rw [if_pos h2]
  ·simp only [beq_iff_eq] at h2; rw [if_neg h2]
 ·simp only [qf, aB, ge_iff_le] at hh;refine (nC n f 4 r hl hr).mono ?_;rintro _ rfl;unfold aL; rw [if_neg hh];exact ⟨_, rfl, rfl⟩
theorem zmw (n f : Bool) (hl : rows.length < 1000000) {r : Int} (hr : -2147483648 <= r /\ r <= 2147483647) : PCall qa 139 [.sl n f (bK rows), .int .i32 r] fun x => x = .int .i64 (cK rows r) := by
 refine zx3 _ _ _ _ ?_; unfold zmh;refine (nC n f 6 r hl hr).mono ?_;rintro _ rfl;refine ⟨_, rfl, ?_⟩;unfold cK;refine aD (fun hc => ?_) (fun hc => ?_)
 ·simp only [bne_iff_ne, ne_eq] at hc;rw [if_pos hc]
 ·simp only [bne_iff_ne, ne_eq, qg] at hc;rw [if_neg (fun h => h hc)];refine (oY n f hl hr).mono ?_;rintro _ rfl;refine ⟨_, rfl, aD (fun h2 => ?_) (fun h2 => ?_)⟩
  ·simp only [qf, ql, beq_iff_eq, bne_iff_ne, ne_eq] at h2;rw [if_pos h2]
  ·simp only [qf, ql, beq_iff_eq, bne_iff_ne, ne_eq] at h2;rw [if_neg h2]
theorem zyi (a b : Int) : PCall qa 105 [.int .i64 a, .int .i64 b] fun x => x = .bool (iQ a b) := by
 refine zx4 _ _ ?_; unfold zmi;simp only [beq_iff_eq];have hd : ∀ x y : Int, (x == y) = decide (x = y) := fun x y => by by_cases h : x = y <;> simp [h]
 simp only [hd];unfold iQ oF;rcases (by omega : b = 1 ∨ b = 2 ∨ b = 3 ∨ b = 4 ∨ b = 5 ∨ b = 8 ∨ (b ≠ 1 /\ b ≠ 2 /\ b ≠ 3 /\ b ≠ 4 /\ b ≠ 5 /\ b ≠ 8)) with rfl | rfl | rfl | rfl | rfl | rfl | ⟨b1, b2, b3, b4, b5, b8⟩
 all_goals
  rcases (by omega : a = 1 ∨ a = 2 ∨ a = 3 ∨ a = 7 ∨ a = 9 ∨ a = 10 ∨ a = 11 ∨ a = 12 ∨ a = 13 ∨ (a ≠ 1 /\ a ≠ 2 /\ a ≠ 3 /\ a ≠ 7 /\ a ≠ 9 /\ a ≠ 10 /\ a ≠ 11 /\ a ≠ 12 /\ a ≠ 13)) with rfl | rfl | rfl | rfl | rfl | rfl | rfl | rfl | rfl | ⟨a1, a2, a3, a7, a9, a10, a11, a12, a13⟩
 all_goals simp [*, qba]
theorem zyj (hv : fY rows v) (st : SSt) {r : Int} (hr : -2147483648 <= r /\ r <= 2147483647) : PCall qa 79 [zdz st, v, .int .i32 r] fun x => x = .tup [zdz (d0 rows st r), .bool (qE rows st r)] := by
 have h1 := zmv hv hr;have h2 := zyh hv hr;have h3 := zyg hv hr;obtain ⟨tc, tg, tj, tf, tp, made, sec, rfl, ht, hm⟩ := hv;obtain ⟨so, la, pi, co, od⟩ := st;refine zx5 _ _ _ _ _ _ _ _ _ _ _ _ _ ?_; unfold zmj;refine h1.mono ?_;rintro _ rfl;refine ⟨_, rfl, ?_⟩;refine h2.mono ?_;rintro _ rfl;refine ⟨_, rfl, ?_⟩;refine h3.mono ?_;rintro _ rfl;refine ⟨_, rfl, ?_⟩;refine (zyi la (aL rows r)).mono ?_;rintro _ rfl;refine ⟨_, rfl, ?_⟩;unfold d0 qE sX zdz;dsimp only;have hd : ∀ x y : Int, (x == y) = decide (x = y) := fun x y => by by_cases h : x = y <;> simp [h]
 have hd2 : ∀ x y : Int, (x != y) = !decide (x = y) := fun x y => by by_cases h : x = y <;> simp [h]
 simp only [hd, hd2];generalize iQ la (aL rows r) = b1;generalize cJ rows 5 r = b;generalize cK rows r = c;generalize aL rows r = n;by_cases n6 : n = 6
 ·subst n6;cases b1 <;> cases b <;> by_cases p2 : pi = 2 <;> by_cases c2 : c = 2 <;> by_cases k2 : co = 2 <;> by_cases c1 : c = 1 <;> by_cases c3 : c = 3 <;> by_cases k0 : co = 0 <;> first | omega | simp [*]
 ·by_cases p1 : pi = 1
  ·subst p1;by_cases n4 : n = 4
   ·subst n4;cases b1 <;> cases b <;> by_cases c2 : c = 2 <;> by_cases k2 : co = 2 <;> by_cases c1 : c = 1 <;> by_cases c3 : c = 3 <;> by_cases k0 : co = 0 <;> first | omega | simp [*]
   ·by_cases n5 : n = 5
    ·subst n5;cases b1 <;> cases b <;> by_cases c2 : c = 2 <;> by_cases k2 : co = 2 <;> by_cases c1 : c = 1 <;> by_cases c3 : c = 3 <;> by_cases k0 : co = 0 <;> first | omega | simp [*]
    ·cases b1 <;> cases b <;> by_cases c2 : c = 2 <;> by_cases k2 : co = 2 <;> by_cases c1 : c = 1 <;> by_cases c3 : c = 3 <;> by_cases k0 : co = 0 <;> first | omega | simp [*]
  ·cases b1 <;> cases b <;> by_cases p2 : pi = 2 <;> by_cases c2 : c = 2 <;> by_cases k2 : co = 2 <;> by_cases c1 : c = 1 <;> by_cases c3 : c = 3 <;> by_cases k0 : co = 0 <;> first | omega | simp [*]
end
theorem jU {L : List Int} (h : R32 L) (i : Nat) : -2147483648 <= L.getD i 0 /\ L.getD i 0 <= 2147483647 := by
 by_cases hi : i < L.length
 ·rw [show L.getD i 0 = L[i] by simp [qw, hi]]; exact h _ (qp hi)
 ·rw [show L.getD i 0 = 0 by simp [qw, hi]]; omega
theorem j9 {l : List Int} {i : Int} (h0 : 0 <= i) (hi : i.toNat < l.length) : aF (aA l) i 1 /\ (aA l).getD i.toNat [] = [.int .i32 (l.getD i.toNat 0)] := by
 obtain ⟨h1, h2⟩ := iE h0 hi;exact ⟨h1, by rw [h2]; simp [qw, hi]⟩
theorem zyk {α : Type} {l : List α} {i : Nat} (d : α) (h : i < l.length) : l.getD i d = l[i] := by simp [qw, h]
theorem PCall.vac {P : Program} {f : Nat} {args args' : List PV} {Q Q' : PV -> Prop} (h : PCall P f args' Q') {k : Nat} {fl : Bool} {es : List (List PV)} (hk : args[k]? = some (.sl true fl es)) (hne : es ≠ []) : PCall P f args Q :=
 ⟨h.1, fun w I G cargs _ _ h3 => by
  have := h3 k (.pv (.sl true fl es)) (by rw [qbj, hk]; rfl);generalize cargs.getD k undef = c at this;cases this with
  | pv _ _ h =>
    generalize hx : es = xs at h;cases h with
    | slnil => exact absurd hx hne⟩
theorem zyl {L : List Int} (h : L ≠ []) : aA L ≠ [] := fun e => h (by cases L with | nil => rfl | cons a b => cases e)
section
variable {rows : List Row} {v : PV}
theorem zmx {L : List Int} {i : Nat} (hi : i < L.length) (hb : fW rows L i = false) : gM rows L (L.length - i) i = gM rows L (L.length - (i + 1)) (i + 1) := by
 rw [show L.length - i = (L.length - (i + 1)) + 1 by omega, gM, if_neg (by rw [hb]; decide)]
theorem zmy {L : List Int} {i : Nat} (hi : i < L.length) (hb : fW rows L i = true) : gM rows L (L.length - i) i = i := by
 rw [show L.length - i = (L.length - (i + 1)) + 1 by omega, gM, if_pos hb]
theorem zym (ht : iR rows) (hv : fY rows v) (n f : Bool) (L : List Int) (hr : R32 L) (hL : L.length < 1000000000000) (k : Int) (k0 : 0 <= k) (k1 : k < L.length) (hb : fW rows L k.toNat = true) :
 PCall qa 53 [v, .sl n f (aA L), .int .i64 k] fun x => x = .int .i64 (cE rows L k.toNat : Nat) := by
 have hs := fun st {r : Int} hr => zyj hv st (r := r) hr;obtain ⟨tc, tg, tj, tf, tp, made, sec, rfl, ht', hm⟩ := hv
 refine zx6 _ _ _ _ _ _ _ _ _ _ _
  (fun i so la pi co od => (k + 1 <= i /\ i <= L.length) /\ bG rows L k.toNat (i.toNat - k.toNat) = ⟨so, la, pi, co, od⟩ /\ cE rows L k.toNat = gM rows L (L.length - i.toNat) i.toNat) (fun i _ _ _ _ _ => L.length - i.toNat) ?_
 unfold zmk;have hl8 : ((aA L).length : Int) = L.length := by rw [bY]
 rw [hl8];refine bZ (by simp; omega) ?_;have hk : k.toNat < L.length := by omega
 obtain ⟨g1, g2⟩ := j9 k0 hk;have hw : i64.wrap (k + 1) = k + 1 := aC (by omega) (by omega);refine ⟨g1, _, by rw [g2]; rfl, ?_⟩;refine (hs st0 (jU hr k.toNat)).mono ?_;rintro _ rfl;rw [hw];refine ⟨_, rfl, rfl, _, rfl, _, rfl, rfl, _, rfl, _, rfl, _, rfl, _, rfl, _, rfl, _, rfl, _, rfl, ⟨rfl, ⟨by omega, by omega⟩, ?_, ?_⟩, ?_⟩
 ·rw [show (k + 1).toNat - k.toNat = 1 by omega]; rfl
 ·rw [show (k + 1).toNat = k.toNat + 1 by omega]; rfl
 rintro i so la pi co od ⟨⟨i0, i1⟩, hst, hn⟩;refine aD (fun hc => ?_) (fun hc => ?_)
 ·simp only [aB] at hc;have hi : i.toNat < L.length := by omega
  obtain ⟨j, hj⟩ : ∃ j, i.toNat = k.toNat + (j + 1) := ⟨i.toNat - k.toNat - 1, by omega⟩;obtain ⟨g1, g2⟩ := j9 (l := L) (i := i) (by omega) hi;have hwi : i64.wrap (i + 1) = i + 1 := aC (by omega) (by omega)
  have hcut : qE rows ⟨so, la, pi, co, od⟩ (L.getD i.toNat 0) = fW rows L i.toNat := by
   rw [<- hst, hj, show k.toNat + (j + 1) - k.toNat = j + 1 by omega];exact zsd ht hb j
  have hstep : bG rows L k.toNat ((i + 1).toNat - k.toNat) = d0 rows ⟨so, la, pi, co, od⟩ (L.getD i.toNat 0) := by
   rw [<- hst, show (i + 1).toNat - k.toNat = (i.toNat - k.toNat) + 1 by omega];show d0 rows _ (L.getD (k.toNat + (i.toNat - k.toNat)) 0) = _;rw [show k.toNat + (i.toNat - k.toNat) = i.toNat by omega]
  have body : ∀ K : Prop, K -> if fW rows L i.toNat = true then (PV.int .i64 i = .int .i64 (cE rows L k.toNat : Nat)) else K /\ ((k + 1 <= i + 1 /\ i + 1 <= L.length) /\ bG rows L k.toNat ((i + 1).toNat - k.toNat) = ⟨(d0 rows ⟨so, la, pi, co, od⟩ (L.getD i.toNat 0)).some, (d0 rows ⟨so, la, pi, co, od⟩ (L.getD i.toNat 0)).last, (d0 rows ⟨so, la, pi, co, od⟩ (L.getD i.toNat 0)).pict, (d0 rows ⟨so, la, pi, co, od⟩ (L.getD i.toNat 0)).conj, (d0 rows ⟨so, la, pi, co, od⟩ (L.getD i.toNat 0)).odd⟩ /\ cE rows L k.toNat = gM rows L (L.length - (i + 1).toNat) (i + 1).toNat) /\ L.length - (i + 1).toNat < L.length - i.toNat := fun K hK => by
   split
   ·rename_i hbi;rw [hn, zmy hi hbi, show ((i.toNat : Nat) : Int) = i by omega]
   ·rename_i hbi;refine ⟨hK, ⟨⟨by omega, by omega⟩, by rw [hstep], ?_⟩, by omega⟩;rw [hn, zmx hi (by simpa using hbi), show (i + 1).toNat = i.toNat + 1 by omega]
  have call := hs ⟨so, la, pi, co, od⟩ (jU hr i.toNat);rw [hcut] at call;rw [hwi];refine ⟨g1, _, by rw [g2]; rfl, call.mono ?_, call.mono ?_⟩
  ·rintro _ rfl;exact ⟨_, rfl, rfl, _, rfl, _, rfl, rfl, _, rfl, _, rfl, _, rfl, _, rfl, _, rfl, _, rfl, _, rfl, body _ rfl, body _ rfl, body _ rfl⟩
  ·rintro _ rfl;exact ⟨_, rfl, rfl, _, rfl, _, rfl, rfl, _, rfl, _, rfl, _, rfl, _, rfl, _, rfl, _, rfl, _, rfl, body _ rfl, body _ rfl⟩
 ·simp only [aB] at hc;have hie : i.toNat = L.length := by omega
  rw [hn, show L.length - i.toNat = 0 by omega];show _ = PV.int .i64 ((i.toNat : Nat) : Int);rw [show ((i.toNat : Nat) : Int) = i by omega]
theorem zmz (n f : Bool) (l : List Int) (hn : n = true -> l = []) (hl : l.length < 1000000000000) : PCall qa 47 [.sl n f (aA l)] fun x => x = .sl n false (aA l) :=
 PCall.ofA (args := [_]) (zc4 n f (aA l) (fun h => by rw [hn h]; rfl) ⟨rfl, .inl rfl, fun e he => (by cases he), eT _, by simp only [qaa, bY]; omega⟩) fun r h' ⟨hr, hh⟩ => by subst hr; subst hh; exact ⟨_, rfl, rfl⟩
def aS (q : Bool × Bool × List Int) : List PV := [.sl q.1 q.2.1 (aA q.2.2)]
theorem zd0 (q : Bool × Bool × List Int) : (aS q).length = 1 := rfl
theorem zm0 (ht : iR rows) (hv : fY rows v) (n f : Bool) (L : List Int) (hn0 : n = true -> L = []) (hr : R32 L) (hL : L.length < 100000000) :
 PCall qa 33 [v, .sl n f (aA L)] fun x => ∃ (n : Bool) (Q : List (Bool × Bool × List Int)), x = .sl n false (Q.map aS) /\ Q.map (fun q => q.2.2) = gO rows L 0 /\ (∀ q ∈ Q, q.1 = true -> q.2.2 = []) /\ (n = true -> Q = []) := by
 have hnx := fun k k0 k1 hb => zym ht hv n f L hr (by omega) k k0 k1 hb;obtain ⟨tc, tg, tj, tf, tp, made, sec, rfl, ht', hm⟩ := hv
 refine zx7 _ _ _ _ _ _ _ _ _ _
  (fun i n s => (0 <= i /\ i <= L.length) /\ (i.toNat = L.length ∨ fW rows L i.toNat = true) /\ ∃ Q : List (Bool × Bool × List Int), s = Q.map aS /\ gO rows L 0 = Q.map (fun q => q.2.2) ++ gO rows L i.toNat /\ (∀ q ∈ Q, q.1 = true -> q.2.2 = []) /\ (n = true -> Q = []) /\ Q.length <= i.toNat) (fun i _ _ => L.length - i.toNat) ?_
 unfold zml;have hl8 : ((aA L).length : Int) = L.length := by rw [bY]
 rw [hl8];refine ⟨⟨rfl, ⟨qq _, by omega⟩, .inr rfl, [], rfl, rfl, (fun q hq => by cases hq), (fun _ => rfl), qk _⟩, ?_⟩;rintro i n2 _ ⟨⟨i0, i1⟩, hbeg, Q, rfl, hcl, hq, hnq, hql⟩;refine aD (fun hc => ?_) (fun hc => ?_)
 ·simp only [aB] at hc;have hi : i.toNat < L.length := by omega
  have hb := hbeg.resolve_left (by omega);obtain ⟨x1, x2, x3⟩ := mT (rows := rows) hi;refine (hnx i i0 hc hb).mono ?_;rintro _ rfl;refine ⟨_, rfl, ⟨zma i0 (by omega) (by rw [bY]; omega), eT _⟩, ?_⟩;rw [show (((cE rows L i.toNat : Nat) : Int)).toNat = cE rows L i.toNat by omega, zmb];have hsl := zxv L i.toNat (cE rows L i.toNat);have hsn : n = true -> fJ L i.toNat (cE rows L i.toNat) = [] := fun h => by rw [hn0 h] at hi; cases hi
  refine (zmz n _ (fJ L i.toNat (cE rows L i.toNat)) hsn (by omega)).mono ?_;rintro _ rfl;refine ⟨_, _, _, rfl, ⟨mN (enc := aS) zd0 [(n, false, fJ L i.toNat (cE rows L i.toNat))], by rw [qe]; omega⟩, rfl, ⟨⟨by omega, by omega⟩, ?_, Q ++ [(n, false, fJ L i.toNat (cE rows L i.toNat))], by rw [qu]; rfl, ?_, fun q hq2 => ?_, fun h => by simp at h, ?_⟩, ?_⟩
  ·rw [show (((cE rows L i.toNat : Nat) : Int)).toNat = cE rows L i.toNat by omega]; exact x3
  ·rw [show (((cE rows L i.toNat : Nat) : Int)).toNat = cE rows L i.toNat by omega, hcl, zap hi, qu, qi]; rfl
  ·rcases List.mem_append.1 hq2 with hq2 | hq2
   ·exact hq q hq2
   ·rw [List.mem_singleton.1 hq2]; exact hsn
  ·rw [show (((cE rows L i.toNat : Nat) : Int)).toNat = cE rows L i.toNat by omega, qb, qx]; omega
  ·dsimp only; omega
 ·simp only [aB] at hc;rw [vS (i := i.toNat) (by omega), qt] at hcl;exact ⟨n2, Q, rfl, hcl.symm, hq, hnq⟩
theorem zm1 (ht : iR rows) (hv : fY rows v) (n f : Bool) (L : List Int) (hr : R32 L) (hL : L.length < 100000000) :
 PCall qa 33 [v, .sl n f (aA L)] fun x => ∃ (n : Bool) (Q : List (Bool × Bool × List Int)), x = .sl n false (Q.map aS) /\ Q.map (fun q => q.2.2) = gO rows L 0 := by
 by_cases h : n = true -> L = []
 ·exact (zm0 ht hv n f L h hr hL).mono fun x ⟨n, Q, h1, h2, _⟩ => ⟨n, Q, h1, h2⟩
 ·have hn : n = true := by cases n with | true => rfl | false => exact absurd (fun h => by cases h) h
  subst hn;exact PCall.vac (zm0 ht hv false f L (fun h => by cases h) hr hL) (k := 1) rfl (zyl fun e => h fun _ => e)
theorem qAt {C : List (List Int)} {Q : List (Bool × Bool × List Int)} (hQ : Q.map (fun q => q.2.2) = C) {i : Int} (i0 : 0 <= i) (hi : i.toNat < C.length) : aF (Q.map aS) i 1 /\ ∃ n f, (Q.map aS).getD i.toNat [] = [.sl n f (aA (C.getD i.toNat []))] := by
 subst hQ;rw [qe] at hi;refine ⟨cU zd0 i0 (by omega), Q[i.toNat].1, Q[i.toNat].2.1, ?_⟩;rw [c7 hi, zyk [] (by rw [qe]; exact hi), List.getElem_map]; rfl
end
end Go.Eng
namespace Go.Eng
open Go Go.Proofs Go.Eng.Rows Go.Eng.Srt
def bE (L : List Int) : LL := L.map fun n => [.int .i64 n]
theorem tI (L : List Int) : (bE L).length = L.length := by simp [bE]
theorem i6 (L : List Int) (i : Nat) (h : i < L.length) : (bE L).getD i [] = [.int .i64 (L.getD i 0)] := by simp [bE, qw, h]
theorem zm2 (L : List Int) (i : Nat) (n : Int) : (bE L).set i [.int .i64 n] = bE (L.set i n) := by simp [bE]
theorem lE (L : List Int) (i : Nat) (h : i < L.length) : aF (bE L) (i : Int) 1 := ⟨by omega, by rw [tI]; omega, by rw [qd, i6 L i h]; rfl⟩
theorem zm3 (na fa : Bool) (xa : LL) (nb fb : Bool) (xb : LL) (nl fl : Bool) (ls : LL) (i k : Nat) (hx : xb.length < 1000000000) (hi : i * (xb.length + 1) + k < 1000000000000) :
 PCall qa 38 [.ptr [.sl na fa xa, .sl nb fb xb, .sl nl fl ls], .int .i64 i, .int .i64 k] fun v => v = .int .i64 (i * (xb.length + 1) + k : Nat) := by
 refine zwv na fa xa nb fb xb nl fl ls i k ?_;unfold zlg;refine ⟨nb, fb, xb, rfl, ?_⟩;have h1 : i64.wrap ((xb.length : Int) + 1) = ((xb.length + 1 : Nat) : Int) := by rw [aC (by omega) (by omega)]; omega
 have h2 : i64.wrap ((i : Int) * ((xb.length + 1 : Nat) : Int)) = ((i * (xb.length + 1) : Nat) : Int) := by rw [<- qbr, aC (by omega) (by omega)]
 rw [h1, h2, <- Int.natCast_add, aC (by omega) (by omega)]
structure TabD (A B : List (List Int)) (D : Nat -> Nat -> Prop) (L : List Int) : Prop where
 len : L.length = (A.length + 1) * (B.length + 1)
 at' : ∀ i k, i <= A.length -> k <= B.length -> D i k -> L.getD (i * (B.length + 1) + k) 0 = (aU (A.drop i) (B.drop k) : Nat)
theorem lF {a b i k : Nat} (hi : i <= a) (hk : k <= b) : i * (b + 1) + k < (a + 1) * (b + 1) := by
 have : i * (b + 1) <= a * (b + 1) := qy _ hi;rw [qbn]; omega
theorem zyn {b i k i' k' : Nat} (hk : k <= b) (hk' : k' <= b) (h : i * (b + 1) + k = i' * (b + 1) + k') : i = i' /\ k = k' := by
 have h1 : (i * (b + 1) + k) / (b + 1) = i := by rw [Nat.mul_comm, qbs (by omega), qbp (by omega)]; omega
 have h2 : (i' * (b + 1) + k') / (b + 1) = i' := by rw [Nat.mul_comm, qbs (by omega), qbp (by omega)]; omega
 have : i = i' := by rw [<- h1, <- h2, h]
 subst this;exact ⟨rfl, by omega⟩
theorem TabD.put {A B : List (List Int)} {D D' : Nat -> Nat -> Prop} {L : List Int} (h : TabD A B D L) {i k : Nat} (hi : i <= A.length) (hk : k <= B.length) {n : Int} (hn : n = (aU (A.drop i) (B.drop k) : Nat)) (hD : ∀ i' k', i' <= A.length -> k' <= B.length -> D' i' k' -> D i' k' ∨ (i' = i /\ k' = k)) :
 TabD A B D' (L.set (i * (B.length + 1) + k) n) := by
 refine ⟨by rw [List.length_set]; exact h.len, fun i' k' h1 h2 h3 => ?_⟩;have hlt := lF hi hk;by_cases e : i' = i /\ k' = k
 ·obtain ⟨rfl, rfl⟩ := e;rw [<- hn];simp [qw, h.len, hlt]
 ·have hne : i * (B.length + 1) + k ≠ i' * (B.length + 1) + k' := fun he => by
   obtain ⟨rfl, rfl⟩ := zyn hk h2 he;exact e ⟨rfl, rfl⟩
  have := h.at' i' k' h1 h2 ((hD i' k' h1 h2 h3).resolve_right e);rw [<- this];simp only [qw, List.getElem?_set_ne hne]
theorem nF {α : Type} (l : List α) (i : Nat) (d : α) (h : i < l.length) : l.drop i = l.getD i d :: l.drop (i + 1) := by
 rw [List.drop_eq_getElem_cons h];congr 1;simp [qw, h]
section
variable {QA QB : List (Bool × Bool × List Int)} {A B : List (List Int)}
theorem zyo (na fa nb fb : Bool) (hA : QA.map (fun q => q.2.2) = A) (hB : QB.map (fun q => q.2.2) = B) (hsz : (A.length + 1) * (B.length + 1) <= 1048576) (hl : ∀ c ∈ A, c.length < 100000000) :
 ACall qa 35 [.box 0 0] [.box [.pv (.sl na fa (QA.map aS)), .pv (.sl nb fb (QB.map aS)), .pv (.sl true true [])]] fun r h' => ∃ L, r = .tup [] /\ h' = [.box [.pv (.sl na fa (QA.map aS)), .pv (.sl nb fb (QB.map aS)), .own 1], .sl (3, 1) true false (bE L)] /\ TabD A B (fun _ _ => True) L := by
 have lA : QA.length = A.length := by rw [<- hA, qe]
 have lB : QB.length = B.length := by rw [<- hB, qe]
 have bA : A.length < 1048576 := by
  have : (A.length + 1) * 1 <= (A.length + 1) * (B.length + 1) := qbc _ (by omega);omega
 have bB : B.length < 1048576 := by
  have : 1 * (B.length + 1) <= (A.length + 1) * (B.length + 1) := qy _ (by omega);omega
 refine zww na fa (QA.map aS) nb fb (QB.map aS)
  (fun i n s => n = false /\ -1 <= i /\ i < A.length /\ ∃ L, s = bE L /\ TabD A B (fun i' k' => i < (i' : Int) ∨ k' = B.length) L) (fun i _ _ => (i + 1).toNat)
  (fun ti _ _ _ i k n s => i = ti /\ n = false /\ (0 <= i /\ i < A.length) /\ (-1 <= k /\ k < B.length) /\ ∃ L, s = bE L /\ TabD A B (fun i' k' => i < (i' : Int) ∨ k' = B.length ∨ (i = (i' : Int) /\ k < (k' : Int))) L) (fun _ k _ _ => (k + 1).toNat) ?_
 unfold zlh;have e1 : i64.wrap (((QA.map aS).length : Int) + 1) = ((A.length + 1 : Nat) : Int) := by rw [qe, lA, aC (by omega) (by omega)]; omega
 have e2 : i64.wrap (((QB.map aS).length : Int) + 1) = ((B.length + 1 : Nat) : Int) := by rw [qe, lB, aC (by omega) (by omega)]; omega
 have e3 : i64.wrap (((A.length + 1 : Nat) : Int) * ((B.length + 1 : Nat) : Int)) = (((A.length + 1) * (B.length + 1) : Nat) : Int) := by rw [<- qbr, aC (by omega) (by omega)]
 have e4 : i64.wrap (((QA.map aS).length : Int) - 1) = (A.length : Int) - 1 := by rw [qe, lA, aC (by omega) (by omega)]
 have e5 : i64.wrap (((QB.map aS).length : Int) - 1) = (B.length : Int) - 1 := by rw [qe, lB, aC (by omega) (by omega)]
 have lB' : (QB.map aS).length = B.length := by rw [qe, lB]
 rw [e1, e2, e3, e4, e5, qd];have hrep : (qao ((A.length + 1) * (B.length + 1)) [PV.int .i64 0] : LL) = bE (qao ((A.length + 1) * (B.length + 1)) 0) := by simp [bE]
 rw [hrep]
 have hat : ∀ (s : LL) (i k : Nat), i <= A.length -> k <= B.length -> PCall qa 38 [.ptr [.sl na fa (QA.map aS), .sl nb fb (QB.map aS), .sl false false s], .int .i64 i, .int .i64 k] fun v => v = .int .i64 (i * (B.length + 1) + k : Nat) := fun s i k hi hk => by
  have h := lF hi hk;have := zm3 na fa (QA.map aS) nb fb (QB.map aS) false false s i k (by rw [lB']; omega) (by rw [lB']; omega);rwa [lB'] at this
 refine ⟨⟨by omega, qq _, by omega, by omega⟩, ⟨rfl, rfl, by omega, by omega, _, rfl, ⟨by simp, fun i k hi hk hd => ?_⟩⟩, ?_⟩
 ·have h0 : aU (A.drop i) (B.drop k) = 0 := by
   rcases hd with hd | hd
   ·rw [List.drop_eq_nil_of_le (by omega)]; exact oG _
   ·rw [hd, qah]; exact oH _
  rw [h0];simp [qw, lF hi hk]
 ·rintro i0 n0 _ ⟨rfl, i1, i2, L0, rfl, h0⟩;refine aD (fun hc => ?_) (fun hc => ?_)
  ·simp only [aB] at hc;refine ⟨⟨rfl, rfl, rfl, ⟨by omega, i2⟩, ⟨by omega, by omega⟩, L0, rfl, ⟨h0.len, fun i k hi hk hd => h0.at' i k hi hk (hd.elim .inl fun h => h.elim .inr fun h => ?_)⟩⟩, ?_⟩
   ·omega
   rintro i k0 n1 _ ⟨rfl, rfl, ⟨j1, j2⟩, ⟨j3, j4⟩, L, rfl, h1⟩;refine aD (fun hk => ?_) (fun hk => ?_)
   ·simp only [aB] at hk;obtain ⟨a, rfl⟩ := qau j1;obtain ⟨k, rfl⟩ := qau hk;have ha : a < A.length := by omega
    have hkB : k < B.length := by omega
    obtain ⟨qa1, na2, fa2, qa2⟩ := qAt hA (i := (a : Int)) (by omega) (by omega);obtain ⟨qb1, nb2, fb2, qb2⟩ := qAt hB (i := (k : Int)) (by omega) (by omega);rw [qd] at qa2 qb2;rw [qd, qd, qa2, qb2];refine ⟨qa1, na2, fa2, _, rfl, qb1, nb2, fb2, _, rfl, ?_⟩;have hcl : (A.getD a []).length < 100000000 := hl _ (by rw [qw, qae ha]; exact qp _);refine (zlx na2 fa2 nb2 fb2 (A.getD a []) (B.getD k []) (by omega)).mono ?_;rintro _ rfl;refine ⟨_, rfl, ?_⟩;have wi : i64.wrap ((a : Int) + 1) = ((a + 1 : Nat) : Int) := by rw [aC (by omega) (by omega)]; omega
    have wk : i64.wrap ((k : Int) + 1) = ((k + 1 : Nat) : Int) := by rw [aC (by omega) (by omega)]; omega
    have wm : i64.wrap ((k : Int) - 1) = (k : Int) - 1 := aC (by omega) (by omega);rw [wi, wk, wm];have da := nF A a [] ha;have db := nF B k [] hkB;have t11 := lF (i := a) (k := k) (qn ha) (qn hkB);have t21 := lF (i := a + 1) (k := k) ha (qn hkB);have t12 := lF (i := a) (k := k + 1) (qn ha) hkB;have t22 := lF (i := a + 1) (k := k + 1) ha hkB;have v22 := h1.at' (a + 1) (k + 1) ha hkB (.inl (by omega));have v21 := h1.at' (a + 1) k ha (qn hkB) (.inl (by omega));have v12 := h1.at' a (k + 1) (qn ha) hkB (.inr (.inr ⟨rfl, by omega⟩))
    have fin : ∀ n : Int, n = (aU (A.drop a) (B.drop k) : Nat) -> TabD A B (fun i' k' => (a : Int) < (i' : Int) ∨ k' = B.length ∨ ((a : Int) = (i' : Int) /\ (k : Int) - 1 < (k' : Int))) (L.set (a * (B.length + 1) + k) n) := fun n hn =>
     h1.put (qn ha) (qn hkB) hn fun i' k' _ _ hd => by omega
    have bl : aU (A.drop (a + 1)) (B.drop (k + 1)) < 1048576 := qbh (vU _ _) (by rw [qz]; omega);have bl2 : aU (A.drop a) (B.drop k) < 1048577 := qbh (vU _ _) (by rw [qz]; omega);refine aD (fun hb => ?_) (fun hb => ?_)
    ·simp only [aB] at hb;refine (hat _ a k (qn ha) (qn hkB)).mono ?_;rintro _ rfl;refine ⟨_, rfl, rfl, (hat _ (a + 1) (k + 1) ha hkB).mono ?_⟩;rintro _ rfl;refine ⟨_, rfl, rfl, lE L _ (by rw [h1.len]; exact t22), _, by rw [qd, i6 L _ (by rw [h1.len]; exact t22)]; rfl, lE L _ (by rw [h1.len]; exact t11), ?_, ?_⟩
     ·rw [qd, i6 L _ (by rw [h1.len]; exact t11)]; exact ⟨rfl, qk _⟩
     ·rw [qd, i6 L _ (by rw [h1.len]; exact t11), v22, aC (by omega) (by omega)];refine ⟨rfl, ⟨rfl, rfl, ⟨by omega, j2⟩, ⟨by omega, by omega⟩, _, zm2 L _ _, fin _ ?_⟩, by dsimp only; omega⟩;rw [da, db, oI, if_pos hb]; omega
    ·simp only [aB] at hb;refine (hat _ a k (qn ha) (qn hkB)).mono ?_;rintro _ rfl;refine ⟨_, rfl, rfl, (hat _ (a + 1) k ha (qn hkB)).mono ?_⟩;rintro _ rfl;refine ⟨_, rfl, rfl, lE L _ (by rw [h1.len]; exact t21), _, by rw [qd, i6 L _ (by rw [h1.len]; exact t21)]; rfl, (hat _ a (k + 1) (qn ha) hkB).mono ?_⟩;rintro _ rfl;refine ⟨_, rfl, rfl, lE L _ (by rw [h1.len]; exact t12), _, by rw [qd, i6 L _ (by rw [h1.len]; exact t12)]; rfl, lE L _ (by rw [h1.len]; exact t11), ?_, ?_⟩
     ·rw [qd, i6 L _ (by rw [h1.len]; exact t11)]; exact ⟨rfl, qk _⟩
     ·rw [qd, i6 L _ (by rw [h1.len]; exact t11), v21, v12];refine ⟨rfl, ⟨rfl, rfl, ⟨by omega, j2⟩, ⟨by omega, by omega⟩, _, zm2 L _ _, fin _ ?_⟩, by dsimp only; omega⟩;rw [da, db, oI, if_neg hb, <- da, <- db];split <;> omega
   ·simp only [aB] at hk;have wm : i64.wrap (i - 1) = i - 1 := aC (by omega) (by omega);rw [wm];refine ⟨rfl, ⟨rfl, by omega, by omega, L, rfl, ⟨h1.len, fun i' k' h1' h2' hd => h1.at' i' k' h1' h2' ?_⟩⟩, ?_⟩
    ·omega
    ·dsimp only; omega
  ·simp only [aB] at hc;exact ⟨L0, rfl, rfl, ⟨h0.len, fun i k hi hk _ => h0.at' i k hi hk (.inl (by omega))⟩⟩
end
end Go.Eng
namespace Go.Eng
open Go Go.Proofs Go.Eng.Rows Go.Eng.Trie Go.Eng.Srt
section
variable {rows : List Row}
theorem xB (r : Int) : (aG rows 5 r = 1) ↔ cJ rows 5 r = true := by
 unfold aG cJ;cases cH rows 5 r with
 | none => simp
 | some p => simp
theorem zm4 (a : Int) : PCall qa 123 [.int .i64 a] fun x => x = .bool (dA a) := by
 refine zx8 _ ?_; unfold zmm dA;have hd : ∀ x y : Int, (x == y) = decide (x = y) := fun x y => by by_cases h : x = y <;> simp [h]
 simp only [hd, qba]
theorem zyp (a b : Int) : PCall qa 124 [.int .i64 a, .int .i64 b] fun x => x = .bool (oF a b) := by
 refine zx9 _ _ ?_; unfold zmn oF;have hd : ∀ x y : Int, (x == y) = decide (x = y) := fun x y => by by_cases h : x = y <;> simp [h]
 simp only [hd];by_cases h9 : a = 9
 ·rw [if_pos (by simp [h9]), if_pos h9]; simp only [qba]
 ·rw [if_neg (by simp [h9]), if_neg h9];by_cases h12 : a = 12 ∨ a = 10
  ·rw [if_pos (by simpa using h12), if_pos h12]
  ·rw [if_neg (by simpa using h12), if_neg h12]
   by_cases h13 : a = 13 ∨ a = 11
   ·rw [if_pos (by simpa using h13), if_pos h13]
   ·rw [if_neg (by simpa using h13), if_neg h13]
def qQ (rows : List Row) (L : List Int) (x : Bool) (j : Nat) : Bool := if x = true then decide ((bG rows L 0 j).conj ≠ 0) else decide ((bG rows L 0 j).conj = 2)
theorem zyq (ht : iR rows) (L : List Int) (x : Bool) (j : Nat) : qQ rows L x (j + 1) =
 if cK rows (L.getD j 0) = 2 then x else if cK rows (L.getD j 0) = 0 then false else if cK rows (L.getD j 0) = 1 then qQ rows L true j else qQ rows L x j := by
 unfold qQ;rw [zsf];rcases ht.conj (L.getD j 0) with h | h | h | h <;> rw [h]
 ·cases x <;> simp
 ·by_cases h0 : (bG rows L 0 j).conj = 0
  ·cases x <;> simp [h0]
  ·cases x <;> simp [h0]
 ·cases x <;> simp
 ·by_cases h0 : (bG rows L 0 j).conj = 0
  ·cases x <;> simp [h0]
  ·cases x <;> simp [h0]
def oZ (rows : List Row) (L : List Int) (j : Nat) : Bool := decide ((bG rows L 0 j).pict = 1)
theorem zyr (L : List Int) (j : Nat) : oZ rows L (j + 1) = if cJ rows 5 (L.getD j 0) = true then true else if aL rows (L.getD j 0) ≠ 4 then false else oZ rows L j := by
 unfold oZ;rw [zh3];generalize L.getD j 0 = r;generalize (bG rows L 0 j).pict = p;by_cases h1 : cJ rows 5 r = true
 ·rw [if_pos h1, if_pos h1]; rfl
 ·rw [if_neg h1, if_neg h1];by_cases h2 : aL rows r = 4
  ·by_cases h3 : p = 1
   ·simp [h2, h3]
   ·simp [h2, h3]
  ·by_cases h3 : aL rows r = 5
   ·by_cases h4 : p = 1 <;> simp [h3, h4]
   ·simp [h2, h3]
theorem zys (ht : iR rows) (L : List Int) (k : Nat) : decide ((bG rows L 0 (k + 1)).pict = 2) = (decide (aL rows (L.getD k 0) = 5) && oZ rows L k) := by
 unfold oZ;rw [zh3];generalize L.getD k 0 = r;generalize (bG rows L 0 k).pict = p;by_cases h1 : cJ rows 5 r = true
 ·have := (ht.pict _ h1).2;rw [if_pos h1]; simp [this]
 ·rw [if_neg h1];by_cases h3 : p = 1
  ·by_cases h5 : aL rows r = 5
   ·simp [h3, h5]
   ·by_cases h4 : aL rows r = 4 <;> simp [h3, h5, h4]
  ·simp [h3]
def tJ (rows : List Row) (L : List Int) (x : Int) (j : Nat) : Bool := if x.tmod 2 = 1 then !(bG rows L 0 j).odd else (bG rows L 0 j).odd
theorem zyt (L : List Int) {x : Int} (h0 : 0 <= x) (j : Nat) : tJ rows L x (j + 1) = if aL rows (L.getD j 0) = 6 then tJ rows L (x + 1) j else decide (x.tmod 2 = 1) := by
 unfold tJ;rw [zsg];rw [qai h0, qai (by omega : 0 <= x + 1)];generalize aL rows (L.getD j 0) = b;generalize (bG rows L 0 j).odd = o;by_cases h6 : b = 6
 ·rw [if_pos h6, h6];by_cases hx : x % 2 = 1
  ·rw [if_pos hx, if_neg (by omega)]; simp
  ·rw [if_neg hx, if_pos (by omega)]; simp
 ·rw [if_neg h6];by_cases hx : x % 2 = 1
  ·rw [if_pos hx]; simp [h6, hx]
  ·rw [if_neg hx]; simp [h6, hx]
variable (ht : iR rows) (n f n2 f2 : Bool) (hl : rows.length < 1000000) (L : List Int) (hr : R32 L) (hL : L.length < 1000000000000)
include ht hl hr hL
theorem zyu (k : Nat) (hk : k + 1 < L.length) : PCall qa 125 [.sl n f (bK rows), .sl n2 f2 (aA L), .int .i64 ((k + 1 : Nat) : Int)] fun x => x = .bool (decide (cK rows (L.getD (k + 1) 0) = 2) && decide ((bG rows L 0 (k + 1)).conj = 2)) := by
 refine zya _ _ _ _ _ _ _ (fun x j => (-1 <= j /\ j < L.length) /\ decide ((bG rows L 0 (k + 1)).conj = 2) = qQ rows L x (j + 1).toNat) (fun _ j => (j + 1).toNat) ?_;unfold zmo;obtain ⟨g1, g2⟩ := j9 (l := L) (i := ((k + 1 : Nat) : Int)) (by omega) (by omega);rw [show (((k + 1 : Nat) : Int)).toNat = k + 1 by omega] at g2 ⊢;refine ⟨g1, _, by rw [g2]; rfl, ?_⟩;refine (zmw n f hl (jU hr _)).mono ?_;rintro _ rfl;refine ⟨_, rfl, aD (fun hc => ?_) (fun hc => ?_)⟩
 ·simp only [bne_iff_ne, ne_eq] at hc;rw [decide_eq_false hc, qap]
 ·simp only [bne_iff_ne, ne_eq, qg] at hc;rw [hc];have hw : i64.wrap (((k + 1 : Nat) : Int) - 1) = (k : Int) := by rw [aC (by omega) (by omega)]; omega
  rw [hw];refine ⟨⟨rfl, ⟨by omega, by omega⟩, by rw [show ((k : Int) + 1).toNat = k + 1 by omega]; rfl⟩, ?_⟩;rintro x j ⟨⟨j0, j1⟩, he⟩;simp only [decide_true, qaj];rw [he];refine aD (fun h => ?_) (fun h => ?_)
  ·simp only [aB, ge_iff_le] at h;obtain ⟨g1, g2⟩ := j9 (l := L) (i := j) h (by omega);refine ⟨g1, _, by rw [g2]; rfl, ?_⟩;have hs := zyq ht L x j.toNat;rw [show j.toNat + 1 = (j + 1).toNat by omega] at hs;have hwj : i64.wrap (j - 1) = j - 1 := aC (by omega) (by omega);rw [hwj];refine (zmw n f hl (jU hr _)).mono ?_;rintro _ rfl;refine ⟨_, rfl, aD (fun h2 => ?_) (fun h2 => aD (fun h0 => ?_) (fun h0 => aD (fun h1 => ?_) (fun h1 => ?_)))⟩
   ·simp only [beq_iff_eq] at h2;rw [hs, if_pos h2]
   ·simp only [beq_iff_eq] at h2 h0;rw [hs, if_neg h2, if_pos h0]
   ·simp only [beq_iff_eq] at h2 h0 h1;rw [if_neg h2, if_neg h0, if_pos h1] at hs;exact ⟨rfl, ⟨⟨by omega, by omega⟩, by rw [hs, show (j - 1 + 1).toNat = j.toNat by omega]⟩, by first | omega | (dsimp only; omega)⟩
   ·simp only [beq_iff_eq] at h2 h0 h1;rw [if_neg h2, if_neg h0, if_neg h1] at hs;exact ⟨rfl, ⟨⟨by omega, by omega⟩, by rw [hs, show (j - 1 + 1).toNat = j.toNat by omega]⟩, by first | omega | (dsimp only; omega)⟩
  ·simp only [aB, ge_iff_le] at h;rw [show (j + 1).toNat = 0 by omega];unfold qQ;cases x <;> rfl
theorem zyv (k : Nat) (hk : k + 1 < L.length) : PCall qa 126 [.sl n f (bK rows), .sl n2 f2 (aA L), .int .i64 ((k + 1 : Nat) : Int)] fun x => x = .bool (cJ rows 5 (L.getD (k + 1) 0) && decide ((bG rows L 0 (k + 1)).pict = 2)) := by
 refine zyb _ _ _ _ _ _ _ (fun j => (-1 <= j /\ j < L.length) /\ oZ rows L k = oZ rows L (j + 1).toNat) (fun j => (j + 1).toNat) ?_;unfold zmp;rw [zys ht];obtain ⟨g1, g2⟩ := j9 (l := L) (i := ((k + 1 : Nat) : Int)) (by omega) (by omega);rw [show (((k + 1 : Nat) : Int)).toNat = k + 1 by omega] at g2 ⊢;refine ⟨g1, _, by rw [g2]; rfl, ?_⟩;refine (nC n f 5 _ hl (jU hr _)).mono ?_;rintro _ rfl;refine ⟨_, rfl, aD (fun hc => ?_) (fun hc => ?_)⟩
 ·simp only [bne_iff_ne, ne_eq, xB] at hc;rw [Bool.eq_false_iff.2 hc, qap]
 simp only [bne_iff_ne, ne_eq, qg, xB] at hc;rw [hc];have hw : i64.wrap (((k + 1 : Nat) : Int) - 1) = (k : Int) := by rw [aC (by omega) (by omega)]; omega
 have hw2 : i64.wrap (((k + 1 : Nat) : Int) - 2) = (k : Int) - 1 := by rw [aC (by omega) (by omega)]; omega
 rw [hw, hw2];obtain ⟨k1, k2⟩ := j9 (l := L) (i := (k : Int)) (by omega) (by omega);refine ⟨k1, _, by rw [k2]; rfl, ?_⟩;rw [show ((k : Int)).toNat = k by omega];refine (oY n f hl (jU hr _)).mono ?_;rintro _ rfl;refine ⟨_, rfl, aD (fun h5 => ?_) (fun h5 => ?_)⟩
 ·simp only [bne_iff_ne, ne_eq] at h5;rw [decide_eq_false h5, qap, qbt]
 simp only [bne_iff_ne, ne_eq, qg] at h5;rw [h5];simp only [decide_true, qaj];refine ⟨⟨rfl, ⟨by omega, by omega⟩, by rw [show ((k : Int) - 1 + 1).toNat = k by omega]⟩, ?_⟩;rintro j ⟨⟨j0, j1⟩, he⟩;rw [he];refine aD (fun h => ?_) (fun h => ?_)
 ·simp only [aB, ge_iff_le] at h;obtain ⟨g1, g2⟩ := j9 (l := L) (i := j) h (by omega);refine ⟨g1, _, by rw [g2]; rfl, ?_⟩;have hs := zyr (rows := rows) L j.toNat;rw [show j.toNat + 1 = (j + 1).toNat by omega] at hs;have hwj : i64.wrap (j - 1) = j - 1 := aC (by omega) (by omega);rw [hwj];refine (nC n f 5 _ hl (jU hr _)).mono ?_;rintro _ rfl;refine ⟨_, rfl, aD (fun h2 => ?_) (fun h2 => ?_)⟩
  ·simp only [beq_iff_eq, xB] at h2;rw [hs, if_pos h2]
  ·simp only [beq_iff_eq, xB] at h2;refine ⟨g1, _, by rw [g2]; rfl, ?_⟩;refine (oY n f hl (jU hr _)).mono ?_;rintro _ rfl;refine ⟨_, rfl, aD (fun h4 => ?_) (fun h4 => ?_)⟩
   ·simp only [bne_iff_ne, ne_eq] at h4;rw [hs, if_neg h2, if_pos h4]
   ·simp only [bne_iff_ne, ne_eq, qg] at h4;rw [if_neg h2, if_neg (fun h => h h4)] at hs;exact ⟨rfl, ⟨⟨by omega, by omega⟩, by rw [hs, show (j - 1 + 1).toNat = j.toNat by omega]⟩, by first | omega | (dsimp only; omega)⟩
 ·simp only [aB, ge_iff_le] at h;rw [show (j + 1).toNat = 0 by omega]; rfl
theorem zyw (k : Nat) (hk : k + 1 < L.length) : PCall qa 127 [.sl n f (bK rows), .sl n2 f2 (aA L), .int .i64 ((k + 1 : Nat) : Int)] fun x => x = .bool (decide (aL rows (L.getD (k + 1) 0) = 6) && (bG rows L 0 (k + 1)).odd) := by
 have _ht := ht;refine zyc _ _ _ _ _ _ _ (fun x j => (-1 <= j /\ j < L.length) /\ (0 <= x /\ x + j <= k) /\ (bG rows L 0 (k + 1)).odd = tJ rows L x (j + 1).toNat) (fun _ j => (j + 1).toNat) ?_;unfold zmq;obtain ⟨g1, g2⟩ := j9 (l := L) (i := ((k + 1 : Nat) : Int)) (by omega) (by omega);rw [show (((k + 1 : Nat) : Int)).toNat = k + 1 by omega] at g2 ⊢;refine ⟨g1, _, by rw [g2]; rfl, ?_⟩;refine (oY n f hl (jU hr _)).mono ?_;rintro _ rfl;refine ⟨_, rfl, aD (fun hc => ?_) (fun hc => ?_)⟩
 ·simp only [bne_iff_ne, ne_eq] at hc;rw [decide_eq_false hc, qap]
 simp only [bne_iff_ne, ne_eq, qg] at hc;rw [hc];have hw : i64.wrap (((k + 1 : Nat) : Int) - 1) = (k : Int) := by rw [aC (by omega) (by omega)]; omega
 rw [hw];refine ⟨⟨rfl, ⟨by omega, by omega⟩, ⟨qq _, by omega⟩, by rw [show ((k : Int) + 1).toNat = k + 1 by omega]; rfl⟩, ?_⟩;rintro x j ⟨⟨j0, j1⟩, ⟨x0, x1⟩, he⟩;simp only [decide_true, qaj];rw [he];have hx : ∀ y : Int, (y.tmod 2 == 1) = decide (y.tmod 2 = 1) := fun y => by by_cases h : y.tmod 2 = 1 <;> simp [h]
 refine aD (fun h => ?_) (fun h => ?_)
 ·simp only [aB, ge_iff_le] at h;obtain ⟨g1, g2⟩ := j9 (l := L) (i := j) h (by omega);refine ⟨g1, _, by rw [g2]; rfl, ?_⟩;have hs := zyt (rows := rows) L x0 j.toNat;rw [show j.toNat + 1 = (j + 1).toNat by omega] at hs;have hwj : i64.wrap (j - 1) = j - 1 := aC (by omega) (by omega);have hwx : i64.wrap (x + 1) = x + 1 := aC (by omega) (by omega);rw [hwj, hwx];refine (oY n f hl (jU hr _)).mono ?_;rintro _ rfl;refine ⟨_, rfl, aD (fun h6 => ?_) (fun h6 => ?_)⟩
  ·simp only [beq_iff_eq] at h6;rw [if_pos h6] at hs;exact ⟨rfl, ⟨⟨by omega, by omega⟩, ⟨by omega, by omega⟩, by rw [hs, show (j - 1 + 1).toNat = j.toNat by omega]⟩, by first | omega | (dsimp only; omega)⟩
  ·simp only [beq_iff_eq] at h6;rw [hs, if_neg h6, hx]
 ·simp only [aB, ge_iff_le] at h;rw [show (j + 1).toNat = 0 by omega, hx];unfold tJ;show _ = PV.bool (if x.tmod 2 = 1 then !false else false);by_cases h1 : x.tmod 2 = 1 <;> simp [h1]
theorem zyx (k : Int) (k0 : 0 <= k) (k1 : k < L.length) : PCall qa 95 [.sl n f (bK rows), .sl n2 f2 (aA L), .int .i64 k] fun x => x = .bool (fW rows L k.toNat) := by
 refine zyd _ _ _ _ _ _ _ ?_; unfold zmr;refine aD (fun h0 => ?_) (fun h0 => ?_)
 ·simp only [beq_iff_eq] at h0;rw [h0]; rfl
 simp only [beq_iff_eq] at h0;obtain ⟨j, rfl⟩ : ∃ j : Nat, k = ((j + 1 : Nat) : Int) := ⟨k.toNat - 1, by omega⟩;have hw : i64.wrap (((j + 1 : Nat) : Int) - 1) = (j : Int) := by rw [aC (by omega) (by omega)]; omega
 rw [hw, show (((j + 1 : Nat) : Int)).toNat = j + 1 by omega, zse ht];obtain ⟨g1, g2⟩ := j9 (l := L) (i := (j : Int)) (by omega) (by omega);obtain ⟨k1, k2⟩ := j9 (l := L) (i := ((j + 1 : Nat) : Int)) (by omega) (by omega);rw [show (((j + 1 : Nat) : Int)).toNat = j + 1 by omega] at k2;rw [show ((j : Int)).toNat = j by omega] at g2 ⊢;refine ⟨g1, _, by rw [g2]; rfl, k1, _, by rw [k2]; rfl, ?_⟩;have c1 := zyu ht n f n2 f2 hl L hr hL j (by omega);have c2 := zyv ht n f n2 f2 hl L hr hL j (by omega);have c3 := zyw ht n f n2 f2 hl L hr hL j (by omega);refine (oY n f hl (jU hr _)).mono ?_;rintro _ rfl;refine ⟨_, rfl, ?_⟩;refine (oY n f hl (jU hr _)).mono ?_;rintro _ rfl;refine ⟨_, rfl, ?_⟩;generalize aL rows (L.getD j 0) = a at *;generalize hb : aL rows (L.getD (j + 1) 0) = b at *;refine aD (fun h1 => ?_) (fun h1 => ?_)
 ·simp only [qf, beq_iff_eq] at h1;rw [if_pos h1]
 simp only [qf, beq_iff_eq] at h1;rw [if_neg h1];refine (zm4 a).mono ?_;rintro _ rfl;refine ⟨_, rfl, aD (fun h2 => ?_) (fun h2 => ?_)⟩
 ·rw [if_pos (.inl h2)]
 refine (zm4 b).mono ?_;rintro _ rfl;refine ⟨_, rfl, aD (fun h3 => ?_) (fun h3 => ?_)⟩
 ·rw [if_pos (.inr h3)]
 rw [if_neg (fun h => h.elim h2 h3)];refine (zyp a b).mono ?_;rintro _ rfl;refine ⟨_, rfl, aD (fun h4 => ?_) (fun h4 => ?_)⟩
 ·simp only [ql, beq_iff_eq] at h4;rw [if_pos (by rcases h4 with (((h | h) | h) | h) | h; exact .inl h; exact .inr (.inl h); exact .inr (.inr (.inl h)); exact .inr (.inr (.inr (.inl h))); exact .inr (.inr (.inr (.inr h))))]
 simp only [ql, beq_iff_eq] at h4;rw [if_neg (by rintro (h | h | h | h | h); exact h4 (.inl (.inl (.inl (.inl h)))); exact h4 (.inl (.inl (.inl (.inr h)))); exact h4 (.inl (.inl (.inr h))); exact h4 (.inl (.inr h)); exact h4 (.inr h))];refine c1.mono ?_;rintro _ rfl;refine ⟨_, rfl, ?_⟩;generalize (decide (cK rows (L.getD (j + 1) 0) = 2) && decide ((bG rows L 0 (j + 1)).conj = 2)) = x1;cases x1 with
 | true => exact bZ (by simp) rfl
 | false =>
   refine bV rfl ?_;refine c2.mono ?_;rintro _ rfl;refine ⟨_, rfl, ?_⟩;generalize (cJ rows 5 (L.getD (j + 1) 0) && decide ((bG rows L 0 (j + 1)).pict = 2)) = x2;cases x2 with
   | true => exact bZ (by simp) rfl
   | false =>
     refine bV rfl ?_;refine c3.mono ?_;rintro _ rfl;exact ⟨_, rfl, rfl⟩
theorem zyy (k : Int) (k0 : 0 <= k) (k1 : k < L.length) : PCall qa 72 [.sl n f (bK rows), .sl n2 f2 (aA L), .int .i64 k] fun x => x = .int .i64 (cE rows L k.toNat : Nat) := by
 refine zye _ _ _ _ _ _ _ (fun i => (k + 1 <= i /\ i <= L.length) /\ cE rows L k.toNat = gM rows L (L.length - i.toNat) i.toNat) (fun i => L.length - i.toNat) ?_;unfold zms;have hl8 : ((aA L).length : Int) = L.length := by rw [bY]
 have hw : i64.wrap (k + 1) = k + 1 := aC (by omega) (by omega);rw [hl8, hw];refine ⟨⟨rfl, ⟨by omega, by omega⟩, by rw [show (k + 1).toNat = k.toNat + 1 by omega]; rfl⟩, ?_⟩;rintro i ⟨⟨i0, i1⟩, hn⟩;refine aD (fun hc => ?_) (fun hc => ?_)
 ·simp only [aB] at hc;have hi : i.toNat < L.length := by omega
  have hwi : i64.wrap (i + 1) = i + 1 := aC (by omega) (by omega);rw [hwi];refine (zyx ht n f n2 f2 hl L hr hL i (by omega) hc).mono ?_;rintro _ rfl;refine ⟨_, rfl, aD (fun hb => ?_) (fun hb => ?_)⟩
  ·rw [hn, zmy hi hb, show ((i.toNat : Nat) : Int) = i by omega]
  ·refine ⟨rfl, ⟨⟨by omega, by omega⟩, ?_⟩, by first | omega | (dsimp only; omega)⟩
   rw [hn, zmx hi (by simpa using hb), show (i + 1).toNat = i.toNat + 1 by omega]
 ·simp only [aB] at hc;rw [hn, show L.length - i.toNat = 0 by omega];show _ = PV.int .i64 ((i.toNat : Nat) : Int);rw [show ((i.toNat : Nat) : Int) = (L.length : Int) by omega]
theorem zyz (hL2 : L.length < 100000000) : PCall qa 46 [.sl n f (bK rows), .sl n2 f2 (aA L)] fun x => ∃ (n f : Bool) (Q : List (Bool × Bool × List Int)), x = .sl n f (Q.map aS) /\ Q.map (fun q => q.2.2) = gO rows L 0 := by
 refine zyf _ _ _ _ _ _
  (fun i n s => (0 <= i /\ i <= L.length) /\ ∃ Q : List (Bool × Bool × List Int), s = Q.map aS /\ gO rows L 0 = Q.map (fun q => q.2.2) ++ gO rows L i.toNat /\ Q.length <= i.toNat) (fun i _ _ => L.length - i.toNat) ?_
 unfold zmt;have hl8 : ((aA L).length : Int) = L.length := by rw [bY]
 rw [hl8];refine ⟨⟨rfl, ⟨qq _, by omega⟩, [], rfl, rfl, qk _⟩, ?_⟩;rintro i n3 _ ⟨⟨i0, i1⟩, Q, rfl, hcl, hql⟩;refine aD (fun hc => ?_) (fun hc => ?_)
 ·simp only [aB] at hc;have hi : i.toNat < L.length := by omega
  obtain ⟨x1, x2, x3⟩ := mT (rows := rows) hi;refine (zyy ht n f n2 f2 hl L hr hL i i0 hc).mono ?_;rintro _ rfl;refine ⟨_, rfl, ⟨zma i0 (by omega) (by rw [bY]; omega), eT _⟩, ?_⟩;rw [show (((cE rows L i.toNat : Nat) : Int)).toNat = cE rows L i.toNat by omega, zmb];refine ⟨⟨mN (enc := aS) zd0 [(n2, _, fJ L i.toNat (cE rows L i.toNat))], by rw [qe]; omega⟩, rfl, ⟨⟨by omega, by omega⟩, Q ++ [(n2, _, fJ L i.toNat (cE rows L i.toNat))], by rw [qu]; rfl, ?_, ?_⟩, ?_⟩
  ·rw [show (((cE rows L i.toNat : Nat) : Int)).toNat = cE rows L i.toNat by omega, hcl, zap hi, qu, qi]; rfl
  ·rw [show (((cE rows L i.toNat : Nat) : Int)).toNat = cE rows L i.toNat by omega, qb, qx]; omega
  ·dsimp only; omega
 ·simp only [aB] at hc;rw [vS (i := i.toNat) (by omega), qt] at hcl;exact ⟨n3, false, Q, rfl, hcl.symm⟩
end
end Go.Eng
namespace Go.Eng
open Go Go.Proofs Go.Eng.Rows Go.Eng.Srt
def BdS (S : List DStep) (n t : Nat) : Prop := S.length <= n /\ ∀ s ∈ S, 0 <= s.n /\ s.n <= n /\ s.text.length <= t
theorem zm5 : BdS [] 0 0 := ⟨qk _, fun s hs => by cases hs⟩
theorem zm6 {S : List DStep} {n t M : Nat} (h : BdS S n t) {k : Int} {c : List Int} (hc : c.length <= M) : BdS (dH S (k, c)) (n + 1) (t + M) := by
 obtain ⟨h1, h2⟩ := h;rcases kV S with rfl | ⟨S, s, rfl⟩
 ·rw [zh5];refine ⟨by simp, fun s hs => ?_⟩;rw [List.mem_singleton.1 hs];exact ⟨by show (0 : Int) <= 1; omega, by dsimp only; omega, by dsimp only; omega⟩
 ·rw [qG];rw [qb, qx] at h1;split
  ·refine ⟨by rw [qb, qx]; omega, fun x hx => ?_⟩;rcases List.mem_append.1 hx with hx | hx
   ·have := h2 x (List.mem_append_left _ hx); exact ⟨this.1, by omega, by omega⟩
   ·rw [List.mem_singleton.1 hx];have := h2 s (by simp);refine ⟨by dsimp only; omega, by dsimp only; omega, ?_⟩;show (s.text ++ c).length <= _;rw [qb]; omega
  ·refine ⟨by rw [qb, qb, qx, qx]; omega, fun x hx => ?_⟩;rcases List.mem_append.1 hx with hx | hx
   ·have := h2 x hx; exact ⟨this.1, by omega, by omega⟩
   ·rw [List.mem_singleton.1 hx];exact ⟨by show (0 : Int) <= 1; omega, by dsimp only; omega, by dsimp only; omega⟩
def ofA (f : Func) : Code := aX (aX (cM f))
def xC (f : Func) : Code := gP (gP (bI (aX (aX (aX (aX (ofA f)))))))
def ofY (f : Func) : Code := gP (gP (aX (xC f)))
def ofT (f : Func) : Code := vX (aX (ofY f))
def mC (f : Func) : Code := zat (aX (ofY f))
def bW (v : Value) (i k : Int) : Env := [(8, .box 0 0), (9, .pv (.raw v)), (10, .pv (.int .i64 i)), (11, .pv (.int .i64 k))]
def eT1 (v : Value) (i k : Int) (na fa : Bool) (xa : LL) (n f : Bool) (es : LL) : Env := (108, .pv (.sl n f es)) :: (107, .pv (.ptr (xa.getD i.toNat []))) :: (106, .pv (.int .i64 i)) :: (105, .pv (.sl na fa xa)) :: (104, .box 0 0) :: (103, .box 0 0) :: (102, .box 0 0) :: (101, .pv (.raw v)) :: bW v i k
def eU1 (v : Value) (i k : Int) (na fa : Bool) (xa : LL) (n f : Bool) (es : LL) : Env := (163, .pv (.sl n f es)) :: (162, .pv (.ptr (xa.getD i.toNat []))) :: (161, .pv (.int .i64 i)) :: (160, .pv (.sl na fa xa)) :: (159, .box 0 0) :: (158, .box 0 0) :: (157, .box 0 0) :: (156, .pv (.raw v)) :: bW v i k
def eV1 (v : Value) (i k : Int) (nb fb : Bool) (xb : LL) (n f : Bool) (es : LL) : Env := (63, .pv (.sl n f es)) :: (62, .pv (.ptr (xb.getD k.toNat []))) :: (61, .pv (.int .i64 k)) :: (60, .pv (.sl nb fb xb)) :: (59, .box 0 1) :: (58, .box 0 0) :: (57, .box 0 0) :: (56, .pv (.raw v)) :: bW v i k
def bQ (na fa : Bool) (xa : LL) (nb fb : Bool) (xb : LL) (nl : Bool) (L : LL) : Hp := [.box [.pv (.sl na fa xa), .pv (.sl nb fb xb), .own 1], .sl (3, 1) true nl L]
def mD : List Nat := [0, 1, 2, 6, 7, 8, 9, 10, 11, 37, 55, 67, 114]
def zy0 : Nat -> Option HSpec := fun zz_ => match zz_ with | 35 => some ⟨Bool × List (List PV), fun _ hs t => (.tup [], match hs with | [.box (a :: b :: _)] => [.box [a, b, .own 1], .sl (3, 1) true t.1 t.2] | h => h), none⟩ | _ => none
section
variable {na fa nb fb nl : Bool} {xa xb L : LL} {v : Value} {i k : Int}
theorem pO0 (ts : List PV) (n f n2 f2 : Bool) (es ss : LL) (Q : Qt) : cY qa (fun _ => none) 0 168 mD (fun _ => none) (bI (cM Tryz.f9)) [(0, .pv (.ptr ts)), (1, .pv (.sl n f es)), (2, .pv (.sl n2 f2 ss))] [] Q =
 Q .normal [(0, .pv (.ptr ts)), (1, .pv (.sl n f es)), (2, .pv (.sl n2 f2 ss)), (6, .pv (.sl true true [])), (7, .pv (.int .i64 0))] [] := by kernel_rfl
theorem pO1 (ts : List PV) (n f n2 f2 : Bool) (es ss : LL) (Q : Qt) : cY qa (fun _ => none) 0 168 mD (fun _ => none) (bI (aX (cM Tryz.f9))) [(0, .pv (.ptr ts)), (1, .pv (.sl n f es)), (2, .pv (.sl n2 f2 ss)), (6, .pv (.sl true true [])), (7, .pv (.int .i64 0))] [] Q =
 PCall qa 34 [.ptr ts, .sl n f es] fun v => ∃ n1 f1 es1, v = .sl n1 f1 es1 /\ PCall qa 33 [.ptr ts, .sl n1 f1 es1] fun v1 => ∃ n3 f3 es2, v1 = .sl n3 f3 es2 /\ PCall qa 34 [.ptr ts, .sl n2 f2 ss] fun v2 => ∃ n4 f4 es3, v2 = .sl n4 f4 es3 /\
  PCall qa 33 [.ptr ts, .sl n4 f4 es3] fun v3 => ∃ n5 f5 es4, v3 = .sl n5 f5 es4 /\
   Q .normal [(0, .pv (.ptr ts)), (1, .pv (.sl n f es)), (2, .pv (.sl n2 f2 ss)), (6, .pv (.sl true true [])), (7, .pv (.int .i64 0)), (8, .box 0 0)] [.box [.pv (.sl n3 f3 es2), .pv (.sl n5 f5 es4), .pv (.sl true true [])]] := by kernel_rfl
theorem pO2 (Q : Qt) : cY qa (fun _ => none) 0 168 mD (fun _ => none) (bI (ofA Tryz.f9)) [(8, .box 0 0), (6, .pv (.sl true true [])), (7, .pv (.int .i64 0))] [.box [.pv (.sl na fa xa), .pv (.sl nb fb xb), .pv (.sl true true [])]] Q =
 (i64.wrap ((xb.length : Int) + 1) ≠ 0 /\ if decide (i64.wrap ((xa.length : Int) + 1) > i64.wrap (qaz 1048576 (i64.wrap ((xb.length : Int) + 1)))) = true then
  Q .ret [(6, .pv (.sl true true [])), (7, .pv (.int .i64 7)), (8, .box 0 0), (37, .pv (.bool (decide (i64.wrap ((xa.length : Int) + 1) > i64.wrap (qaz 1048576 (i64.wrap ((xb.length : Int) + 1)))))))] [.box [.pv (.sl na fa xa), .pv (.sl nb fb xb), .pv (.sl true true [])]]
 else Q .normal [(6, .pv (.sl true true [])), (7, .pv (.int .i64 0)), (8, .box 0 0), (37, .pv (.bool (decide (i64.wrap ((xa.length : Int) + 1) > i64.wrap (qaz 1048576 (i64.wrap ((xb.length : Int) + 1)))))))] [.box [.pv (.sl na fa xa), .pv (.sl nb fb xb), .pv (.sl true true [])]]) := by kernel_rfl
theorem pO4 (Q : Qt) : cY qa zy0 0 168 mD (fun _ => none) (bI (aX (ofA Tryz.f9))) [(8, .box 0 0)] [.box [.pv (.sl na fa xa), .pv (.sl nb fb xb), .pv (.sl true true [])]] Q =
 ACall qa 35 [.box 0 0] [.box [.pv (.sl na fa xa), .pv (.sl nb fb xb), .pv (.sl true true [])]] fun r h' => ∃ t : Bool × List (List PV), (r = .tup [] /\ h' = [.box [.pv (.sl na fa xa), .pv (.sl nb fb xb), .own 1], .sl (3, 1) true t.1 t.2]) /\ (True /\ True) /\
  Q .normal [(8, .box 0 0)] (bQ na fa xa nb fb xb t.1 t.2) := by kernel_rfl
theorem pO5 (Q : Qt) : cY qa (fun _ => none) 0 168 mD (fun _ => none) (bI (aX (aX (ofA Tryz.f9)))) [(8, .box 0 0)] (bQ na fa xa nb fb xb nl L) Q = Q .normal [(8, .box 0 0), (9, .pv (.sl true true []))] (bQ na fa xa nb fb xb nl L) := by kernel_rfl
theorem pO6 (Q : Qt) : cY qa (fun _ => none) 0 168 mD (fun _ => none) (bI (aX (aX (aX (ofA Tryz.f9))))) [(8, .box 0 0), (9, .pv (.sl true true []))] (bQ na fa xa nb fb xb nl L) Q =
 Q .normal [(8, .box 0 0), (9, .pv (.sl true true [])), (10, .pv (.int .i64 0)), (11, .pv (.int .i64 0))] (bQ na fa xa nb fb xb nl L) := by kernel_rfl
theorem pO7 (Q : Qt) : cY qa (fun _ => none) 0 168 mD (fun _ => none) (bI (xC Tryz.f9)) (bW v i k) (bQ na fa xa nb fb xb nl L) Q =
 if decide (i < (xa.length : Int)) = true then Q .normal [(8, .box 0 0), (9, .pv (.raw v)), (10, .pv (.int .i64 i)), (11, .pv (.int .i64 k)), (55, .pv (.bool true))] (bQ na fa xa nb fb xb nl L)
 else if decide (k < (xb.length : Int)) = true then Q .normal [(8, .box 0 0), (9, .pv (.raw v)), (10, .pv (.int .i64 i)), (11, .pv (.int .i64 k)), (55, .pv (.bool (decide (k < (xb.length : Int)))))] (bQ na fa xa nb fb xb nl L)
 else Q (.exit 0) [(8, .box 0 0), (9, .pv (.raw v)), (10, .pv (.int .i64 i)), (11, .pv (.int .i64 k)), (55, .pv (.bool (decide (k < (xb.length : Int)))))] (bQ na fa xa nb fb xb nl L) := by kernel_rfl
theorem zy1 (Q : Qt) : cY qa (fun _ => none) 0 168 mD (fun _ => none) (bI (ofY Tryz.f9)) (bW v i k) (bQ na fa xa nb fb xb nl L) Q =
 if decide (i < (xa.length : Int)) = true then
  if decide (k < (xb.length : Int)) = true then aF xa i 1 /\ ∃ n f es, (xa.getD i.toNat []).head? = some (.sl n f es) /\ aF xb k 1 /\ ∃ n1 f1 es1, (xb.getD k.toNat []).head? = some (.sl n1 f1 es1) /\ PCall qa 36 [.sl n f es, .sl n1 f1 es1] fun v1 => ∃ b, v1 = .bool b /\
   Q .normal [(8, .box 0 0), (9, .pv (.raw v)), (10, .pv (.int .i64 i)), (11, .pv (.int .i64 k)), (67, .pv (.bool b))] (bQ na fa xa nb fb xb nl L)
  else Q .normal [(8, .box 0 0), (9, .pv (.raw v)), (10, .pv (.int .i64 i)), (11, .pv (.int .i64 k)), (67, .pv (.bool false))] (bQ na fa xa nb fb xb nl L)
 else Q .normal [(8, .box 0 0), (9, .pv (.raw v)), (10, .pv (.int .i64 i)), (11, .pv (.int .i64 k)), (67, .pv (.bool false))] (bQ na fa xa nb fb xb nl L) := by kernel_rfl
theorem zy2 (Q : Qt) : cY qa (fun _ => none) 0 168 mD (fun _ => none) (bI (mC Tryz.f9)) (bW v i k) (bQ na fa xa nb fb xb nl L) Q =
 if (k == (xb.length : Int)) = true then Q .normal [(8, .box 0 0), (9, .pv (.raw v)), (10, .pv (.int .i64 i)), (11, .pv (.int .i64 k)), (114, .pv (.bool true))] (bQ na fa xa nb fb xb nl L)
 else if decide (i < (xa.length : Int)) = true then PCall qa 38 [.ptr [.sl na fa xa, .sl nb fb xb, .sl nl false L], .int .i64 (i64.wrap (i + 1)), .int .i64 k] fun v1 => ∃ n, v1 = .int .i64 n /\ true = true /\ aF L n 1 /\ ∃ n1, (qc 0 (L.getD n.toNat [])).head? = some (.int .i64 n1) /\
  PCall qa 38 [.ptr [.sl na fa xa, .sl nb fb xb, .sl nl false L], .int .i64 i, .int .i64 (i64.wrap (k + 1))] fun v2 => ∃ n2, v2 = .int .i64 n2 /\ true = true /\ aF L n2 1 /\ ∃ n3, (qc 0 (L.getD n2.toNat [])).head? = some (.int .i64 n3) /\
   Q .normal [(8, .box 0 0), (9, .pv (.raw v)), (10, .pv (.int .i64 i)), (11, .pv (.int .i64 k)), (114, .pv (.bool (decide (n1 >= n3))))] (bQ na fa xa nb fb xb nl L)
 else Q .normal [(8, .box 0 0), (9, .pv (.raw v)), (10, .pv (.int .i64 i)), (11, .pv (.int .i64 k)), (114, .pv (.bool false))] (bQ na fa xa nb fb xb nl L) := by kernel_rfl
def gZ (f : Func) : Array Oper := bU (bI (ofT f))
def oT2 (f : Func) : Array Oper := bU (aX (ofT f))
def fM (f : Func) : Array Oper := bU (bI (vX (aX (mC f))))
def nG (f : Func) : Array Oper := bU (aX (vX (aX (mC f))))
def fN (f : Func) : Array Oper := bU (bI (zat (aX (mC f))))
def nH (f : Func) : Array Oper := bU (aX (zat (aX (mC f))))
def ofR (f : Func) : Array Oper := bU (bI (aX (aX (aX (aX (aX (ofA f)))))))
theorem zy3 (K : Env -> Hp -> Prop) : aW qa (fun _ => none) 168 (gZ Tryz.f9).toList (((gZ Tryz.f9).toList.drop 0).take 8) (bW v i k) (bQ na fa xa nb fb xb nl L) K =
 (aF xa i 1 /\ ∃ n f es, (xa.getD i.toNat []).head? = some (.sl n f es) /\ K (eT1 v i k na fa xa n f es) (bQ na fa xa nb fb xb nl L)) := by kernel_rfl
theorem zy4 (n f : Bool) (es : LL) (v' : Value) (K : Env -> Hp -> Prop) : aW qa (fun _ => none) 168 (gZ Tryz.f9).toList (((gZ Tryz.f9).toList.drop 9).take 1) (set (eT1 v i k na fa xa n f es) 109 (.pv (.raw v'))) (bQ na fa xa nb fb xb nl L) K =
 K ((9, .pv (.raw v')) :: set (eT1 v i k na fa xa n f es) 109 (.pv (.raw v'))) (bQ na fa xa nb fb xb nl L) := by kernel_rfl
theorem pT2 (K : Env -> Hp -> Prop) : aW qa (fun _ => none) 168 (oT2 Tryz.f9).toList (oT2 Tryz.f9).toList (bW v i k) (bQ na fa xa nb fb xb nl L) K =
 K ((11, .pv (.int .i64 (i64.wrap (k + 1)))) :: (10, .pv (.int .i64 (i64.wrap (i + 1)))) :: (113, .pv (.int .i64 (i64.wrap (k + 1)))) :: (112, .pv (.int .i64 k)) :: (111, .pv (.int .i64 (i64.wrap (i + 1)))) :: (110, .pv (.int .i64 i)) :: bW v i k) (bQ na fa xa nb fb xb nl L) := by kernel_rfl
theorem zy5 (K : Env -> Hp -> Prop) : aW qa (fun _ => none) 168 (fM Tryz.f9).toList (((fM Tryz.f9).toList.drop 0).take 8) (bW v i k) (bQ na fa xa nb fb xb nl L) K =
 (aF xa i 1 /\ ∃ n f es, (xa.getD i.toNat []).head? = some (.sl n f es) /\ K (eU1 v i k na fa xa n f es) (bQ na fa xa nb fb xb nl L)) := by kernel_rfl
theorem zy6 (n f : Bool) (es : LL) (v' : Value) (K : Env -> Hp -> Prop) : aW qa (fun _ => none) 168 (fM Tryz.f9).toList (((fM Tryz.f9).toList.drop 9).take 1) (set (eU1 v i k na fa xa n f es) 164 (.pv (.raw v'))) (bQ na fa xa nb fb xb nl L) K =
 K ((9, .pv (.raw v')) :: set (eU1 v i k na fa xa n f es) 164 (.pv (.raw v'))) (bQ na fa xa nb fb xb nl L) := by kernel_rfl
theorem pU2 (K : Env -> Hp -> Prop) : aW qa (fun _ => none) 168 (nG Tryz.f9).toList (nG Tryz.f9).toList (bW v i k) (bQ na fa xa nb fb xb nl L) K =
 K ((10, .pv (.int .i64 (i64.wrap (i + 1)))) :: (166, .pv (.int .i64 (i64.wrap (i + 1)))) :: (165, .pv (.int .i64 i)) :: bW v i k) (bQ na fa xa nb fb xb nl L) := by kernel_rfl
theorem zy7 (K : Env -> Hp -> Prop) : aW qa (fun _ => none) 168 (fN Tryz.f9).toList (((fN Tryz.f9).toList.drop 0).take 8) (bW v i k) (bQ na fa xa nb fb xb nl L) K =
 (aF xb k 1 /\ ∃ n f es, (xb.getD k.toNat []).head? = some (.sl n f es) /\ K (eV1 v i k nb fb xb n f es) (bQ na fa xa nb fb xb nl L)) := by kernel_rfl
theorem zy8 (n f : Bool) (es : LL) (v' : Value) (K : Env -> Hp -> Prop) : aW qa (fun _ => none) 168 (fN Tryz.f9).toList (((fN Tryz.f9).toList.drop 9).take 1) (set (eV1 v i k nb fb xb n f es) 64 (.pv (.raw v'))) (bQ na fa xa nb fb xb nl L) K =
 K ((9, .pv (.raw v')) :: set (eV1 v i k nb fb xb n f es) 64 (.pv (.raw v'))) (bQ na fa xa nb fb xb nl L) := by kernel_rfl
theorem pV2 (K : Env -> Hp -> Prop) : aW qa (fun _ => none) 168 (nH Tryz.f9).toList (nH Tryz.f9).toList (bW v i k) (bQ na fa xa nb fb xb nl L) K =
 K ((11, .pv (.int .i64 (i64.wrap (k + 1)))) :: (66, .pv (.int .i64 (i64.wrap (k + 1)))) :: (65, .pv (.int .i64 k)) :: bW v i k) (bQ na fa xa nb fb xb nl L) := by kernel_rfl
theorem zy9 (K : Env -> Hp -> Prop) : aW qa (fun _ => none) 168 (ofR Tryz.f9).toList (ofR Tryz.f9).toList (bW v i k) (bQ na fa xa nb fb xb nl L) K =
 K ((7, .pv (.int .i64 0)) :: (6, .pv (.raw v)) :: (167, .pv (.raw v)) :: bW v i k) (bQ na fa xa nb fb xb nl L) := by kernel_rfl
end
theorem zza : Tryz.f9.body = some (.seq (bI (cM Tryz.f9)) (.seq (bI (aX (cM Tryz.f9))) (.seq (bI (ofA Tryz.f9)) (.seq (bI (aX (ofA Tryz.f9))) (.seq (bI (aX (aX (ofA Tryz.f9)))) (.seq (bI (aX (aX (aX (ofA Tryz.f9))))) (.seq (.block 0 (.loop (.seq (bI (xC Tryz.f9)) (.block 1 (.block 2 (.seq (bI (ofY Tryz.f9))
 (.cond (.tmp 67) (.seq (.region 11 (gZ Tryz.f9) false) (.region 12 (oT2 Tryz.f9) false)) (.seq (bI (mC Tryz.f9)) (.cond (.tmp 114) (.seq (.region 14 (fM Tryz.f9) false) (.region 15 (nG Tryz.f9) false)) (.seq (.region 8 (fN Tryz.f9) false) (.region 9 (nH Tryz.f9) false))))))))))) (.seq (.region 16 (ofR Tryz.f9) false) .ret)))))))) := by kernel_rfl
theorem zd1 : dG (gZ Tryz.f9).toList = true /\ dG (oT2 Tryz.f9).toList = true /\ dG (fM Tryz.f9).toList = true /\ dG (nG Tryz.f9).toList = true /\ dG (fN Tryz.f9).toList = true /\ dG (nH Tryz.f9).toList = true /\ dG (ofR Tryz.f9).toList = true /\
 (gZ Tryz.f9).size = 10 /\ (fM Tryz.f9).size = 10 /\ (fN Tryz.f9).size = 10 /\ Tryz.f9.results.toList = [.tmp 6, .tmp 7] :=
 ⟨by kernel_rfl, by kernel_rfl, by kernel_rfl, by kernel_rfl, by kernel_rfl, by kernel_rfl, by kernel_rfl, by kernel_rfl, by kernel_rfl, by kernel_rfl, by kernel_rfl⟩
theorem zzb : (gZ Tryz.f9)[8]? = some ((gZ Tryz.f9).toList.getD 8 default) /\ ((gZ Tryz.f9).toList.getD 8 default).guard = none /\ ((gZ Tryz.f9).toList.getD 8 default).dst = some 109 /\
 ((gZ Tryz.f9).toList.getD 8 default).op = .call { callee := .value (.func 37), args := #[.tmp 101, .const (.int .i64 0), .tmp 108], argTypes := #[26, 3, 22] } := ⟨by kernel_rfl, by kernel_rfl, by kernel_rfl, by kernel_rfl⟩
theorem zzc : (fM Tryz.f9)[8]? = some ((fM Tryz.f9).toList.getD 8 default) /\ ((fM Tryz.f9).toList.getD 8 default).guard = none /\ ((fM Tryz.f9).toList.getD 8 default).dst = some 164 /\
 ((fM Tryz.f9).toList.getD 8 default).op = .call { callee := .value (.func 37), args := #[.tmp 156, .const (.int .i64 1), .tmp 163], argTypes := #[26, 3, 22] } := ⟨by kernel_rfl, by kernel_rfl, by kernel_rfl, by kernel_rfl⟩
theorem zzd : (fN Tryz.f9)[8]? = some ((fN Tryz.f9).toList.getD 8 default) /\ ((fN Tryz.f9).toList.getD 8 default).guard = none /\ ((fN Tryz.f9).toList.getD 8 default).dst = some 64 /\
 ((fN Tryz.f9).toList.getD 8 default).op = .call { callee := .value (.func 37), args := #[.tmp 56, .const (.int .i64 2), .tmp 63], argTypes := #[26, 3, 22] } := ⟨by kernel_rfl, by kernel_rfl, by kernel_rfl, by kernel_rfl⟩
theorem zze {rows : List Row} {L : List Int} : ∀ k i, ∀ c ∈ fK rows L k i, c ≠ [] /\ c.length <= L.length := by
 intro k
 induction k with
 | zero => intro i c hc; cases hc
 | succ k ih =>
   intro i c hc;rw [fK] at hc;split at hc
   ·rename_i h;rcases List.mem_cons.1 hc with rfl | hc
    ·obtain ⟨x1, x2, _⟩ := mT (rows := rows) h;have : (fJ L i (cE rows L i)).length = cE rows L i - i := by unfold fJ; rw [qz, qj]; omega
     refine ⟨fun e => ?_, by omega⟩;rw [e, qaa] at this; omega
    ·exact ih _ c hc
   ·cases hc
section
variable {QA QB : List (Bool × Bool × List Int)} {A B : List (List Int)}
structure JOf (A B : List (List Int)) (M : Nat) (u : Nat × Nat × (List DStep × Value)) : Prop where
 i1 : u.1 <= A.length
 k1 : u.2.1 <= B.length
 ops : ∃ l, bN A B = l ++ bN (A.drop u.1) (B.drop u.2.1) /\ u.2.2.1 = l.foldl dH []
 bd : BdS u.2.2.1 (u.1 + u.2.1) ((u.1 + u.2.1) * M)
theorem JOf.step {M : Nat} {i k : Nat} {S : List DStep} {v v' : Value} (h : JOf A B M (i, k, (S, v))) {i' k' : Nat} {o : Int} {c : List Int} (hi : i' <= A.length) (hk : k' <= B.length) (hs : bN (A.drop i) (B.drop k) = (o, c) :: bN (A.drop i') (B.drop k')) (hn : i + k + 1 = i' + k' ∨ (i + k + 2 = i' + k')) (hc : c.length <= M) :
 JOf A B M (i', k', (dH S (o, c), v')) := by
 obtain ⟨l, h1, h2⟩ := h.ops;refine ⟨hi, hk, ⟨l ++ [(o, c)], by rw [h1, hs, qi]; rfl, by rw [List.foldl_append, <- h2]; rfl⟩, ?_⟩;obtain ⟨b1, b2⟩ := zm6 (k := o) h.bd hc;dsimp only at b1 b2 ⊢
 have hm : (i + k) * M + M <= (i' + k') * M := by
  have : (i + k + 1) * M <= (i' + k') * M := qy _ (by omega);rw [qbn, Nat.one_mul] at this; exact this
 exact ⟨by omega, fun s hs => by have := b2 s hs; exact ⟨this.1, by omega, by omega⟩⟩
theorem JOf.ok {M : Nat} {u : Nat × Nat × (List DStep × Value)} (h : JOf A B M u) (hA : A.length < 1048576) (hB : B.length < 1048576) (hM : M <= 100000) : u.2.2.1.length < 1000000000 /\ ∀ s ∈ u.2.2.1, 0 <= s.n /\ s.n < 1000000000000 /\ s.text.length < 1000000000000 := by
 obtain ⟨b1, b2⟩ := h.bd;have hi := h.i1;have hk := h.k1;have hm : (u.1 + u.2.1) * M <= 2097152 * 100000 := Nat.mul_le_mul (by omega) hM;exact ⟨by omega, fun s hs => by have := b2 s hs; exact ⟨this.1, by omega, by omega⟩⟩
theorem zzf {w0 : World} {I0 : Nat -> Prop} (na fa nb fb : Bool) (hA : QA.map (fun q => q.2.2) = A) (hB : QB.map (fun q => q.2.2) = B) (hsz : (A.length + 1) * (B.length + 1) <= 1048576) {M : Nat} (hM : M <= 100000) (hcA : ∀ c ∈ A, c ≠ [] /\ c.length <= M) (hcB : ∀ c ∈ B, c ≠ [] /\ c.length <= M)
 {L : List Int} (hL : TabD A B (fun _ _ => True) L) (u : Nat × Nat × (List DStep × Value)) (hJ : JOf A B M u) :
 CodeY (OutZ 89 21 w0 I0) qa 168 (.seq (bI (xC Tryz.f9)) (.block 1 (.block 2 (.seq (bI (ofY Tryz.f9))
  (.cond (.tmp 67) (.seq (.region 11 (gZ Tryz.f9) false) (.region 12 (oT2 Tryz.f9) false)) (.seq (bI (mC Tryz.f9)) (.cond (.tmp 114) (.seq (.region 14 (fM Tryz.f9) false) (.region 15 (nG Tryz.f9) false)) (.seq (.region 8 (fN Tryz.f9) false) (.region 9 (nH Tryz.f9) false)))))))))
  u.2.2 (bW u.2.2.2 u.1 u.2.1) (bQ na fa (QA.map aS) nb fb (QB.map aS) false (bE L)) fun s' x e h => match x with
   | .normal => ∃ u' : Nat × Nat × (List DStep × Value), LeE (bW u'.2.2.2 u'.1 u'.2.1) e /\ h = bQ na fa (QA.map aS) nb fb (QB.map aS) false (bE L) /\ s' = u'.2.2 /\ JOf A B M u' /\ A.length + B.length - (u'.1 + u'.2.1) < A.length + B.length - (u.1 + u.2.1)
   | .exit n => n = 0 /\ LeE (bW s'.2 A.length B.length) e /\ h = bQ na fa (QA.map aS) nb fb (QB.map aS) false (bE L) /\ s'.1 = eR A B
   | .ret => False := by
 obtain ⟨i, k, S, v⟩ := u;have lA : (QA.map aS).length = A.length := by rw [<- hA, qe, qe]
 have lB : (QB.map aS).length = B.length := by rw [<- hB, qe, qe]
 have bA : A.length < 1048576 := by
  have : (A.length + 1) * 1 <= (A.length + 1) * (B.length + 1) := qbc _ (by omega);omega
 have bB : B.length < 1048576 := by
  have : 1 * (B.length + 1) <= (A.length + 1) * (B.length + 1) := qy _ (by omega);omega
 obtain ⟨k1, k2⟩ := hJ.ok bA bB hM;have i1 := hJ.i1;have j1 := hJ.k1;dsimp only at k1 k2 i1 j1 ⊢;obtain ⟨d1, d2, d3, d4, d5, d6, d7, z1, z2, z3, _⟩ := zd1;have wi : i64.wrap ((i : Int) + 1) = ((i + 1 : Nat) : Int) := by rw [aC (by omega) (by omega)]; omega
 have wk : i64.wrap ((k : Int) + 1) = ((k + 1 : Nat) : Int) := by rw [aC (by omega) (by omega)]; omega
 have hat : ∀ (i k : Nat), i <= A.length -> k <= B.length -> PCall qa 38 [.ptr [.sl na fa (QA.map aS), .sl nb fb (QB.map aS), .sl false false (bE L)], .int .i64 i, .int .i64 k] fun v => v = .int .i64 (i * (B.length + 1) + k : Nat) := fun i k hi hk => by
  have h := lF hi hk;have := zm3 na fa (QA.map aS) nb fb (QB.map aS) false false (bE L) i k (by rw [lB]; omega) (by rw [lB]; omega);rwa [lB] at this
 -- what is kept and dropped of A
 have gA : i < A.length -> aF (QA.map aS) (i : Int) 1 /\ ∃ n f, (QA.map aS).getD i [] = [.sl n f (aA (A.getD i []))] := fun h => by
  have := qAt hA (i := (i : Int)) (by omega) (by omega);rwa [qd] at this
 have gB : k < B.length -> aF (QB.map aS) (k : Int) 1 /\ ∃ n f, (QB.map aS).getD k [] = [.sl n f (aA (B.getD k []))] := fun h => by
  have := qAt hB (i := (k : Int)) (by omega) (by omega);rwa [qd] at this
 have memA : i < A.length -> A.getD i [] ∈ A := fun h => by rw [qw, qae h]; exact qp _
 have memB' : k < B.length -> B.getD k [] ∈ B := fun h => by rw [qw, qae h]; exact qp _
 have done : ∀ (i' k' : Nat) (s' : List DStep × Value) (e : Env), LeE (bW s'.2 i' k') e -> JOf A B M (i', k', s') -> i + k < i' + k' -> ∃ u' : Nat × Nat × (List DStep × Value), LeE (bW u'.2.2.2 u'.1 u'.2.1) e /\ bQ na fa (QA.map aS) nb fb (QB.map aS) false (bE L) = bQ na fa (QA.map aS) nb fb (QB.map aS) false (bE L) /\ s' = u'.2.2 /\ JOf A B M u' /\ A.length + B.length - (u'.1 + u'.2.1) < A.length + B.length - (i + k) := fun i' k' s' e h1 h2 h3 =>
  ⟨(i', k', s'), h1, rfl, rfl, h2, by have := h2.i1; have := h2.k1; dsimp only at *; omega⟩
 -- the second question, and what follows
 have rest : (i < A.length -> k < B.length -> A.getD i [] ≠ B.getD k []) -> (i < A.length ∨ k < B.length) -> CodeY (OutZ 89 21 w0 I0) qa 168 (.seq (bI (mC Tryz.f9)) (.cond (.tmp 114) (.seq (.region 14 (fM Tryz.f9) false) (.region 15 (nG Tryz.f9) false)) (.seq (.region 8 (fN Tryz.f9) false) (.region 9 (nH Tryz.f9) false))))
  (S, v) (bW v i k) (bQ na fa (QA.map aS) nb fb (QB.map aS) false (bE L)) fun s' x e h => x = .normal /\ ∃ u' : Nat × Nat × (List DStep × Value), LeE (bW u'.2.2.2 u'.1 u'.2.1) e /\ h = bQ na fa (QA.map aS) nb fb (QB.map aS) false (bE L) /\ s' = u'.2.2 /\ JOf A B M u' /\ A.length + B.length - (u'.1 + u'.2.1) < A.length + B.length - (i + k) := by
  intro hne hor
  -- an element of A is dropped
  have drop : i < A.length -> bN (A.drop i) (B.drop k) = (1, A.getD i []) :: bN (A.drop (i + 1)) (B.drop k) -> CodeY (OutZ 89 21 w0 I0) qa 168 (.seq (.region 14 (fM Tryz.f9) false) (.region 15 (nG Tryz.f9) false))
   (S, v) (bW v i k) (bQ na fa (QA.map aS) nb fb (QB.map aS) false (bE L)) fun s' x e h => x = .normal /\ ∃ u' : Nat × Nat × (List DStep × Value), LeE (bW u'.2.2.2 u'.1 u'.2.1) e /\ h = bQ na fa (QA.map aS) nb fb (QB.map aS) false (bE L) /\ s' = u'.2.2 /\ JOf A B M u' /\ A.length + B.length - (u'.1 + u'.2.1) < A.length + B.length - (i + k) := by
   intro hi hs;obtain ⟨c1, c2, c3, c4⟩ := zzc;obtain ⟨q1, n1, f1, q2⟩ := gA hi;obtain ⟨e1, e2⟩ := hcA _ (memA hi);refine CodeY.seq (CodeY.regAdd (H := fun _ => none) zc6 d3 c1 c2 c3 (by omega) c4 rfl rfl ⟨by omega, by omega⟩ k1 k2 ?_);rw [zy5, qd, q2];refine ⟨q1, n1, f1, _, rfl, rfl, n1, f1, _, rfl, e1, by omega, fun v' => ?_⟩;rw [z2];show aW qa (fun _ => none) 168 _ (((fM Tryz.f9).toList.drop 9).take 1) _ _ _;rw [zy6];refine CodeY.le (e' := bW v' i k) ⟨rfl, rfl, rfl, rfl, trivial⟩ (CodeY.region (H := fun _ => none) ?_ d4);rw [pU2, wi];exact ⟨rfl, done (i + 1) k (dH S (1, A.getD i []), v') _ ⟨rfl, rfl, rfl, rfl, trivial⟩ (hJ.step hi j1 hs (.inl (by omega)) e2) (by omega)⟩
  -- an element of B is added
  have add : k < B.length -> bN (A.drop i) (B.drop k) = (2, B.getD k []) :: bN (A.drop i) (B.drop (k + 1)) -> CodeY (OutZ 89 21 w0 I0) qa 168 (.seq (.region 8 (fN Tryz.f9) false) (.region 9 (nH Tryz.f9) false))
   (S, v) (bW v i k) (bQ na fa (QA.map aS) nb fb (QB.map aS) false (bE L)) fun s' x e h => x = .normal /\ ∃ u' : Nat × Nat × (List DStep × Value), LeE (bW u'.2.2.2 u'.1 u'.2.1) e /\ h = bQ na fa (QA.map aS) nb fb (QB.map aS) false (bE L) /\ s' = u'.2.2 /\ JOf A B M u' /\ A.length + B.length - (u'.1 + u'.2.1) < A.length + B.length - (i + k) := by
   intro hk hs;obtain ⟨c1, c2, c3, c4⟩ := zzd;obtain ⟨q1, n1, f1, q2⟩ := gB hk;obtain ⟨e1, e2⟩ := hcB _ (memB' hk);refine CodeY.seq (CodeY.regAdd (H := fun _ => none) zc6 d5 c1 c2 c3 (by omega) c4 rfl rfl ⟨by omega, by omega⟩ k1 k2 ?_);rw [zy7, qd, q2];refine ⟨q1, n1, f1, _, rfl, rfl, n1, f1, _, rfl, e1, by omega, fun v' => ?_⟩;rw [z3];show aW qa (fun _ => none) 168 _ (((fN Tryz.f9).toList.drop 9).take 1) _ _ _;rw [zy8];refine CodeY.le (e' := bW v' i k) ⟨rfl, rfl, rfl, rfl, trivial⟩ (CodeY.region (H := fun _ => none) ?_ d6);rw [pV2, wk];exact ⟨rfl, done i (k + 1) (dH S (2, B.getD k []), v') _ ⟨rfl, rfl, rfl, rfl, trivial⟩ (hJ.step i1 hk hs (.inl (by omega)) e2) (by omega)⟩
  refine CodeY.seq (CodeY.of OutZ.stab (n0 := 0) (d9 (Eq.mpr (zy2 _) ?_)));rw [lA, lB];refine aD (fun hk => ?_) (fun hk => ?_)
  ·have hk : k = B.length := by simp only [beq_iff_eq] at hk; omega
   have hi : i < A.length := hor.resolve_right (by omega);refine CodeY.cond (t := true) rfl (CodeY.le (e' := bW v i k) ⟨rfl, rfl, rfl, rfl, trivial⟩ (drop hi ?_));rw [hk, qah, nF A i [] hi, vV]
  ·have hk : k < B.length := by simp only [beq_iff_eq] at hk; omega
   refine aD (fun hi => ?_) (fun hi => ?_)
   ·have hi : i < A.length := by simp only [aB] at hi; omega
    rw [wi, wk];refine (hat (i + 1) k hi j1).mono ?_;rintro _ rfl;have t21 := lF (i := i + 1) (k := k) hi j1;have t12 := lF (i := i) (k := k + 1) i1 hk;refine ⟨_, rfl, rfl, lE L _ (by rw [hL.len]; exact t21), _, by rw [qd, i6 L _ (by rw [hL.len]; exact t21)]; rfl, (hat i (k + 1) i1 hk).mono ?_⟩;rintro _ rfl;refine ⟨_, rfl, rfl, lE L _ (by rw [hL.len]; exact t12), _, by rw [qd, i6 L _ (by rw [hL.len]; exact t12)]; rfl, ?_⟩;rw [hL.at' (i + 1) k hi j1 trivial, hL.at' i (k + 1) i1 hk trivial];have hst := s6 (A.getD i []) (B.getD k []) (A.drop (i + 1)) (B.drop (k + 1));rw [if_neg (hne hi hk), <- nF A i [] hi, <- nF B k [] hk] at hst;refine CodeY.cond (t := decide (((aU (A.drop (i + 1)) (B.drop k) : Nat) : Int) >= ((aU (A.drop i) (B.drop (k + 1)) : Nat) : Int))) rfl ?_;by_cases hle : aU (A.drop i) (B.drop (k + 1)) <= aU (A.drop (i + 1)) (B.drop k)
    ·rw [if_pos hle] at hst;rw [if_pos (by simp only [aB]; omega)];exact CodeY.le (e' := bW v i k) ⟨rfl, rfl, rfl, rfl, trivial⟩ (drop hi hst)
    ·rw [if_neg hle] at hst;rw [if_neg (by simp only [aB]; omega)];exact CodeY.le (e' := bW v i k) ⟨rfl, rfl, rfl, rfl, trivial⟩ (add hk hst)
   ·have hi : i = A.length := by simp only [aB] at hi; omega
    refine CodeY.cond (t := false) rfl (CodeY.le (e' := bW v i k) ⟨rfl, rfl, rfl, rfl, trivial⟩ (add hk ?_));rw [hi, qah, nF B k [] hk, vW]
 have go : (i < A.length ∨ k < B.length) -> CodeY (OutZ 89 21 w0 I0) qa 168 (.block 1 (.block 2 (.seq (bI (ofY Tryz.f9))
  (.cond (.tmp 67) (.seq (.region 11 (gZ Tryz.f9) false) (.region 12 (oT2 Tryz.f9) false)) (.seq (bI (mC Tryz.f9)) (.cond (.tmp 114) (.seq (.region 14 (fM Tryz.f9) false) (.region 15 (nG Tryz.f9) false)) (.seq (.region 8 (fN Tryz.f9) false) (.region 9 (nH Tryz.f9) false))))))))
  (S, v) (bW v i k) (bQ na fa (QA.map aS) nb fb (QB.map aS) false (bE L)) fun s' x e h => x = .normal /\ ∃ u' : Nat × Nat × (List DStep × Value), LeE (bW u'.2.2.2 u'.1 u'.2.1) e /\ h = bQ na fa (QA.map aS) nb fb (QB.map aS) false (bE L) /\ s' = u'.2.2 /\ JOf A B M u' /\ A.length + B.length - (u'.1 + u'.2.1) < A.length + B.length - (i + k) := by
  intro hor
  have norm : ∀ {c : Code} {e : Env} {s : List DStep × Value} {h : Hp} {Ψ : List DStep × Value -> Env -> Hp -> Prop}, CodeY (OutZ 89 21 w0 I0) qa 168 c s e h (fun s' x e h => x = .normal /\ Ψ s' e h) -> CodeY (OutZ 89 21 w0 I0) qa 168 (.block 1 (.block 2 c)) s e h (fun s' x e h => x = .normal /\ Ψ s' e h) := fun hc =>
   CodeY.block (CodeY.block (hc.mono fun s x e h ⟨hx, hp⟩ => by subst hx; exact ⟨rfl, hp⟩))
  refine norm ?_;refine CodeY.seq (CodeY.of OutZ.stab (n0 := 0) (d9 (Eq.mpr (zy1 _) ?_)));rw [lA, lB];refine aD (fun hi => ?_) (fun hi => ?_)
  ·have hi : i < A.length := by simp only [aB] at hi; omega
   refine aD (fun hk => ?_) (fun hk => ?_)
   ·have hk : k < B.length := by simp only [aB] at hk; omega
    obtain ⟨q1, n1, f1, q2⟩ := gA hi;obtain ⟨q3, n3, f3, q4⟩ := gB hk;obtain ⟨e1, e2⟩ := hcA _ (memA hi);rw [qd, qd, q2, q4];refine ⟨q1, n1, f1, _, rfl, q3, n3, f3, _, rfl, (zlx n1 f1 n3 f3 (A.getD i []) (B.getD k []) (by omega)).mono ?_⟩;rintro _ rfl;refine ⟨_, rfl, CodeY.cond (t := decide (A.getD i [] = B.getD k [])) rfl ?_⟩;by_cases hab : A.getD i [] = B.getD k []
    ·rw [if_pos (by simpa using hab)]
     obtain ⟨c1, c2, c3, c4⟩ := zzb;refine CodeY.le (e' := bW v i k) ⟨rfl, rfl, rfl, rfl, trivial⟩ (CodeY.seq (CodeY.regAdd (H := fun _ => none) zc6 d1 c1 c2 c3 (by omega) c4 rfl rfl ⟨by omega, by omega⟩ k1 k2 ?_));rw [zy3, qd, q2];refine ⟨q1, n1, f1, _, rfl, rfl, n1, f1, _, rfl, e1, by omega, fun v' => ?_⟩;rw [z1];show aW qa (fun _ => none) 168 _ (((gZ Tryz.f9).toList.drop 9).take 1) _ _ _;rw [zy4];refine CodeY.le (e' := bW v' i k) ⟨rfl, rfl, rfl, rfl, trivial⟩ (CodeY.region (H := fun _ => none) ?_ d2);rw [pT2, wi, wk];have hst := s6 (A.getD i []) (B.getD k []) (A.drop (i + 1)) (B.drop (k + 1));rw [if_pos hab, <- nF A i [] hi, <- nF B k [] hk] at hst;exact ⟨rfl, done (i + 1) (k + 1) (dH S (0, A.getD i []), v') _ ⟨rfl, rfl, rfl, rfl, trivial⟩ (hJ.step hi hk hst (.inr (by omega)) e2) (by omega)⟩
    ·rw [if_neg (by simpa using hab)]
     exact CodeY.le (e' := bW v i k) ⟨rfl, rfl, rfl, rfl, trivial⟩ (rest (fun _ _ => hab) hor)
   ·have hk : ¬ k < B.length := by simp only [aB] at hk; omega
    exact CodeY.cond (t := false) rfl (CodeY.le (e' := bW v i k) ⟨rfl, rfl, rfl, rfl, trivial⟩ (rest (fun _ h => absurd h hk) hor))
  ·have hi : ¬ i < A.length := by simp only [aB] at hi; omega
   exact CodeY.cond (t := false) rfl (CodeY.le (e' := bW v i k) ⟨rfl, rfl, rfl, rfl, trivial⟩ (rest (fun h => absurd h hi) hor))
 refine CodeY.seq (CodeY.of OutZ.stab (n0 := 0) (d9 (Eq.mpr (pO7 _) ?_)));rw [lA, lB];refine aD (fun hi => ?_) (fun hi => ?_)
 ·have hi : i < A.length := by simp only [aB] at hi; omega
  exact CodeY.le (e' := bW v i k) ⟨rfl, rfl, rfl, rfl, trivial⟩ ((go (.inl hi)).mono fun s x e h ⟨hx, hp⟩ => by subst hx; exact hp)
 ·have hi : i = A.length := by simp only [aB] at hi; omega
  refine aD (fun hk => ?_) (fun hk => ?_)
  ·have hk : k < B.length := by simp only [aB] at hk; omega
   exact CodeY.le (e' := bW v i k) ⟨rfl, rfl, rfl, rfl, trivial⟩ ((go (.inr hk)).mono fun s x e h ⟨hx, hp⟩ => by subst hx; exact hp)
  ·have hk : k = B.length := by simp only [aB] at hk; omega
   obtain ⟨l, h1, h2⟩ := hJ.ops;dsimp only at h1 h2;rw [hi, hk, qah, qah, sZ, qt] at h1;refine ⟨rfl, ?_, rfl, by show S = _; rw [h2, <- h1]; rfl⟩;rw [<- hi, <- hk];exact ⟨rfl, rfl, rfl, rfl, trivial⟩
end
end Go.Eng
namespace Go.Eng
open Go Go.Proofs Go.Eng.Rows Go.Eng.Trie Go.Eng.Srt
def zzg : Bool := tab73.all fun x => decide ((aZ tab73 8 x.fr).length <= 8)
theorem zzh : zzg = true := by kernel_rfl
theorem zzi (r : Int) : (aZ tab 8 r).length <= 8 := by
 cases hs : cD r with
 | true => rw [kT hs]; have := sP r; omega
 | false =>
   by_cases hp : aJ tab r = (0, 0)
   ·rw [qA hs hp]; simp
   ·obtain ⟨x, hx, hk, hf, _⟩ := zag tG hp;have := List.all_eq_true.1 zzh x (zxd hx hk);rw [zxc, <- hf];exact of_decide_eq_true this
theorem zzj (l : List Int) : (jN tab l).length <= 8 * l.length := by
 unfold jN;rw [<- (sU wY _).len]
 induction l with
 | nil => simp
 | cons x l ih =>
   have := zzi x;rw [qbk, qb, qad]; omega
theorem o0 (l : List Int) : (dT tab l).length <= 8 * l.length := Nat.le_trans (zaj tab _) (zzj l)
end Go.Eng
namespace Go.Eng
open Go Go.Proofs Go.Eng.Rows Go.Eng.Srt
def bC (l : List Int) : List (List Int) := gO tab (dT tab l) 0
theorem tK (l : List Int) (h : l.length < 10000) : ∀ c ∈ bC l, c ≠ [] /\ c.length <= 100000 := fun c hc => by
 obtain ⟨h1, h2⟩ := zze _ _ c hc;exact ⟨h1, by have := o0 l; omega⟩
theorem zm7 {a b : Nat} (hb : 0 < b) (hb2 : b < 1000000) : (((a : Nat) : Int) > i64.wrap (qaz 1048576 ((b : Nat) : Int))) ↔ ¬ a * b <= 1048576 := by
 have h1 : qaz 1048576 ((b : Nat) : Int) = ((1048576 / b : Nat) : Int) := rfl;have h2 : 1048576 / b <= 1048576 := Nat.div_le_self _ _;rw [h1, <- Nat.le_div_iff_mul_le hb];generalize 1048576 / b = q at h2 ⊢;rw [aC (by omega) (by omega)];omega
theorem zm8 {T : PV} (hv : fY tab T) (n f n2 f2 : Bool) (l m : List Int) (rl : R32 l) (rm : R32 m) (hl : l.length < 10000) (hm : m.length < 10000) :
 PCall qa 9 [T, .sl n f (aA l), .sl n2 f2 (aA m)] fun x =>
  (((bC l).length + 1) * ((bC m).length + 1) <= 1048576 /\ ∃ nl, (nl = true -> eR (bC l) (bC m) = []) /\ x = .tup [.sl nl false ((eR (bC l) (bC m)).map encDS), .int .i64 0]) ∨
  (¬ ((bC l).length + 1) * ((bC m).length + 1) <= 1048576 /\ x = .tup [.sl true true [], .int .i64 7]) := by
 have h1 := fun n f => zm1 zdr hv n f (dT tab l) (zdp rl) (by have := o0 l; omega);have h2 := fun n f => zm1 zdr hv n f (dT tab m) (zdp rm) (by have := o0 m; omega);have h3 := zl8 hv n f l rl (by omega);have h4 := zl8 hv n2 f2 m rm (by omega);obtain ⟨tc, tg, tj, tf, tp, made, sec, rfl, _, _⟩ := hv;have hres := zd1.2.2.2.2.2.2.2.2.2.2;have hR := zd1.2.2.2.2.2.2.1;have lA := tK l hl;have lB := tK m hm
 have bnd : ∀ {l : List Int}, l.length < 10000 -> (bC l).length < 100000 := fun {l} h => by
  have : ∀ k i, (fK tab (dT tab l) k i).length <= (dT tab l).length - i := by
   intro k
   induction k with
   | zero => intro i; exact qaf _
   | succ k ih =>
     intro i;rw [fK];split
     ·rename_i hi;obtain ⟨x1, x2, _⟩ := mT (rows := tab) hi;have := ih (cE tab (dT tab l) i);rw [qad]; omega
     ·exact qaf _
  have h1 := this ((dT tab l).length + 1) 0;have h2 := o0 l;show (fK tab (dT tab l) ((dT tab l).length + 1) 0).length < _;omega
 have bA := bnd hl;have bB := bnd hm;refine PCall.ofY (tS := 89) (tr := 21) Tryz.func9 zza (by kernel_rfl) (qax (by kernel_rfl)) fun w0 I0 => ?_;rw [hres];show CodeY _ _ 168 _ _ _ _ _;refine CodeY.seq (CodeY.of OutZ.stab (n0 := 0) (d9 (Eq.mpr (pO0 _ _ _ _ _ _ _ _) ?_)));refine CodeY.seq (CodeY.of OutZ.stab (n0 := 0) (d9 (Eq.mpr (pO1 _ _ _ _ _ _ _ _) ?_)));refine h3.mono ?_;rintro _ ⟨n1, f1, rfl⟩;refine ⟨n1, f1, _, rfl, (h1 n1 f1).mono ?_⟩;rintro _ ⟨n3, QA, rfl, hQA⟩;refine ⟨n3, false, _, rfl, h4.mono ?_⟩;rintro _ ⟨n4, f4, rfl⟩;refine ⟨n4, f4, _, rfl, (h2 n4 f4).mono ?_⟩;rintro _ ⟨n5, QB, rfl, hQB⟩;refine ⟨n5, false, _, rfl, ?_⟩;have hQA : QA.map (fun q => q.2.2) = bC l := hQA;have hQB : QB.map (fun q => q.2.2) = bC m := hQB;have eA : (QA.map aS).length = (bC l).length := by rw [<- hQA, qe, qe]
 have eB : (QB.map aS).length = (bC m).length := by rw [<- hQB, qe, qe]
 clear h1 h2 h3 h4;refine CodeY.le (e' := [(8, .box 0 0), (6, .pv (.sl true true [])), (7, .pv (.int .i64 0))]) ⟨rfl, rfl, rfl, trivial⟩ ?_;refine CodeY.seq (CodeY.of OutZ.stab (n0 := 0) (d9 (Eq.mpr (pO2 _) ?_)));have w1 : i64.wrap (((bC l).length : Int) + 1) = (((bC l).length + 1 : Nat) : Int) := by rw [aC (by omega) (by omega)]; omega
 have w2 : i64.wrap (((bC m).length : Int) + 1) = (((bC m).length + 1 : Nat) : Int) := by rw [aC (by omega) (by omega)]; omega
 rw [eA, eB, w1, w2];refine ⟨by omega, aD (fun hc => ?_) (fun hc => ?_)⟩
 ·rw [aB, zm7 (by omega) (by omega)] at hc;exact .inl ⟨_, .inr ⟨[.sl true true [], .int .i64 7], rfl, rfl⟩, .inr ⟨hc, rfl⟩⟩
 ·rw [aB, zm7 (by omega) (by omega), qg] at hc;refine CodeY.le (e' := [(8, .box 0 0)]) ⟨rfl, trivial⟩ ?_;refine CodeY.seq (CodeY.of OutZ.stab (n0 := 0) (d9 (Eq.mpr (pO4 _) ?_)));refine (zyo n3 false n5 false hQA hQB hc (fun c hc => by have := lA c hc; omega)).mono ?_;rintro r h' ⟨L, rfl, rfl, hL⟩;refine ⟨(false, bE L), ⟨rfl, rfl⟩, ⟨trivial, trivial⟩, ?_⟩;refine CodeY.seq (CodeY.of OutZ.stab (n0 := 0) (d9 (Eq.mpr (pO5 _) ?_)));refine CodeY.seq (CodeY.of OutZ.stab (n0 := 0) (d9 (Eq.mpr (pO6 _) ?_)));refine CodeY.nilRaw (d := 9) rfl (CodeY.le (e' := bW (.slice none 0 0) ((0 : Nat) : Int) ((0 : Nat) : Int)) ⟨rfl, rfl, rfl, rfl, trivial⟩ ?_)
  refine CodeY.seq (CodeY.block (CodeY.loop (S := fun u : Nat × Nat × (List DStep × Value) => (bW u.2.2.2 u.1 u.2.1, bQ n3 false (QA.map aS) n5 false (QB.map aS) false (bE L))) (A := fun u => u.2.2) (J := JOf (bC l) (bC m) 100000) (μ := fun u => (bC l).length + (bC m).length - (u.1 + u.2.1)) (s0 := (0, 0, ([], .slice none 0 0)))
   ⟨rfl, rfl, rfl, rfl, trivial⟩ rfl rfl ⟨qaf _, qaf _, ⟨[], rfl, rfl⟩, zm5⟩ fun u hJ => ?_))
  refine (zzf n3 false n5 false hQA hQB hc (qk _) lA lB hL u hJ).mono fun s x e h hx => ?_;cases x with
  | normal => exact hx
  | ret => exact hx.elim
  | exit k =>
    obtain ⟨rfl, hle, rfl, hs⟩ := hx;show CodeY _ _ _ _ _ _ _ _;refine CodeY.le hle (CodeY.seq (CodeY.region (H := fun _ => none) ?_ hR));rw [zy9];refine CodeY.ret (.inr ⟨rfl, fun nl hnl => ?_⟩);rw [hs] at hnl ⊢;exact ⟨_, .inr ⟨[.sl nl false _, .int .i64 0], rfl, rfl⟩, .inl ⟨hc, nl, hnl, rfl⟩⟩
theorem zm9 (s : DStep) : (encDS s).length = 3 := rfl
theorem zzk (s : DStep) (l : List DStep) : dU (s :: l) = (if s.kind = 0 then 0 else s.n) + dU l := by simp [dU]
theorem zzl (l : List DStep) (s : DStep) : dU (l ++ [s]) = dU l + (if s.kind = 0 then 0 else s.n) := by simp [dU, List.sum_append]
theorem zd2 (M : Nat) : ∀ (l : List DStep), (∀ s ∈ l, 0 <= s.n /\ s.n <= M) -> 0 <= dU l /\ dU l <= (l.length * M : Nat)
 | [], _ => by simp [dU]
 | s :: l, h => by
   have h1 := zd2 M l fun x hx => h x (qam _ hx);have h2 := h s qar;rw [zzk, qad, qbn, Nat.one_mul];split <;> omega
theorem zd3 (n f : Bool) (S : List DStep) (hS : S.length < 100000) (hn : ∀ s ∈ S, 0 <= s.n /\ s.n <= (1000000 : Nat)) : PCall qa 15 [.sl n f (S.map encDS)] fun v => v = .int .i64 (dU S) := by
 refine zwx n f (S.map encDS) (fun c x => ∃ i : Nat, x = i /\ i <= S.length /\ c = dU (S.take i)) (fun _ x => S.length - x.toNat) ?_;unfold zli;refine ⟨⟨rfl, 0, rfl, qaf _, rfl⟩, ?_⟩;rintro _ _ ⟨i, rfl, hi, rfl⟩;rw [qe];refine aD (fun hc => ?_) (fun hc => ?_)
 ·have hi' : i < S.length := by simp only [aB] at hc; omega
  have hb := zd2 1000000 (S.take (i + 1)) fun s hs => hn s (qac hs);have hb0 := zd2 1000000 (S.take i) fun s hs => hn s (qac hs);have hs := hn S[i] (qp hi');have hl : (S.take (i + 1)).length <= 100000 := by rw [qj]; omega
  have hl0 : (S.take i).length <= 100000 := by rw [qj]; omega
  have hm : (S.take (i + 1)).length * 1000000 <= 100000 * 1000000 := qy _ hl;have hm0 : (S.take i).length * 1000000 <= 100000 * 1000000 := qy _ hl0;have hsn := zzl (S.take i) S[i];rw [<- dE hi'] at hsn;have wi : i64.wrap ((i : Int) + 1) = ((i + 1 : Nat) : Int) := by rw [aC (by omega) (by omega)]; omega
  rw [qd, c7 hi', wi];refine ⟨cU zm9 (by omega) (by omega), S[i].kind, rfl, S[i].n, rfl, false, false, aA S[i].text, rfl, ?_⟩;refine aD (fun hk => ?_) (fun hk => ?_)
  ·have hk : ¬ S[i].kind = 0 := by simpa using hk
   rw [if_neg hk] at hsn;rw [aC (by omega) (by omega), <- hsn];exact ⟨rfl, ⟨i + 1, rfl, hi', rfl⟩, by dsimp only; omega⟩
  ·have hk : S[i].kind = 0 := by simpa using hk
   rw [if_pos hk, Int.add_zero] at hsn;rw [<- hsn];exact ⟨rfl, ⟨i + 1, rfl, hi', rfl⟩, by dsimp only; omega⟩
 ·have : i = S.length := by simp only [aB] at hc; omega
  subst this;rw [qbq]
theorem zzm (n f : Bool) (S : List DStep) (hS : S.length < 100000) (hk : ∀ s ∈ S, (s.kind = 0 ∨ s.kind = 1 ∨ s.kind = 2) /\ s.text.length < 1000000000) : PCall qa 17 [.sl n f (S.map encDS)] fun v => ∃ nl, v = .sl nl false ((S.map dP).map encDS) := by
 refine zwy n f (S.map encDS) (fun x _ s => ∃ i : Nat, x = i /\ i <= S.length /\ s = ((S.take i).map dP).map encDS) (fun x _ _ => S.length - x.toNat) ?_;unfold zlj;refine ⟨⟨rfl, 0, rfl, qaf _, rfl⟩, ?_⟩;rintro _ n0 _ ⟨i, rfl, hi, rfl⟩;rw [qe];refine aD (fun hc => ?_) (fun hc => ?_)
 ·have hi' : i < S.length := by simp only [aB] at hc; omega
  obtain ⟨hs, ht⟩ := hk S[i] (qp hi');have wi : i64.wrap ((i : Int) + 1) = ((i + 1 : Nat) : Int) := by rw [aC (by omega) (by omega)]; omega
  have w3 : i64.wrap (3 - S[i].kind) = 3 - S[i].kind := aC (by omega) (by omega);have hl : (((S.take i).map dP).map encDS).length + 1 <= 100000 := by rw [qe, qe, qj]; omega
  rw [qd, c7 hi', wi];refine ⟨cU zm9 (by omega) (by omega), S[i].kind, rfl, S[i].n, rfl, false, false, aA S[i].text, rfl, ?_⟩;rw [w3];have cl := zmz false false S[i].text (fun h => by cases h) (by omega)
  have fin : ∀ k : Int, (if S[i].kind = 1 ∨ S[i].kind = 2 then 3 - S[i].kind else S[i].kind) = k -> ((S.take i).map dP).map encDS ++ [[.int .i64 k, .int .i64 S[i].n, .sl false false (aA S[i].text)]] = ((S.take (i + 1)).map dP).map encDS := fun k hk => by
   rw [dE hi', qu, qu];congr 1;show _ = [encDS (dP S[i])];rw [<- hk]; rfl
  have step : ∀ k : Int, (if S[i].kind = 1 ∨ S[i].kind = 2 then 3 - S[i].kind else S[i].kind) = k -> PCall qa 47 [.sl false false (aA S[i].text)] fun v => ∃ n4 f2 es2, v = .sl n4 f2 es2 /\ (aR [[.int .i64 k, .int .i64 S[i].n, .sl n4 f2 es2]] 3 /\ ((((S.take i).map dP).map encDS).length + 1) * 40 <= 140737488355328) /\
   aH (wW n f (S.map encDS) ((i + 1 : Nat) : Int) (n0 && false) (((S.take i).map dP).map encDS ++ [[.int .i64 k, .int .i64 S[i].n, .sl n4 f2 es2]])) /\ (∃ j : Nat, ((i + 1 : Nat) : Int) = j /\ j <= S.length /\ ((S.take i).map dP).map encDS ++ [[.int .i64 k, .int .i64 S[i].n, .sl n4 f2 es2]] = ((S.take j).map dP).map encDS) /\
    S.length - ((i + 1 : Nat) : Int).toNat < S.length - (i : Int).toNat := fun k hk => cl.mono fun v hv => by
   subst hv;exact ⟨false, false, _, rfl, ⟨fun e he => by cases he; rfl, by omega⟩, rfl, ⟨i + 1, rfl, hi', fin k hk⟩, by omega⟩
  refine aD (fun h1 => ?_) (fun h1 => ?_)
  ·have h1 : S[i].kind = 1 := by simpa using h1
   exact step _ (if_pos (.inl h1))
  ·have h1 : ¬ S[i].kind = 1 := by simpa using h1
   refine aD (fun h2 => ?_) (fun h2 => ?_)
   ·have h2 : S[i].kind = 2 := by simpa using h2
    exact step _ (if_pos (.inr h2))
   ·have h2 : ¬ S[i].kind = 2 := by simpa using h2
    exact step _ (if_neg (by omega))
 ·have : i = S.length := by simp only [aB] at hc; omega
  subst this;rw [qbq];exact ⟨_, rfl⟩
theorem zzn : bC [97, 98, 99] = [[97], [98], [99]] := by kernel_rfl
theorem zzo : bC [97, 120, 99] = [[97], [120], [99]] := by kernel_rfl
theorem zzp : eR [[97], [98], [99]] [[97], [120], [99]] = [⟨0, 1, [97]⟩, ⟨1, 1, [98]⟩, ⟨2, 1, [120]⟩, ⟨0, 1, [99]⟩] := by
 have h : bN [[97], [98], [99]] [[97], [120], [99]] = [(0, [97]), (1, [98]), (2, [120]), (0, [99])] := by
  simp [s6, oI, vW, vV, sZ, oG, oH]
 unfold eR;rw [h]; rfl
theorem awake50 : PCall qa 13 [] fun v => v = .bool true := by
 refine zw1 ?_;unfold zlm;refine p42.mono ?_;rintro _ ⟨n, f, rfl⟩;refine ⟨n, f, _, rfl, (zly n f).mono fun T hT => ?_⟩;have r1 : R32 [97, 98, 99] := fun x hx => by simp at hx; omega
 have r2 : R32 [97, 120, 99] := fun x hx => by simp at hx; omega
 have := zm8 hT false true false true [97, 98, 99] [97, 120, 99] r1 r2 (by decide) (by decide);rw [zzn, zzo, zzp] at this;refine this.mono ?_;rintro _ (⟨_, nl, _, rfl⟩ | ⟨h, _⟩)
 ·refine ⟨_, rfl, rfl, _, rfl, nl, false, _, rfl, _, rfl, 0, rfl, bV rfl ⟨⟨by decide, by decide, rfl⟩, 0, rfl, bV rfl ⟨⟨by decide, by decide, rfl⟩, 1, rfl, bV rfl ⟨⟨by decide, by decide, rfl⟩, 2, rfl, bV rfl ?_⟩⟩⟩⟩
  refine (zd3 nl false [⟨0, 1, [97]⟩, ⟨1, 1, [98]⟩, ⟨2, 1, [120]⟩, ⟨0, 1, [99]⟩] (by decide) (fun s hs => by
   simp only [List.mem_cons, List.mem_nil_iff, or_false] at hs
   rcases hs with rfl | rfl | rfl | rfl <;> exact ⟨by decide, by decide⟩)).mono ?_
  rintro _ rfl;exact ⟨_, rfl, rfl⟩
 ·exact absurd (by decide) h
end Go.Eng
namespace Go.Eng.Rows
open Go Go.Eng Go.Eng.Trie Go.Eng.Srt
section
variable {rows : List Row}
theorem zzq {r : Int} (h : eD rows r = false) (hn : aJ rows r ≠ (0, 0)) : (aJ rows r).2 ≠ 0 /\ aG rows 1 r = 0 /\ aG rows 1 (aJ rows r).1 = 0 := by
 unfold eD at h;simp [hn] at h;exact ⟨h.1, h.2.2.1, h.2.2.2⟩
theorem zzr (h1 : eP rows) (hks : ∀ r, cD r = true -> aG rows 1 r = 0) {a b c : Int} (h : fI rows a b = some c) : aG rows 1 c = 0 := by
 unfold fI at h;split at h
 ·rename_i s hj; cases h; exact hks _ (zai hj)
 ·obtain ⟨q1, q2, q3, _⟩ := zah h1 h;exact (zzq q3 (by rw [q1]; intro e; exact q2 (Prod.mk.inj e).2)).2.1
theorem zzs (h1 : eP rows) (hks : ∀ r, cD r = true -> aG rows 1 r = 0) (d : List Int) : ∀ a, (bT rows d).s = some a -> aG rows 1 a = 0 := by
 induction d using jM with
 | h0 => intro a h; cases h
 | h1 d r ih =>
   rw [iD];rcases qD rows (bT rows d) r with e | ⟨b, c, hs, hp, _, e⟩
   ·rw [e];unfold cX;split
    ·rename_i h0; intro a h; cases h; exact h0
    ·exact ih
   ·rw [e];intro a h; cases h; exact zzr h1 hks hp
end
def zzt (rows : List Row) (a b : Int) : Bool := rows.all fun x => !decide (x.kind = 1) || (decide (x.to < a) || decide (b < x.fr))
theorem zzu {rows : List Row} {a b r : Int} (h : zzt rows a b = true) (h1 : a <= r) (h2 : r <= b) : aG rows 1 r = 0 := by
 unfold aG;cases hf : cH rows 1 r with
 | none => rfl
 | some p =>
   obtain ⟨x, hx, hk, _, _, f1, f2, _⟩ := kS hf;have := List.all_eq_true.1 h x hx;simp only [hk, decide_true, qbw, qbx, ql, aB] at this;omega
end Go.Eng.Rows
namespace Go.Eng
open Go Go.Proofs Go.Eng.Rows Go.Eng.Trie
theorem zzv : ∀ r, cD r = true -> aG tab 1 r = 0 := fun r hs => by
 simp only [cD, qf, aB] at hs;exact zzu (a := 44032) (b := 55203) (by kernel_rfl) hs.1 hs.2
theorem zzw : ∀ (d : List Int) a, (bT tab d).s = some a -> aG tab 1 a = 0 := zzs tG zzv
end Go.Eng
namespace Go.Eng
open Go Go.Proofs
section
variable (n f : Bool) (es : LL) (r : Int)
def zna (R : PV -> Prop) : Prop :=
 PCall qa 101 [PV.sl n f es, Z3 r] fun v => ∃ vs, v = PV.tup vs /\ vs.length = 3 /\ ∃ x, vs.head? = some x /\ ∃ n1, x = Z3 n1 /\ ∃ x1, vs.tail.head? = some x1 /\ ∃ n2, x1 = Z3 n2 /\ ∃ x2, vs.tail.tail.head? = some x2 /\ ∃ b, x2 = Zb b /\ if (!b) = true then R (Zb false) else if (n2 == 0) = true then R (Zb true) else PCall qa 128 [PV.sl n f es, Z6 3, Z3 r] fun v1 => ∃ n3, v1 = Z6 n3 /\ if (n3 == 1) = true then R (Zb true) else PCall qa 128 [PV.sl n f es, Z6 1, Z3 r] fun v2 => ∃ n4, v2 = Z6 n4 /\ if (n4 != 0) = true then R (Zb true) else PCall qa 128 [PV.sl n f es, Z6 1, Z3 n1] fun v3 => ∃ n5, v3 = Z6 n5 /\ R (Zb (n5 != 0))
theorem zzx {R : PV -> Prop} (h : zna n f es r R) : PCall qa 129 [.sl n f es, .int .i32 r] R :=
 PCall.wz Tryz.func129 aP [0, 1, 4, 5, 6, 7, 16] bF h
end
end Go.Eng
namespace Go.Eng
open Go Go.Proofs
open Go Go.Proofs Go.Eng.Rows Go.Eng.Trie
end Go.Eng
namespace Go.Eng
open Go Go.Proofs Go.Eng.Rows Go.Eng.Trie
section
variable {rows : List Row}
theorem znb (i : Int) : cJ rows 3 i = decide (aG rows 3 i = 1) := by
 unfold cJ aG;cases cH rows 3 i with
 | none => rfl
 | some p => rfl
theorem zzy (hp : dN rows) (n f : Bool) (r : Int) (hl : rows.length < 1000000) (hr : -2147483648 <= r /\ r <= 2147483647) : PCall qa 129 [.sl n f (bK rows), .int .i32 r] fun v => v = .bool (eD rows r) := by
 refine zzx _ _ _ _ ?_; unfold zna;refine (wO hp n f r hl hr).mono ?_;rintro _ rfl;have hrng := p9 hp r;refine ⟨_, rfl, rfl, _, rfl, _, rfl, _, rfl, _, rfl, _, rfl, _, rfl, ?_⟩;refine aD (fun h1 => ?_) (fun h1 => aD (fun h2 => ?_) (fun h2 => ?_))
 ·simp only [qbi, aB] at h1;unfold eD; simp [h1]
 ·simp only [qbi, aB] at h1;simp only [beq_iff_eq] at h2;unfold eD; simp [h1, h2]
 ·simp only [qbi, aB] at h1;simp only [beq_iff_eq] at h2;refine (nC n f 3 r hl hr).mono ?_;rintro _ rfl;refine ⟨_, rfl, ?_⟩;refine aD (fun h4 => ?_) (fun h4 => ?_)
  ·simp only [beq_iff_eq] at h4;unfold eD; rw [znb]; simp [h1, h2, h4]
  ·simp only [beq_iff_eq] at h4;refine (nC n f 1 r hl hr).mono ?_;rintro _ rfl;refine ⟨_, rfl, ?_⟩;refine aD (fun h5 => ?_) (fun h5 => ?_)
   ·simp only [bne_iff_ne, ne_eq] at h5;unfold eD; simp [h1, h2, h5]
   ·simp only [bne_iff_ne, ne_eq, qg] at h5;refine (nC n f 1 _ hl (by omega)).mono ?_;rintro _ rfl;refine ⟨_, rfl, ?_⟩;unfold eD; rw [znb];simp only [h1, h2, h4, h5, decide_false, Bool.not_false, qaj, qbx, decide_true, qbw];rfl
end
end Go.Eng
