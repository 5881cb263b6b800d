/- Abstract states run over the code; what each function gives, printed by program and checked by the kernel; and what follows of it. -/
import Derived.Test.YtkhfdeljpgmfgaaLeTb
set_option linter.unusedVariables false
set_option linter.unusedSimpArgs false
set_option maxRecDepth 100000
set_option linter.constructorNameAsVariable false
namespace Go.Eng
open Go Go.Proofs Go.Eng.Rows Go.Eng.Srt
def zmv (T : PV) (key : Int → Int) : Prop := ∀ a b : Int, (-2147483648 ≤ a ∧ a ≤ 2147483647) → (-2147483648 ≤ b ∧ b ≤ 2147483647) → PCall Try.prog 74 [.int .i32 a, .int .i32 b, .ptr [T]] fun v => ∃ n : Int, v = .int .i64 n ∧ (n < 0 ↔ key a < key b)
theorem za8 {D : List Int} {k : Nat} {v : Int} (h : D[k]? = some v) : (i32s D).getD k [] = [.int .i32 v] := by
  simp [i32s, List.getD, h]
theorem zwm (D : List Int) (k : Nat) (v : Int) : (i32s D).set k [.int .i32 v] = i32s (D.set k v) := by simp [i32s, List.map_set]
theorem zqs {D : List Int} (h : R32 D) {k : Nat} {v : Int} (hv : D[k]? = some v) : -2147483648 ≤ v ∧ v ≤ 2147483647 := h v (List.mem_of_getElem? hv)
theorem zk1 (D : List Int) {i j : Nat} {x y : Int} (hi : D[i]? = some x) (hj : D[j]? = some y) (hij : i ≠ j) (p q : Int) :
    ((i32s D).set i (.int .i32 p :: List.append._f [] PUnit.unit (List.drop 1 ((i32s D).getD i [])))).set j (.int .i32 q :: List.append._f [] PUnit.unit (List.drop 1 (((i32s D).set i (.int .i32 p :: List.append._f [] PUnit.unit (List.drop 1 ((i32s D).getD i [])))).getD j []))) = i32s ((D.set i p).set j q) ∧
    ((i32s D).getD i []).length = 1 ∧ ((i32s D).getD j []).length = 1 ∧ (((i32s D).set i (.int .i32 p :: List.append._f [] PUnit.unit (List.drop 1 ((i32s D).getD i [])))).getD j []).length = 1 := by
  rw [za8 hi, za8 hj]
  have e1 : (i32s D).set i (.int .i32 p :: List.append._f [] PUnit.unit (List.drop 1 [PV.int .i32 x])) = i32s (D.set i p) := zwm D i p
  have hj2 : (D.set i p)[j]? = some y := by rw [List.getElem?_set_ne hij]; exact hj
  rw [e1, za8 hj2]
  exact ⟨zwm _ _ _, rfl, rfl, rfl⟩
def z3j (key : Int → Int) (nl : Bool) (T : PV) (P S R : List Int) (r : LV) (h' : Hp) : Prop := ∃ S' : List Int, r = .tup [] ∧ h' = [.sl (21, 1) false nl (i32s (P ++ S' ++ R)), .box [.pv T]] ∧ Srtd key S' ∧ Stab key S S'
section
variable {key : Int → Int} {T : PV}
theorem aIns (hc : zmv T key) (lo hi : Nat) (nl : Bool) (P S R : List Int) (a b : Int) (ha : 0 ≤ a) (hP : P.length = lo + a.toNat) (hb : b = a + S.length) (hhi : (lo : Int) + b ≤ hi) (hr : R32 (P ++ S ++ R)) (hlen : hi < 1000000000000) :
    ACall Try.prog 111 [.sub 0 lo hi, .pv (.int .i64 a), .pv (.int .i64 b), .fn 74 [.box 1 0]] [.sl (21, 1) false nl (i32s (P ++ S ++ R)), .box [.pv T]] (z3j key nl T P S R) := by
  refine zct _ _ _ _ _ _ _
    (fun i s => ∃ A B, s = i32s (P ++ (A ++ B) ++ R) ∧ Srtd key A ∧ Stab key S (A ++ B) ∧ (i ≤ b → (A.length : Int) = i - a) ∧ a < i ∧ (b < i → S = [])) (fun i _ => (b + 1 - i).toNat)
    (fun i _ _ i' j s => i = i' ∧ ∃ A x B C, s = i32s (P ++ (A ++ x :: (B ++ C)) ++ R) ∧ (A.length : Int) = j - a ∧ (B.length : Int) = i - j ∧ Srtd key (A ++ B) ∧ (∀ y ∈ B, key x < key y) ∧ Stab key S (A ++ x :: (B ++ C)) ∧ a ≤ j) (fun _ j _ => (j - a).toNat) ?_
  unfold zaz
  have hwa : IntKind.i64.wrap (a + 1) = a + 1 := zaa (by omega) (by omega)
  rw [hwa]
  refine ⟨⟨rfl, S.take 1, S.drop 1, by rw [List.take_append_drop], ?_, by rw [List.take_append_drop]; exact .refl _, fun h => ?_, by omega, fun h => ?_⟩, ?_⟩
  · cases S with
    | nil => exact List.Pairwise.nil
    | cons x l => exact List.pairwise_singleton _ _
  · cases S with
    | nil => simp at hb; omega
    | cons x l => simp; omega
  · cases S with
    | nil => rfl
    | cons x l => simp at hb; omega
  rintro i _ ⟨A, B, rfl, hA, hst, hAB, hi0, hi1⟩
  refine iteD (fun hc1 => ?_) (fun hc1 => ?_)
  · simp only [decide_eq_true_eq] at hc1
    have hlAB := hst.len
    rw [List.length_append] at hlAB
    have hiw : IntKind.i64.wrap (i + 1) = i + 1 := zaa (by omega) (by omega)
    cases B with
    | nil =>
      have := hAB (by omega)
      simp at hlAB; omega
    | cons x C =>
      have hAl := hAB (by omega)
      refine ⟨⟨rfl, rfl, A, x, [], C, rfl, hAl, by simp, by simpa using hA, fun y hy => (by cases hy), hst, by omega⟩, ?_⟩
      clear hst hlAB hA hAl hAB
      rintro _ j _ ⟨rfl, A, x, B, C, rfl, hAl, hBl, hAB, hxB, hst, hja⟩
      have hR : R32 (P ++ (A ++ x :: (B ++ C)) ++ R) := fun y hy => hr y (by
        simp only [List.mem_append] at hy ⊢
        rcases hy with (hy | hy) | hy
        · exact .inl (.inl hy)
        · exact .inl (.inr (hst.mem.2 (by simpa using hy)))
        · exact .inr hy)
      have hlen2 := hst.len
      simp only [List.length_append, List.length_cons] at hlen2
      have fin : (∀ y ∈ A, key y ≤ key x) → ∃ A' B', i32s (P ++ (A ++ x :: (B ++ C)) ++ R) = i32s (P ++ (A' ++ B') ++ R) ∧ Srtd key A' ∧ Stab key S (A' ++ B') ∧ (i + 1 ≤ b → (A'.length : Int) = i + 1 - a) ∧ a < i + 1 ∧ (b < i + 1 → S = []) := fun hAx => by
        refine ⟨A ++ x :: B, C, by simp, ?_, by simpa using hst, fun _ => by simp; omega, by omega, fun h => by omega⟩
        obtain ⟨s1, s2, s3⟩ := zc3.1 hAB
        refine zc3.2 ⟨s1, List.pairwise_cons.2 ⟨fun y hy => Int.le_of_lt (hxB y hy), s2⟩, fun y hy z hz => ?_⟩
        rcases List.mem_cons.1 hz with rfl | hz
        · exact hAx y hy
        · exact s3 y hy z hz
      have hmu1 : (b + 1 - (i + 1)).toNat < (b + 1 - i).toNat := by omega
      refine iteD (fun hc2 => ?_) (fun hc2 => ?_)
      · simp only [decide_eq_true_eq, gt_iff_lt] at hc2
        have hwj : IntKind.i64.wrap (j - 1) = j - 1 := zaa (by omega) (by omega)
        rw [hwj]
        obtain ⟨A0, y, rfl⟩ : ∃ A0 y, A = A0 ++ [y] := by
          rcases List.eq_nil_or_concat A with h | ⟨A0, y, h⟩
          · subst h; simp at hAl; omega
          · exact ⟨A0, y, by simpa using h⟩
        simp only [List.length_append, List.length_cons, List.length_nil] at hAl
        have hD : P ++ (A0 ++ [y] ++ x :: (B ++ C)) ++ R = (P ++ A0) ++ y :: x :: (B ++ C ++ R) := by simp
        have hk : lo + (j - 1).toNat = (P ++ A0).length := by simp; omega
        have hk1 : lo + j.toNat = (P ++ A0).length + 1 := by simp; omega
        have gy : (P ++ (A0 ++ [y] ++ x :: (B ++ C)) ++ R)[lo + (j - 1).toNat]? = some y := by rw [hD, hk]; simp
        have gx : (P ++ (A0 ++ [y] ++ x :: (B ++ C)) ++ R)[lo + j.toNat]? = some x := by
          rw [hD, hk1, List.getElem?_append_right (by omega)]; simp
        obtain ⟨t1, t2, t3, t4⟩ := zk1 _ gx gy (by omega) y x
        have hsw : ((P ++ (A0 ++ [y] ++ x :: (B ++ C)) ++ R).set (lo + j.toNat) y).set (lo + (j - 1).toNat) x = P ++ (A0 ++ x :: ((y :: B) ++ C)) ++ R := by
          rw [hD, hk, hk1, zqr]; simp
        rw [hsw] at t1
        refine ⟨⟨by omega, by omega, t2⟩, x, by rw [za8 gx]; rfl, ⟨by omega, by omega, t3⟩, y, by rw [za8 gy]; rfl, ?_⟩
        refine (hc x y (zqs hR gx) (zqs hR gy)).mono ?_
        rintro _ ⟨n2, rfl, hn2⟩
        refine ⟨n2, rfl, rfl, iteD (fun hlt => ?_) (fun hlt => ?_)⟩
        · simp only [decide_eq_true_eq] at hlt
          have hkey := hn2.1 hlt
          refine ⟨⟨by omega, by omega, t3⟩, y, by rw [za8 gy]; rfl, ⟨by omega, by omega, t2⟩, x, by rw [za8 gx]; rfl, ⟨by omega, by omega, t2⟩, ?_⟩
          have hsrt : Srtd key (A0 ++ y :: B) := by simpa using hAB
          have hst2 : Stab key S (A0 ++ x :: ((y :: B) ++ C)) := by
            refine hst.trans ?_
            have := Stab.rot1 (key := key) (u := A0) (v := B ++ C) (a := [y]) (b := [x]) (fun p hp q hq => by simp at hp hq; subst hp; subst hq; omega)
            simpa using this
          have hle1 : 1 ≤ ((i32s (P ++ (A0 ++ [y] ++ x :: (B ++ C)) ++ R)).getD (lo + j.toNat) []).length := by rw [t2]; exact Nat.le_refl _
          refine ⟨?_, ?_⟩
          all_goals
            refine ⟨⟨rfl, hle1⟩, ⟨by omega, by omega, t4⟩, ⟨rfl, by rw [t4]; exact Nat.le_refl _⟩, ?_⟩
            exact ⟨rfl, ⟨rfl, A0, x, y :: B, C, t1, by omega, by rw [List.length_cons]; omega, hsrt, fun z hz => (by rcases List.mem_cons.1 hz with rfl | hz; exact hkey; exact hxB z hz), hst2, by omega⟩, by dsimp only; omega⟩
        · simp only [decide_eq_true_eq] at hlt
          have hkey : ¬ key x < key y := fun h => hlt (hn2.2 h)
          rw [hiw]
          refine ⟨rfl, fin fun z hz => ?_, hmu1⟩
          rcases List.mem_append.1 hz with hz | hz
          · have := (zc3.1 (zc3.1 hAB).1).2.2 z hz y (by simp)
            omega
          · simp only [List.mem_singleton] at hz; subst hz; omega
      · simp only [decide_eq_true_eq, gt_iff_lt] at hc2
        have hA0 : A = [] := List.length_eq_zero_iff.1 (by omega)
        subst hA0
        rw [hiw]
        exact ⟨rfl, fin fun z hz => (by cases hz), hmu1⟩
  · simp only [decide_eq_true_eq] at hc1
    have hB : B = [] := by
      by_cases hib : i ≤ b
      · have h1 := hAB hib
        have h2 := hst.len
        rw [List.length_append] at h2
        exact List.length_eq_zero_iff.1 (by omega)
      · have h0 := hi1 (by omega)
        subst h0
        have h2 := hst.len
        rw [List.length_append] at h2
        exact List.length_eq_zero_iff.1 (by simp at h2; omega)
    subst hB
    exact ⟨A, rfl, by simp, hA, by simpa using hst⟩
end
end Go.Eng



namespace Go.Eng
open Go Go.Proofs Go.Eng.Rows Go.Eng.Srt
section
variable {T : PV}
theorem zwn (lo hi : Nat) (nl : Bool) (P X Q Y R : List Int) (a b n : Int) (ha : 0 ≤ a) (hP : P.length = lo + a.toNat) (hX : (X.length : Int) = n) (hY : (Y.length : Int) = n) (hQ : b = a + n + Q.length) (hhi : (lo : Int) + b + n ≤ hi) (hlen : hi < 1000000000000) :
    ACall Try.prog 123 [.sub 0 lo hi, .pv (.int .i64 a), .pv (.int .i64 b), .pv (.int .i64 n), .fn 74 [.box 1 0]] [.sl (21, 1) false nl (i32s (P ++ (X ++ (Q ++ (Y ++ R))))), .box [.pv T]]
      fun r h' => r = .tup [] ∧ h' = [.sl (21, 1) false nl (i32s (P ++ (Y ++ (Q ++ (X ++ R))))), .box [.pv T]] := by
  refine zdn _ _ _ _ _ _ _ _
    (fun i s => 0 ≤ i ∧ i ≤ n ∧ s = i32s (P ++ (Y.take i.toNat ++ (X.drop i.toNat ++ (Q ++ (X.take i.toNat ++ (Y.drop i.toNat ++ R))))))) (fun i _ => (n - i).toNat) ?_
  unfold za4
  refine ⟨⟨rfl, Int.le_refl _, by omega, by simp⟩, ?_⟩
  rintro i _ ⟨i0, i1, rfl⟩
  refine iteD (fun hc => ?_) (fun hc => ?_)
  · simp only [decide_eq_true_eq] at hc
    have hix : i.toNat < X.length := by omega
    have hiy : i.toNat < Y.length := by omega
    have wb : IntKind.i64.wrap (b + i) = b + i := zaa (by omega) (by omega)
    have wa : IntKind.i64.wrap (a + i) = a + i := zaa (by omega) (by omega)
    have wi : IntKind.i64.wrap (i + 1) = i + 1 := zaa (by omega) (by omega)
    have hn : (i + 1).toNat = i.toNat + 1 := by omega
    rw [wb, wa, wi]
    have lt : (Y.take i.toNat).length = i.toNat := by rw [List.length_take]; omega
    have ltx : (X.take i.toNat).length = i.toNat := by rw [List.length_take]; omega
    have dx : X.drop i.toNat = X[i.toNat] :: X.drop (i.toNat + 1) := List.drop_eq_getElem_cons hix
    have dy : Y.drop i.toNat = Y[i.toNat] :: Y.drop (i.toNat + 1) := List.drop_eq_getElem_cons hiy
    have tx : X.take (i.toNat + 1) = X.take i.toNat ++ [X[i.toNat]] := zas hix
    have ty : Y.take (i.toNat + 1) = Y.take i.toNat ++ [Y[i.toNat]] := zas hiy
    have ldx : (X.drop (i.toNat + 1)).length = X.length - (i.toNat + 1) := List.length_drop
    obtain ⟨D, hDe⟩ : ∃ D, D = P ++ (Y.take i.toNat ++ (X.drop i.toNat ++ (Q ++ (X.take i.toNat ++ (Y.drop i.toNat ++ R))))) := ⟨_, rfl⟩
    rw [← hDe]
    have hD : D = (P ++ Y.take i.toNat) ++ X[i.toNat] :: ((X.drop (i.toNat + 1) ++ Q ++ X.take i.toNat) ++ Y[i.toNat] :: (Y.drop (i.toNat + 1) ++ R)) := by rw [hDe, dx, dy]; simp only [List.append_assoc, List.cons_append, List.nil_append]
    have hka : lo + (a + i).toNat = (P ++ Y.take i.toNat).length := by rw [List.length_append, lt]; omega
    have hkb : lo + (b + i).toNat = (P ++ Y.take i.toNat).length + 1 + (X.drop (i.toNat + 1) ++ Q ++ X.take i.toNat).length := by simp only [List.length_append, lt, ltx, ldx]; omega
    have hsw : (D.set (lo + (a + i).toNat) Y[i.toNat]).set (lo + (b + i).toNat) X[i.toNat] = P ++ (Y.take (i + 1).toNat ++ (X.drop (i + 1).toNat ++ (Q ++ (X.take (i + 1).toNat ++ (Y.drop (i + 1).toNat ++ R))))) := by
      rw [hD, hka, hkb, zyw, hn, tx, ty]; simp only [List.append_assoc, List.cons_append, List.nil_append]
    have gx : D[lo + (a + i).toNat]? = some X[i.toNat] := by rw [hD, hka, znx]
    have gy : D[lo + (b + i).toNat]? = some Y[i.toNat] := by
      have e : ∀ (u v w : List Int) (x y : Int), u ++ x :: (v ++ y :: w) = (u ++ x :: v) ++ y :: w := fun u v w x y => by simp
      have e2 : ∀ (u v : List Int) (x : Int), u.length + 1 + v.length = (u ++ x :: v).length := fun u v x => by simp; omega
      rw [hD, hkb, e, e2 _ _ X[i.toNat], znx]
    obtain ⟨t1, t2, t3, t4⟩ := zk1 _ gx gy (by omega) Y[i.toNat] X[i.toNat]
    rw [hsw] at t1
    have hla : 1 ≤ ((i32s D).getD (lo + (a + i).toNat) []).length := by rw [t2]; exact Nat.le_refl _
    refine ⟨⟨by omega, by omega, t3⟩, Y[i.toNat], by rw [za8 gy]; rfl, ⟨by omega, by omega, t2⟩, X[i.toNat], by rw [za8 gx]; rfl, ⟨by omega, by omega, t2⟩, ?_⟩
    refine ⟨?_, ?_⟩
    all_goals exact ⟨⟨rfl, hla⟩, ⟨by omega, by omega, t4⟩, ⟨rfl, by rw [t4]; exact Nat.le_refl _⟩, rfl, ⟨by omega, by omega, t1⟩, by dsimp only; omega⟩
  · simp only [decide_eq_true_eq] at hc
    have hi : i = n := by omega
    subst hi
    rw [List.take_of_length_le (by omega), List.take_of_length_le (by omega), List.drop_of_length_le (by omega), List.drop_of_length_le (by omega)]
    exact ⟨rfl, by simp⟩
theorem z1b (lo hi : Nat) (nl : Bool) (P X Y R : List Int) (a m b : Int) (ha : 0 ≤ a) (hP : P.length = lo + a.toNat) (hX : m = a + X.length) (hY : b = m + Y.length) (hx : X ≠ []) (hy : Y ≠ []) (hhi : (lo : Int) + b ≤ hi) (hlen : hi < 1000000000000) :
    ACall Try.prog 120 [.sub 0 lo hi, .pv (.int .i64 a), .pv (.int .i64 m), .pv (.int .i64 b), .fn 74 [.box 1 0]] [.sl (21, 1) false nl (i32s (P ++ (X ++ (Y ++ R)))), .box [.pv T]]
      fun r h' => r = .tup [] ∧ h' = [.sl (21, 1) false nl (i32s (P ++ (Y ++ (X ++ R)))), .box [.pv T]] := by
  have hxl := List.length_pos_iff.2 hx
  have hyl := List.length_pos_iff.2 hy
  refine zec _ _ _ _ _ _ _ _
    (fun i j s => 0 < i ∧ 0 < j ∧ i + j ≤ b - a ∧ ∃ P1 U V R1 : List Int, s = i32s (P1 ++ (U ++ (V ++ R1))) ∧ P1 ++ (V ++ (U ++ R1)) = P ++ (Y ++ (X ++ R)) ∧ (U.length : Int) = i ∧ (V.length : Int) = j ∧ ((P1.length : Int) + i = lo + m) ∧ (lo : Int) + a ≤ P1.length ∧ m + j ≤ b) (fun i j _ => (i + j).toNat) ?_
  unfold zbe
  have w1 : IntKind.i64.wrap (m - a) = X.length := by rw [zaa (by omega) (by omega)]; omega
  have w2 : IntKind.i64.wrap (b - m) = Y.length := by rw [zaa (by omega) (by omega)]; omega
  rw [w1, w2]
  refine ⟨⟨rfl, by omega, by omega, by omega, P, X, Y, R, rfl, rfl, rfl, rfl, by omega, by omega, by omega⟩, ?_⟩
  rintro i j _ ⟨i0, j0, hij, P1, U, V, R1, rfl, he, hU, hV, hP1, hPa, hmj⟩
  have wmi : IntKind.i64.wrap (m - i) = m - i := zaa (by omega) (by omega)
  rw [wmi]
  have lens : ∀ (s t : List Int), s.length = t.length → (i32s s).length = (i32s t).length := fun s t h => by simp [h]
  refine iteD (fun hne => ?_) (fun hne => ?_)
  · simp only [bne_iff_ne, ne_eq] at hne
    refine iteD (fun hgt => ?_) (fun hgt => ?_)
    · simp only [decide_eq_true_eq, gt_iff_lt] at hgt
      have w3 : IntKind.i64.wrap (i - j) = i - j := zaa (by omega) (by omega)
      rw [w3]
      obtain ⟨U1, U2, rfl, hU1⟩ : ∃ U1 U2, U = U1 ++ U2 ∧ (U1.length : Int) = j := ⟨U.take j.toNat, U.drop j.toNat, by rw [List.take_append_drop], by rw [List.length_take]; omega⟩
      rw [List.length_append] at hU
      have := zwn (T := T) lo hi nl P1 U1 U2 V R1 (m - i) m j (by omega) (by omega) hU1 hV (by omega) (by omega) hlen
      rw [show P1 ++ (U1 ++ U2 ++ (V ++ R1)) = P1 ++ (U1 ++ (U2 ++ (V ++ R1))) by simp]
      refine this.mono ?_
      rintro r h' ⟨rfl, rfl⟩
      refine ⟨_, ⟨rfl, rfl⟩, ⟨trivial, ⟨rfl, rfl, lens _ _ (by simp only [List.length_append]; omega)⟩, trivial⟩, rfl, ⟨by omega, by omega, by omega, P1 ++ V, U2, U1, R1, by simp, by rw [← he]; simp, by omega, hU1, by rw [List.length_append]; omega, by rw [List.length_append]; omega, by omega⟩, by dsimp only; omega⟩
    · simp only [decide_eq_true_eq, gt_iff_lt] at hgt
      have w3 : IntKind.i64.wrap (j - i) = j - i := zaa (by omega) (by omega)
      have w4 : IntKind.i64.wrap (m + j) = m + j := zaa (by omega) (by omega)
      have w5 : IntKind.i64.wrap (m + j - i) = m + j - i := zaa (by omega) (by omega)
      rw [w4, w5, w3]
      obtain ⟨V1, V2, rfl, hV1⟩ : ∃ V1 V2, V = V1 ++ V2 ∧ (V1.length : Int) = j - i := ⟨V.take (j - i).toNat, V.drop (j - i).toNat, by rw [List.take_append_drop], by rw [List.length_take]; omega⟩
      rw [List.length_append] at hV
      have := zwn (T := T) lo hi nl P1 U V1 V2 R1 (m - i) (m + j - i) i (by omega) (by omega) hU (by omega) (by omega) (by omega) hlen
      rw [show P1 ++ (U ++ (V1 ++ V2 ++ R1)) = P1 ++ (U ++ (V1 ++ (V2 ++ R1))) by simp]
      refine this.mono ?_
      rintro r h' ⟨rfl, rfl⟩
      refine ⟨_, ⟨rfl, rfl⟩, ⟨trivial, ⟨rfl, rfl, lens _ _ (by simp only [List.length_append]; omega)⟩, trivial⟩, rfl, ⟨by omega, by omega, by omega, P1, V2, V1, U ++ R1, by simp, by rw [← he]; simp, by omega, hV1, by omega, by omega, by omega⟩, by dsimp only; omega⟩
  · simp only [bne_iff_ne, ne_eq, Decidable.not_not] at hne
    have := zwn (T := T) lo hi nl P1 U [] V R1 (m - i) m i (by omega) (by omega) hU (by omega) (by simp) (by omega) hlen
    refine ACall.mono (by simpa using this) ?_
    rintro r h' ⟨rfl, rfl⟩
    refine ⟨_, ⟨rfl, rfl⟩, ⟨trivial, ⟨rfl, rfl, lens _ _ (by simp only [List.length_append]; omega)⟩, trivial⟩, rfl, ?_⟩
    rw [← he]
end
end Go.Eng



namespace Go.Eng.Srt
open Go Go.Eng
variable {key : Int → Int}
theorem Srtd.get {l : List Int} (h : Srtd key l) {i j : Nat} (hij : i ≤ j) (hj : j < l.length) : key (l.getD i 0) ≤ key (l.getD j 0) := by
  have hi : i < l.length := by omega
  simp only [List.getD, List.getElem?_eq_getElem hi, List.getElem?_eq_getElem hj, Option.getD_some]
  rcases Nat.lt_or_ge i j with h1 | h1
  · exact (List.pairwise_iff_getElem.1 h) i j hi hj h1
  · have : i = j := by omega
    subst this; exact Int.le_refl _
theorem zew {l : List Int} {x : Int} (h : x ∈ l) : ∃ i, i < l.length ∧ l.getD i 0 = x := by
  obtain ⟨i, hi, rfl⟩ := List.getElem_of_mem h
  exact ⟨i, hi, by simp [List.getD, hi]⟩
theorem zi9 {l : List Int} {i : Nat} (h : i < l.length) : l[i]? = some (l.getD i 0) := by simp [List.getD, h]
theorem Srtd.sub {l m : List Int} (h : Srtd key l) (hs : m.Sublist l) : Srtd key m := List.Pairwise.sublist hs h
theorem zzk {x : Int} {A B : List Int} (hs : Srtd key (A ++ B)) (h1 : ∀ y ∈ A, key y ≤ key x) (h2 : ∀ y ∈ B, key x ≤ key y) : Srtd key (A ++ x :: B) := by
  obtain ⟨s1, s2, s3⟩ := zc3.1 hs
  refine zc3.2 ⟨s1, List.pairwise_cons.2 ⟨h2, s2⟩, fun y hy z hz => ?_⟩
  rcases List.mem_cons.1 hz with rfl | hz
  · exact h1 y hy
  · exact s3 y hy z hz
theorem z3k {X1 X2 Y1 Y2 S1 S2 : List Int} (hX : Srtd key (X1 ++ X2)) (hY : Srtd key (Y1 ++ Y2)) (f1 : ∀ x ∈ X2, ∀ y ∈ Y1, key y < key x) (f2 : ∀ x ∈ X1, ∀ y ∈ Y2, key x ≤ key y)
    (h1 : Srtd key S1) (k1 : Stab key (X1 ++ Y1) S1) (h2 : Srtd key S2) (k2 : Stab key (X2 ++ Y2) S2) : Srtd key (S1 ++ S2) ∧ Stab key ((X1 ++ X2) ++ (Y1 ++ Y2)) (S1 ++ S2) := by
  obtain ⟨_, _, x3⟩ := zc3.1 hX
  obtain ⟨_, _, y3⟩ := zc3.1 hY
  refine ⟨zc3.2 ⟨h1, h2, fun x hx y hy => ?_⟩, ?_⟩
  · rcases List.mem_append.1 (k1.mem.2 hx) with hx | hx <;> rcases List.mem_append.1 (k2.mem.2 hy) with hy | hy
    · exact x3 x hx y hy
    · exact f2 x hx y hy
    · exact Int.le_of_lt (f1 y hy x hx)
    · exact y3 x hx y hy
  · refine Stab.trans ?_ (k1.app k2)
    have := Stab.rot1 (key := key) (u := X1) (v := Y2) (a := X2) (b := Y1) (fun x hx y hy => by have := f1 x hx y hy; omega)
    simpa using this
end Go.Eng.Srt



namespace Go.Eng
open Go Go.Proofs Go.Eng.Rows Go.Eng.Srt
def SymQ (key : Int → Int) (nl : Bool) (T : PV) (P S R : List Int) (r : LV) (h' : Hp) : Prop := ∃ S' : List Int, r = .tup [] ∧ h' = [.sl (21, 1) false nl (i32s (P ++ (S' ++ R))), .box [.pv T]] ∧ Srtd key S' ∧ Stab key S S'
section
variable {key : Int → Int} {T : PV}
theorem mid2 {i j : Int} (h0 : 0 ≤ i) (h1 : i ≤ j) (h2 : j ≤ 1000000000000) : IntKind.i64.wrap ((IntKind.u64.wrap (IntKind.i64.wrap (i + j))).fdiv (2 ^ 1)) = (i + j) / 2 := zzg h0 h1 (by omega)
theorem z3l (hc : zmv T key) (lo hi : Nat) (nl : Bool) (P Y R : List Int) (x : Int) (a m b : Int) (ha : 0 ≤ a) (hP : P.length = lo + a.toNat) (hm : m = a + 1) (hb : b = m + Y.length) (hhi : (lo : Int) + b ≤ hi) (hr : R32 (P ++ ([x] ++ (Y ++ R)))) (hlen : hi < 1000000000000) (hY : Srtd key Y) :
    ACall Try.prog 112 [.sub 0 lo hi, .pv (.int .i64 a), .pv (.int .i64 m), .pv (.int .i64 b), .fn 74 [.box 1 0]] [.sl (21, 1) false nl (i32s (P ++ ([x] ++ (Y ++ R)))), .box [.pv T]] (SymQ key nl T P ([x] ++ Y) R) := by
  have hat : ∀ h : Int, m ≤ h → h < b → (P ++ ([x] ++ (Y ++ R)))[lo + h.toNat]? = some (Y.getD (h - m).toNat 0) := fun h h1 h2 => by
    have e : P ++ ([x] ++ (Y ++ R)) = (P ++ [x]) ++ (Y ++ R) := by simp
    rw [e, List.getElem?_append_right (by simp; omega), show lo + h.toNat - (P ++ [x]).length = (h - m).toNat by simp; omega, List.getElem?_append_left (by omega)]
    exact zi9 (by omega)
  have hax : (P ++ ([x] ++ (Y ++ R)))[lo + a.toNat]? = some x := by rw [← hP]; exact znx P (Y ++ R) x
  refine za7 _ _ _ _ _ _ _ _
    (fun i j s => s = i32s (P ++ ([x] ++ (Y ++ R))) ∧ m ≤ i ∧ i ≤ j ∧ j ≤ b ∧ (∀ h, m ≤ h → h < i → key (Y.getD (h - m).toNat 0) < key x) ∧ (∀ h, j ≤ h → h < b → ¬ key (Y.getD (h - m).toNat 0) < key x)) (fun i j _ => (j - i).toNat)
    (fun i k s => m ≤ i ∧ i ≤ b ∧ (∀ h, m ≤ h → h < i → key (Y.getD (h - m).toNat 0) < key x) ∧ (∀ h, i ≤ h → h < b → ¬ key (Y.getD (h - m).toNat 0) < key x) ∧ a ≤ k ∧ k ≤ i - 1 ∧ s = i32s (P ++ (Y.take (k - a).toNat ++ (x :: (Y.drop (k - a).toNat ++ R))))) (fun i k _ => (i - 1 - k).toNat)
    (fun _ _ _ => True) (fun _ _ _ => 0) (fun _ _ _ => True) (fun _ _ _ => 0) (fun _ _ _ => True) (fun _ _ _ => 0) ?_
  unfold zal
  have w1 : IntKind.i64.wrap (m - a) = 1 := by rw [zaa (by omega) (by omega)]; omega
  refine iteT (by rw [w1]; rfl) ⟨⟨rfl, rfl, Int.le_refl _, by omega, Int.le_refl _, fun h h1 h2 => by omega, fun h h1 h2 => by omega⟩, ?_⟩
  rintro i j _ ⟨rfl, i0, hij, hjb, hlt, hge⟩
  refine iteD (fun hc1 => ?_) (fun hc1 => ?_)
  · simp only [decide_eq_true_eq] at hc1
    rw [mid2 (by omega) (by omega) (by omega)]
    obtain ⟨h, hh⟩ : ∃ h, h = (i + j) / 2 := ⟨_, rfl⟩
    rw [← hh]
    have b1 : i ≤ h ∧ h < j := by omega
    have gy := hat h (by omega) (by omega)
    have wh : IntKind.i64.wrap (h + 1) = h + 1 := zaa (by omega) (by omega)
    rw [wh]
    refine ⟨⟨by omega, by omega, by rw [za8 gy]; rfl⟩, _, by rw [za8 gy]; rfl, ⟨by omega, by omega, by rw [za8 hax]; rfl⟩, x, by rw [za8 hax]; rfl, ?_⟩
    refine (hc _ x (zqs hr gy) (zqs hr hax)).mono ?_
    rintro _ ⟨n2, rfl, hn2⟩
    refine ⟨n2, rfl, rfl, iteD (fun hl => ?_) (fun hl => ?_)⟩
    · simp only [decide_eq_true_eq] at hl
      have hk := hn2.1 hl
      refine ⟨rfl, ⟨rfl, by omega, by omega, by omega, fun q q1 q2 => ?_, hge⟩, by dsimp only; omega⟩
      have := hY.get (i := (q - m).toNat) (j := (h - m).toNat) (by omega) (by omega)
      omega
    · simp only [decide_eq_true_eq] at hl
      have hk : ¬ key (Y.getD (h - m).toNat 0) < key x := fun h => hl (hn2.2 h)
      refine ⟨rfl, ⟨rfl, by omega, by omega, by omega, hlt, fun q q1 q2 => ?_⟩, by dsimp only; omega⟩
      have := hY.get (i := (h - m).toNat) (j := (q - m).toNat) (by omega) (by omega)
      omega
  · simp only [decide_eq_true_eq] at hc1
    have : i = j := by omega
    subst this
    refine ⟨⟨rfl, i0, hjb, hlt, hge, Int.le_refl _, by omega, by simp⟩, ?_⟩
    clear hc1 hij hjb hlt hge i0
    rintro i k _ ⟨i0, ib, hlt, hge, k0, k1, rfl⟩
    have wi : IntKind.i64.wrap (i - 1) = i - 1 := zaa (by omega) (by omega)
    rw [wi]
    refine iteD (fun hc2 => ?_) (fun hc2 => ?_)
    · simp only [decide_eq_true_eq] at hc2
      have wk : IntKind.i64.wrap (k + 1) = k + 1 := zaa (by omega) (by omega)
      rw [wk]
      have hlk : (k - a).toNat < Y.length := by omega
      have hn : (k + 1 - a).toNat = (k - a).toNat + 1 := by omega
      have dy : Y.drop (k - a).toNat = Y[(k - a).toNat] :: Y.drop ((k - a).toNat + 1) := List.drop_eq_getElem_cons hlk
      have ty : Y.take ((k - a).toNat + 1) = Y.take (k - a).toNat ++ [Y[(k - a).toNat]] := zas hlk
      have lt : (Y.take (k - a).toNat).length = (k - a).toNat := by rw [List.length_take]; omega
      obtain ⟨D, hDe⟩ : ∃ D, D = P ++ (Y.take (k - a).toNat ++ (x :: (Y.drop (k - a).toNat ++ R))) := ⟨_, rfl⟩
      have hRD : R32 D := fun y hy => hr y (by
        rw [hDe] at hy
        simp only [List.mem_append, List.mem_cons] at hy ⊢
        rcases hy with hy | hy | hy | hy | hy
        · exact .inl hy
        · exact .inr (.inr (.inl (List.mem_of_mem_take hy)))
        · exact .inr (.inl (by simp [hy]))
        · exact .inr (.inr (.inl (List.mem_of_mem_drop hy)))
        · exact .inr (.inr (.inr hy)))
      rw [← hDe]
      have hD : D = (P ++ Y.take (k - a).toNat) ++ x :: Y[(k - a).toNat] :: (Y.drop ((k - a).toNat + 1) ++ R) := by rw [hDe, dy]; simp only [List.append_assoc, List.cons_append, List.nil_append]
      have hk0 : lo + k.toNat = (P ++ Y.take (k - a).toNat).length := by rw [List.length_append, lt]; omega
      have hk1 : lo + (k + 1).toNat = (P ++ Y.take (k - a).toNat).length + 1 := by rw [List.length_append, lt]; omega
      have gx : D[lo + k.toNat]? = some x := by rw [hD, hk0, znx]
      have gy : D[lo + (k + 1).toNat]? = some Y[(k - a).toNat] := by rw [hD, hk1, List.getElem?_append_right (by omega)]; simp
      have hsw : (D.set (lo + k.toNat) Y[(k - a).toNat]).set (lo + (k + 1).toNat) x = P ++ (Y.take (k + 1 - a).toNat ++ (x :: (Y.drop (k + 1 - a).toNat ++ R))) := by
        rw [hD, hk0, hk1, zul, hn, ty]; simp only [List.append_assoc, List.cons_append, List.nil_append]
      obtain ⟨t1, t2, t3, t4⟩ := zk1 D gx gy (by omega) Y[(k - a).toNat] x
      rw [hsw] at t1
      have hla : 1 ≤ ((i32s D).getD (lo + k.toNat) []).length := by rw [t2]; exact Nat.le_refl _
      refine ⟨⟨by omega, by omega, t3⟩, Y[(k - a).toNat], by rw [za8 gy]; rfl, ⟨by omega, by omega, t2⟩, x, by rw [za8 gx]; rfl, ⟨by omega, by omega, t2⟩, ?_⟩
      refine ⟨?_, ?_⟩
      all_goals exact ⟨⟨rfl, hla⟩, ⟨by omega, by omega, t4⟩, ⟨rfl, by rw [t4]; exact Nat.le_refl _⟩, rfl, ⟨i0, ib, hlt, hge, by omega, by omega, t1⟩, by dsimp only; omega⟩
    · simp only [decide_eq_true_eq] at hc2
      have hk : (k - a).toNat = (i - m).toNat := by omega
      rw [hk]
      have h1 : ∀ y ∈ Y.take (i - m).toNat, key y < key x := fun y hy => by
        obtain ⟨q, hq, rfl⟩ := zew hy
        rw [List.length_take] at hq
        have e : (Y.take (i - m).toNat).getD q 0 = Y.getD q 0 := by simp only [List.getD]; rw [List.getElem?_take_of_lt (by omega)]
        rw [e]
        have := hlt (m + q) (by omega) (by omega)
        rwa [show (m + (q : Int) - m).toNat = q by omega] at this
      have h2 : ∀ y ∈ Y.drop (i - m).toNat, key x ≤ key y := fun y hy => by
        obtain ⟨q, hq, rfl⟩ := zew hy
        rw [List.length_drop] at hq
        have e : (Y.drop (i - m).toNat).getD q 0 = Y.getD ((i - m).toNat + q) 0 := by simp only [List.getD, List.getElem?_drop]
        rw [e]
        have := hge (i + q) (by omega) (by omega)
        rw [show (i + (q : Int) - m).toNat = (i - m).toNat + q by omega] at this
        omega
      have hYs : Srtd key (Y.take (i - m).toNat ++ Y.drop (i - m).toNat) := by rw [List.take_append_drop]; exact hY
      refine ⟨Y.take (i - m).toNat ++ x :: Y.drop (i - m).toNat, rfl, by simp, zzk hYs (fun y hy => Int.le_of_lt (h1 y hy)) h2, ?_⟩
      have := Stab.rot1 (key := key) (u := []) (v := Y.drop (i - m).toNat) (a := [x]) (b := Y.take (i - m).toNat) (fun p hp q hq => by simp at hp; subst hp; have := h1 q hq; omega)
      simpa using this
end
end Go.Eng



namespace Go.Eng
open Go Go.Proofs Go.Eng.Rows Go.Eng.Srt
section
variable {key : Int → Int} {T : PV}
theorem z3m (hc : zmv T key) (lo hi : Nat) (nl : Bool) (P X R : List Int) (y : Int) (a m b : Int) (ha : 0 ≤ a) (hP : P.length = lo + a.toNat) (hm : m = a + X.length) (hX1 : X.length ≠ 1) (hb : b = m + 1) (hhi : (lo : Int) + b ≤ hi) (hr : R32 (P ++ (X ++ ([y] ++ R)))) (hlen : hi < 1000000000000) (hX : Srtd key X) :
    ACall Try.prog 112 [.sub 0 lo hi, .pv (.int .i64 a), .pv (.int .i64 m), .pv (.int .i64 b), .fn 74 [.box 1 0]] [.sl (21, 1) false nl (i32s (P ++ (X ++ ([y] ++ R)))), .box [.pv T]] (SymQ key nl T P (X ++ [y]) R) := by
  have hat : ∀ h : Int, a ≤ h → h < m → (P ++ (X ++ ([y] ++ R)))[lo + h.toNat]? = some (X.getD (h - a).toNat 0) := fun h h1 h2 => by
    rw [List.getElem?_append_right (by omega), show lo + h.toNat - P.length = (h - a).toNat by omega, List.getElem?_append_left (by omega)]
    exact zi9 (by omega)
  have hay : (P ++ (X ++ ([y] ++ R)))[lo + m.toNat]? = some y := by
    have e : P ++ (X ++ ([y] ++ R)) = (P ++ X) ++ y :: R := by simp
    rw [e, show lo + m.toNat = (P ++ X).length by simp; omega, znx]
  refine za7 _ _ _ _ _ _ _ _
    (fun _ _ _ => True) (fun _ _ _ => 0) (fun _ _ _ => True) (fun _ _ _ => 0)
    (fun i j s => s = i32s (P ++ (X ++ ([y] ++ R))) ∧ a ≤ i ∧ i ≤ j ∧ j ≤ m ∧ (∀ h, a ≤ h → h < i → ¬ key y < key (X.getD (h - a).toNat 0)) ∧ (∀ h, j ≤ h → h < m → key y < key (X.getD (h - a).toNat 0))) (fun i j _ => (j - i).toNat)
    (fun i k s => a ≤ i ∧ i ≤ m ∧ (∀ h, a ≤ h → h < i → ¬ key y < key (X.getD (h - a).toNat 0)) ∧ (∀ h, i ≤ h → h < m → key y < key (X.getD (h - a).toNat 0)) ∧ i ≤ k ∧ k ≤ m ∧ s = i32s (P ++ (X.take (k - a).toNat ++ (y :: (X.drop (k - a).toNat ++ R))))) (fun i k _ => (k - i).toNat)
    (fun _ _ _ => True) (fun _ _ _ => 0) ?_
  unfold zal
  have w1 : IntKind.i64.wrap (m - a) = X.length := by rw [zaa (by omega) (by omega)]; omega
  have w2 : IntKind.i64.wrap (b - m) = 1 := by rw [zaa (by omega) (by omega)]; omega
  refine iteF (by rw [w1]; simp; omega) (iteT (by rw [w2]; rfl) ⟨⟨rfl, rfl, Int.le_refl _, by omega, Int.le_refl _, fun h h1 h2 => by omega, fun h h1 h2 => by omega⟩, ?_⟩)
  rintro i j _ ⟨rfl, i0, hij, hjb, hlt, hge⟩
  refine iteD (fun hc1 => ?_) (fun hc1 => ?_)
  · simp only [decide_eq_true_eq] at hc1
    rw [mid2 (by omega) (by omega) (by omega)]
    obtain ⟨h, hh⟩ : ∃ h, h = (i + j) / 2 := ⟨_, rfl⟩
    rw [← hh]
    have b1 : i ≤ h ∧ h < j := by omega
    have gx := hat h (by omega) (by omega)
    have wh : IntKind.i64.wrap (h + 1) = h + 1 := zaa (by omega) (by omega)
    rw [wh]
    refine ⟨⟨by omega, by omega, by rw [za8 hay]; rfl⟩, y, by rw [za8 hay]; rfl, ⟨by omega, by omega, by rw [za8 gx]; rfl⟩, _, by rw [za8 gx]; rfl, ?_⟩
    refine (hc y _ (zqs hr hay) (zqs hr gx)).mono ?_
    rintro _ ⟨n2, rfl, hn2⟩
    refine ⟨n2, rfl, rfl, iteD (fun hl => ?_) (fun hl => ?_)⟩
    · simp only [Bool.not_eq_true', decide_eq_false_iff_not] at hl
      have hk : ¬ key y < key (X.getD (h - a).toNat 0) := fun h => hl (hn2.2 h)
      refine ⟨rfl, ⟨rfl, by omega, by omega, by omega, fun q q1 q2 => ?_, hge⟩, by dsimp only; omega⟩
      have := hX.get (i := (q - a).toNat) (j := (h - a).toNat) (by omega) (by omega)
      omega
    · simp only [Bool.not_eq_true', decide_eq_false_iff_not, Decidable.not_not] at hl
      have hk := hn2.1 hl
      refine ⟨rfl, ⟨rfl, by omega, by omega, by omega, hlt, fun q q1 q2 => ?_⟩, by dsimp only; omega⟩
      have := hX.get (i := (h - a).toNat) (j := (q - a).toNat) (by omega) (by omega)
      omega
  · simp only [decide_eq_true_eq] at hc1
    have : i = j := by omega
    subst this
    have hml : (m - a).toNat = X.length := by omega
    refine ⟨⟨rfl, i0, hjb, hlt, hge, by omega, Int.le_refl _, by rw [hml]; simp⟩, ?_⟩
    clear hc1 hij hjb hlt hge i0
    rintro i k _ ⟨i0, ib, hlt, hge, k0, k1, rfl⟩
    refine iteD (fun hc2 => ?_) (fun hc2 => ?_)
    · simp only [decide_eq_true_eq, gt_iff_lt] at hc2
      have wk : IntKind.i64.wrap (k - 1) = k - 1 := zaa (by omega) (by omega)
      rw [wk]
      have hlk : (k - 1 - a).toNat < X.length := by omega
      have hn : (k - a).toNat = (k - 1 - a).toNat + 1 := by omega
      have dx : X.drop (k - 1 - a).toNat = X[(k - 1 - a).toNat] :: X.drop ((k - 1 - a).toNat + 1) := List.drop_eq_getElem_cons hlk
      have tx : X.take ((k - 1 - a).toNat + 1) = X.take (k - 1 - a).toNat ++ [X[(k - 1 - a).toNat]] := zas hlk
      have lt : (X.take (k - 1 - a).toNat).length = (k - 1 - a).toNat := by rw [List.length_take]; omega
      obtain ⟨D, hDe⟩ : ∃ D, D = P ++ (X.take (k - a).toNat ++ (y :: (X.drop (k - a).toNat ++ R))) := ⟨_, rfl⟩
      have hRD : R32 D := fun z hz => hr z (by
        rw [hDe] at hz
        simp only [List.mem_append, List.mem_cons] at hz ⊢
        rcases hz with hz | hz | hz | hz | hz
        · exact .inl hz
        · exact .inr (.inl (List.mem_of_mem_take hz))
        · exact .inr (.inr (.inl (by simp [hz])))
        · exact .inr (.inl (List.mem_of_mem_drop hz))
        · exact .inr (.inr (.inr hz)))
      rw [← hDe]
      have hD : D = (P ++ X.take (k - 1 - a).toNat) ++ X[(k - 1 - a).toNat] :: y :: (X.drop ((k - 1 - a).toNat + 1) ++ R) := by rw [hDe, hn, tx]; simp only [List.append_assoc, List.cons_append, List.nil_append]
      have hk0 : lo + (k - 1).toNat = (P ++ X.take (k - 1 - a).toNat).length := by rw [List.length_append, lt]; omega
      have hk1 : lo + k.toNat = (P ++ X.take (k - 1 - a).toNat).length + 1 := by rw [List.length_append, lt]; omega
      have gx : D[lo + (k - 1).toNat]? = some X[(k - 1 - a).toNat] := by rw [hD, hk0, znx]
      have gy : D[lo + k.toNat]? = some y := by rw [hD, hk1, List.getElem?_append_right (by omega)]; simp
      have hsw : (D.set (lo + k.toNat) X[(k - 1 - a).toNat]).set (lo + (k - 1).toNat) y = P ++ (X.take (k - 1 - a).toNat ++ (y :: (X.drop (k - 1 - a).toNat ++ R))) := by
        rw [hD, hk0, hk1, zqr, dx]; simp only [List.append_assoc, List.cons_append, List.nil_append]
      obtain ⟨t1, t2, t3, t4⟩ := zk1 D gy gx (by omega) X[(k - 1 - a).toNat] y
      rw [hsw] at t1
      have hla : 1 ≤ ((i32s D).getD (lo + k.toNat) []).length := by rw [t2]; exact Nat.le_refl _
      refine ⟨⟨by omega, by omega, t3⟩, X[(k - 1 - a).toNat], by rw [za8 gx]; rfl, ⟨by omega, by omega, t2⟩, y, by rw [za8 gy]; rfl, ⟨by omega, by omega, t2⟩, ?_⟩
      refine ⟨?_, ?_⟩
      all_goals exact ⟨⟨rfl, hla⟩, ⟨by omega, by omega, t4⟩, ⟨rfl, by rw [t4]; exact Nat.le_refl _⟩, rfl, ⟨i0, ib, hlt, hge, by omega, by omega, t1⟩, by dsimp only; omega⟩
    · simp only [decide_eq_true_eq, gt_iff_lt] at hc2
      have hk : k = i := by omega
      subst hk
      have h1 : ∀ z ∈ X.take (k - a).toNat, key z ≤ key y := fun z hz => by
        obtain ⟨q, hq, rfl⟩ := zew hz
        rw [List.length_take] at hq
        have e : (X.take (k - a).toNat).getD q 0 = X.getD q 0 := by simp only [List.getD]; rw [List.getElem?_take_of_lt (by omega)]
        rw [e]
        have := hlt (a + q) (by omega) (by omega)
        rw [show (a + (q : Int) - a).toNat = q by omega] at this
        omega
      have h2 : ∀ z ∈ X.drop (k - a).toNat, key y < key z := fun z hz => by
        obtain ⟨q, hq, rfl⟩ := zew hz
        rw [List.length_drop] at hq
        have e : (X.drop (k - a).toNat).getD q 0 = X.getD ((k - a).toNat + q) 0 := by simp only [List.getD, List.getElem?_drop]
        rw [e]
        have := hge (k + q) (by omega) (by omega)
        rwa [show (k + (q : Int) - a).toNat = (k - a).toNat + q by omega] at this
      have hXs : Srtd key (X.take (k - a).toNat ++ X.drop (k - a).toNat) := by rw [List.take_append_drop]; exact hX
      refine ⟨X.take (k - a).toNat ++ y :: X.drop (k - a).toNat, rfl, by simp, zzk hXs h1 (fun z hz => Int.le_of_lt (h2 z hz)), ?_⟩
      have := Stab.rot1 (key := key) (u := X.take (k - a).toNat) (v := []) (a := X.drop (k - a).toNat) (b := [y]) (fun p hp q hq => by simp at hq; subst hq; have := h2 p hp; omega)
      rw [← List.append_assoc, List.take_append_drop] at this
      simpa using this
end
end Go.Eng



namespace Go.Eng
open Go Go.Proofs Go.Eng.Rows Go.Eng.Srt
section
variable {key : Int → Int} {T : PV} (lo hi : Nat) (nl : Bool)
abbrev hpS (nl : Bool) (T : PV) (t : List (List PV)) : Hp := [.sl (21, 1) false nl t, .box [.pv T]]
abbrev z1c (nl : Bool) (T : PV) (t : List (List PV)) (K : List (List PV) → Prop) : LV → Hp → Prop := fun r h' => ∃ t1, (r = .tup [] ∧ h' = hpS nl T t1) ∧ (True ∧ ((21, 1) = (21, 1) ∧ nl = nl ∧ t.length = t1.length) ∧ True) ∧ K t1
def ztb (T : PV) (mid e b : Int) (Q : LV → Hp → Prop) (t : List (List PV)) : Prop :=
  if (decide (mid < e) && decide (e < b)) = true then ACall Try.prog 112 [.sub 0 lo hi, .pv (.int .i64 mid), .pv (.int .i64 e), .pv (.int .i64 b), .fn 74 [.box 1 0]] (hpS nl T t) (z1c nl T t fun t1 => Q (.tup []) (hpS nl T t1)) else Q (.tup []) (hpS nl T t)
def ztc (T : PV) (a s mid e b : Int) (Q : LV → Hp → Prop) (t : List (List PV)) : Prop :=
  if (decide (a < s) && decide (s < mid)) = true then ACall Try.prog 112 [.sub 0 lo hi, .pv (.int .i64 a), .pv (.int .i64 s), .pv (.int .i64 mid), .fn 74 [.box 1 0]] (hpS nl T t) (z1c nl T t (ztb lo hi nl T mid e b Q)) else ztb lo hi nl T mid e b Q t
def zwo (T : PV) (a s m mid e b : Int) (Q : LV → Hp → Prop) (t : List (List PV)) : Prop :=
  if (decide (s < m) && decide (m < e)) = true then ACall Try.prog 120 [.sub 0 lo hi, .pv (.int .i64 s), .pv (.int .i64 m), .pv (.int .i64 e), .fn 74 [.box 1 0]] (hpS nl T t) (z1c nl T t (ztc lo hi nl T a s mid e b Q)) else ztc lo hi nl T a s mid e b Q t
theorem R32.of {l m : List Int} (h : R32 l) (hm : ∀ x ∈ m, x ∈ l) : R32 m := fun x hx => h x (hm x hx)
def zzl (T : PV) (key : Int → Int) (N : Int) : Prop := ∀ (P X Y R : List Int) (a m b : Int), 0 ≤ a → P.length = lo + a.toNat → m = a + X.length → b = m + Y.length → X ≠ [] → Y ≠ [] → (lo : Int) + b ≤ hi → R32 (P ++ (X ++ (Y ++ R))) → Srtd key X → Srtd key Y → b - a < N →
  ACall Try.prog 112 [.sub 0 lo hi, .pv (.int .i64 a), .pv (.int .i64 m), .pv (.int .i64 b), .fn 74 [.box 1 0]] (hpS nl T (i32s (P ++ (X ++ (Y ++ R))))) (SymQ key nl T P (X ++ Y) R)
theorem z1d {N : Int} (ih : zzl lo hi nl T key N) (hlen : hi < 1000000000000) (P X1 X2 Y1 Y2 R : List Int) (a s m mid e b : Int) (ha : 0 ≤ a) (hP : P.length = lo + a.toNat) (h1 : s = a + X1.length) (h2 : m = s + X2.length) (h3 : e = m + Y1.length) (h4 : b = e + Y2.length) (h5 : mid = s + Y1.length)
    (hhi : (lo : Int) + b ≤ hi) (hr : R32 (P ++ (X1 ++ (X2 ++ (Y1 ++ (Y2 ++ R)))))) (hX : Srtd key (X1 ++ X2)) (hY : Srtd key (Y1 ++ Y2)) (f1 : ∀ x ∈ X2, ∀ y ∈ Y1, key y < key x) (f2 : ∀ x ∈ X1, ∀ y ∈ Y2, key x ≤ key y) (n1 : mid - a < N) (n2 : b - mid < N) :
    zwo lo hi nl T a s m mid e b (SymQ key nl T P ((X1 ++ X2) ++ (Y1 ++ Y2)) R) (i32s (P ++ (X1 ++ (X2 ++ (Y1 ++ (Y2 ++ R)))))) := by
  have hl1 : ∀ {u v : List Int}, u.length = v.length → (i32s u).length = (i32s v).length := fun h => by simp [h]
  obtain ⟨x1, x2, x3⟩ := zc3.1 hX
  obtain ⟨y1, y2, y3⟩ := zc3.1 hY
  have t3 : ∀ S1 : List Int, Srtd key S1 → Stab key (X1 ++ Y1) S1 → ztb lo hi nl T mid e b (SymQ key nl T P ((X1 ++ X2) ++ (Y1 ++ Y2)) R) (i32s (P ++ (S1 ++ (X2 ++ (Y2 ++ R))))) := fun S1 s1 k1 => by
    have kl := k1.len
    rw [List.length_append] at kl
    have fin : ∀ S2 : List Int, Srtd key S2 → Stab key (X2 ++ Y2) S2 → SymQ key nl T P ((X1 ++ X2) ++ (Y1 ++ Y2)) R (.tup []) (hpS nl T (i32s (P ++ (S1 ++ (S2 ++ R))))) := fun S2 s2 k2 => by
      obtain ⟨c1, c2⟩ := z3k hX hY f1 f2 s1 k1 s2 k2
      exact ⟨S1 ++ S2, rfl, by simp, c1, c2⟩
    unfold ztb
    refine iteD (fun hc => ?_) (fun hc => ?_)
    · simp only [Bool.and_eq_true, decide_eq_true_eq] at hc
      have nx : X2 ≠ [] := fun h => by subst h; simp at h2; omega
      have ny : Y2 ≠ [] := fun h => by subst h; simp at h4; omega
      have := ih (P ++ S1) X2 Y2 R mid e b (by omega) (by rw [List.length_append]; omega) (by omega) h4 nx ny hhi (hr.of fun x hx => by
        simp only [List.mem_append] at hx ⊢
        rcases hx with (hx | hx) | hx | hx | hx
        · exact .inl hx
        · rcases List.mem_append.1 (k1.mem.2 hx) with hx | hx
          · exact .inr (.inl hx)
          · exact .inr (.inr (.inr (.inl hx)))
        · exact .inr (.inr (.inl hx))
        · exact .inr (.inr (.inr (.inr (.inl hx))))
        · exact .inr (.inr (.inr (.inr (.inr hx))))) x2 y2 n2
      rw [show P ++ (S1 ++ (X2 ++ (Y2 ++ R))) = (P ++ S1) ++ (X2 ++ (Y2 ++ R)) by simp]
      refine this.mono ?_
      rintro r h' ⟨S2, rfl, rfl, s2, k2⟩
      refine ⟨_, ⟨rfl, rfl⟩, ⟨trivial, ⟨rfl, rfl, hl1 ?_⟩, trivial⟩, ?_⟩
      · have := k2.len
        simp only [List.length_append] at this ⊢; omega
      · have := fin S2 s2 k2
        rw [← List.append_assoc P] at this
        exact this
    · simp only [Bool.and_eq_true, decide_eq_true_eq] at hc
      have hz : X2 = [] ∨ Y2 = [] := by
        rcases Nat.eq_zero_or_pos X2.length with h | h
        · exact .inl (List.length_eq_zero_iff.1 h)
        · exact .inr (List.length_eq_zero_iff.1 (by omega))
      have s2 : Srtd key (X2 ++ Y2) := by
        rcases hz with h | h
        · subst h; exact y2
        · subst h; simpa using x2
      have := fin (X2 ++ Y2) s2 (.refl _)
      rw [List.append_assoc X2 Y2] at this
      exact this
  have t2 : ztc lo hi nl T a s mid e b (SymQ key nl T P ((X1 ++ X2) ++ (Y1 ++ Y2)) R) (i32s (P ++ (X1 ++ (Y1 ++ (X2 ++ (Y2 ++ R)))))) := by
    unfold ztc
    refine iteD (fun hc => ?_) (fun hc => ?_)
    · simp only [Bool.and_eq_true, decide_eq_true_eq] at hc
      have nx : X1 ≠ [] := fun h => by subst h; simp at h1; omega
      have ny : Y1 ≠ [] := fun h => by subst h; simp at h5; omega
      refine (ih P X1 Y1 (X2 ++ (Y2 ++ R)) a s mid ha hP h1 h5 nx ny (by omega) (hr.of fun x hx => by
        simp only [List.mem_append] at hx ⊢
        rcases hx with hx | hx | hx | hx | hx | hx
        · exact .inl hx
        · exact .inr (.inl hx)
        · exact .inr (.inr (.inr (.inl hx)))
        · exact .inr (.inr (.inl hx))
        · exact .inr (.inr (.inr (.inr (.inl hx))))
        · exact .inr (.inr (.inr (.inr (.inr hx))))) x1 y1 n1).mono ?_
      rintro r h' ⟨S1, rfl, rfl, s1, k1⟩
      refine ⟨_, ⟨rfl, rfl⟩, ⟨trivial, ⟨rfl, rfl, hl1 ?_⟩, trivial⟩, t3 S1 s1 k1⟩
      have := k1.len
      simp only [List.length_append] at this ⊢; omega
    · simp only [Bool.and_eq_true, decide_eq_true_eq] at hc
      have hz : X1 = [] ∨ Y1 = [] := by
        rcases Nat.eq_zero_or_pos X1.length with h | h
        · exact .inl (List.length_eq_zero_iff.1 h)
        · exact .inr (List.length_eq_zero_iff.1 (by omega))
      have s2 : Srtd key (X1 ++ Y1) := by
        rcases hz with h | h
        · subst h; exact y1
        · subst h; simpa using x1
      have := t3 (X1 ++ Y1) s2 (.refl _)
      rw [List.append_assoc X1 Y1] at this
      exact this
  unfold zwo
  refine iteD (fun hc => ?_) (fun hc => ?_)
  · simp only [Bool.and_eq_true, decide_eq_true_eq] at hc
    have nx : X2 ≠ [] := fun h => by subst h; simp at h2; omega
    have ny : Y1 ≠ [] := fun h => by subst h; simp at h3; omega
    have := z1b (T := T) lo hi nl (P ++ X1) X2 Y1 (Y2 ++ R) s m e (by omega) (by rw [List.length_append]; omega) h2 h3 nx ny (by omega) hlen
    rw [show P ++ (X1 ++ (X2 ++ (Y1 ++ (Y2 ++ R)))) = (P ++ X1) ++ (X2 ++ (Y1 ++ (Y2 ++ R))) by simp]
    refine this.mono ?_
    rintro r h' ⟨rfl, rfl⟩
    refine ⟨_, ⟨rfl, rfl⟩, ⟨trivial, ⟨rfl, rfl, hl1 ?_⟩, trivial⟩, ?_⟩
    · simp only [List.length_append]; omega
    · rw [List.append_assoc P]; exact t2
  · simp only [Bool.and_eq_true, decide_eq_true_eq] at hc
    have hz : X2 = [] ∨ Y1 = [] := by
      rcases Nat.eq_zero_or_pos X2.length with h | h
      · exact .inl (List.length_eq_zero_iff.1 h)
      · exact .inr (List.length_eq_zero_iff.1 (by omega))
    have e : P ++ (X1 ++ (X2 ++ (Y1 ++ (Y2 ++ R)))) = P ++ (X1 ++ (Y1 ++ (X2 ++ (Y2 ++ R)))) := by
      rcases hz with h | h <;> subst h <;> simp
    rw [e]; exact t2
end
end Go.Eng



namespace Go.Eng
open Go Go.Proofs Go.Eng.Rows Go.Eng.Srt
section
variable {key : Int → Int} {T : PV}
theorem zzm (hc : zmv T key) (lo hi : Nat) (nl : Bool) (hlen : hi < 1000000000000) : ∀ N : Nat, zzl lo hi nl T key N := by
  intro N
  induction N with
  | zero =>
    intro P X Y R a m b ha hP hm hb hx hy hhi hr hX hY hN
    omega
  | succ N ih =>
    intro P X Y R a m b ha hP hm hb hx hy hhi hr hX hY hN
    have hxl := List.length_pos_iff.2 hx
    have hyl := List.length_pos_iff.2 hy
    by_cases hx1 : X.length = 1
    · obtain ⟨x, rfl⟩ := List.length_eq_one_iff.1 hx1
      exact z3l hc lo hi nl P Y R x a m b ha hP (by simpa using hm) hb hhi hr hlen hY
    by_cases hy1 : Y.length = 1
    · obtain ⟨y, rfl⟩ := List.length_eq_one_iff.1 hy1
      exact z3m hc lo hi nl P X R y a m b ha hP hm hx1 (by simpa using hb) hhi hr hlen hX
    obtain ⟨mid, hmid⟩ : ∃ mid, mid = (a + b) / 2 := ⟨_, rfl⟩
    have hat : ∀ h : Int, a ≤ h → h < m → (P ++ (X ++ (Y ++ R)))[lo + h.toNat]? = some (X.getD (h - a).toNat 0) := fun h h1 h2 => by
      rw [List.getElem?_append_right (by omega), show lo + h.toNat - P.length = (h - a).toNat by omega, List.getElem?_append_left (by omega)]
      exact zi9 (by omega)
    have hbt : ∀ h : Int, m ≤ h → h < b → (P ++ (X ++ (Y ++ R)))[lo + h.toNat]? = some (Y.getD (h - m).toNat 0) := fun h h1 h2 => by
      rw [← List.append_assoc, List.getElem?_append_right (by rw [List.length_append]; omega), show lo + h.toNat - (P ++ X).length = (h - m).toNat by rw [List.length_append]; omega, List.getElem?_append_left (by omega)]
      exact zi9 (by omega)
    obtain ⟨s0, hs0⟩ : ∃ s0, s0 = if m > mid then mid + m - b else a := ⟨_, rfl⟩
    obtain ⟨r0, hr0⟩ : ∃ r0, r0 = if m > mid then mid else m := ⟨_, rfl⟩
    have rng : a ≤ s0 ∧ s0 ≤ r0 ∧ r0 ≤ m ∧ mid + m - s0 ≤ b ∧ m ≤ mid + m - r0 := by
      rw [hs0, hr0]; split <;> omega
    refine za7 _ _ _ _ _ _ _ _
      (fun _ _ _ => True) (fun _ _ _ => 0) (fun _ _ _ => True) (fun _ _ _ => 0) (fun _ _ _ => True) (fun _ _ _ => 0) (fun _ _ _ => True) (fun _ _ _ => 0)
      (fun i j s => s = i32s (P ++ (X ++ (Y ++ R))) ∧ s0 ≤ i ∧ i ≤ j ∧ j ≤ r0 ∧ (∀ c, s0 ≤ c → c < i → ¬ key (Y.getD (mid - 1 - c).toNat 0) < key (X.getD (c - a).toNat 0)) ∧ (∀ c, j ≤ c → c < r0 → key (Y.getD (mid - 1 - c).toNat 0) < key (X.getD (c - a).toNat 0))) (fun i j _ => (j - i).toNat) ?_
    unfold zal
    have w1 : IntKind.i64.wrap (m - a) = X.length := by rw [zaa (by omega) (by omega)]; omega
    have w2 : IntKind.i64.wrap (b - m) = Y.length := by rw [zaa (by omega) (by omega)]; omega
    have w3 : IntKind.i64.wrap (mid + m) = mid + m := zaa (by omega) (by omega)
    have w4 : IntKind.i64.wrap (mid + m - b) = mid + m - b := zaa (by omega) (by omega)
    have w5 : IntKind.i64.wrap (mid + m - 1) = mid + m - 1 := zaa (by omega) (by omega)
    rw [w1, w2, mid2 ha (by omega) (by omega), ← hmid, w3, w4, w5]
    -- what the loop is, and what follows it
    have body : ∀ (x20 x21 : Int) (s : List (List PV)), (s = i32s (P ++ (X ++ (Y ++ R))) ∧ s0 ≤ x20 ∧ x20 ≤ x21 ∧ x21 ≤ r0 ∧ (∀ c, s0 ≤ c → c < x20 → ¬ key (Y.getD (mid - 1 - c).toNat 0) < key (X.getD (c - a).toNat 0)) ∧ (∀ c, x21 ≤ c → c < r0 → key (Y.getD (mid - 1 - c).toNat 0) < key (X.getD (c - a).toNat 0))) →
        (x20 < x21 → ∃ h, h = (x20 + x21) / 2 ∧ IntKind.i64.wrap (mid + m - 1 - h) = mid + m - 1 - h ∧ IntKind.i64.wrap (h + 1) = h + 1 ∧ (0 ≤ mid + m - 1 - h ∧ mid + m - 1 - h < (hi : Int) - lo ∧ (s.getD (lo + (mid + m - 1 - h).toNat) []).length = 1) ∧ (0 ≤ h ∧ h < (hi : Int) - lo ∧ (s.getD (lo + h.toNat) []).length = 1) ∧
          ∃ n n1, (List.drop 0 (s.getD (lo + (mid + m - 1 - h).toNat) [])).head? = some (PV.int .i32 n) ∧ (List.drop 0 (s.getD (lo + h.toNat) [])).head? = some (PV.int .i32 n1) ∧ (-2147483648 ≤ n ∧ n ≤ 2147483647) ∧ (-2147483648 ≤ n1 ∧ n1 ≤ 2147483647) ∧
          (¬ key n < key n1 → (s = i32s (P ++ (X ++ (Y ++ R))) ∧ s0 ≤ h + 1 ∧ h + 1 ≤ x21 ∧ x21 ≤ r0 ∧ (∀ c, s0 ≤ c → c < h + 1 → ¬ key (Y.getD (mid - 1 - c).toNat 0) < key (X.getD (c - a).toNat 0)) ∧ (∀ c, x21 ≤ c → c < r0 → key (Y.getD (mid - 1 - c).toNat 0) < key (X.getD (c - a).toNat 0))) ∧ (x21 - (h + 1)).toNat < (x21 - x20).toNat) ∧
          (key n < key n1 → (s = i32s (P ++ (X ++ (Y ++ R))) ∧ s0 ≤ x20 ∧ x20 ≤ h ∧ h ≤ r0 ∧ (∀ c, s0 ≤ c → c < x20 → ¬ key (Y.getD (mid - 1 - c).toNat 0) < key (X.getD (c - a).toNat 0)) ∧ (∀ c, h ≤ c → c < r0 → key (Y.getD (mid - 1 - c).toNat 0) < key (X.getD (c - a).toNat 0))) ∧ (h - x20).toNat < (x21 - x20).toNat)) ∧
        (¬ x20 < x21 → IntKind.i64.wrap (mid + m - x20) = mid + m - x20 ∧ zwo lo hi nl T a x20 m mid (mid + m - x20) b (SymQ key nl T P (X ++ Y) R) s) := by
      rintro i j _ ⟨rfl, i0, hij, hjr, hge, hlt⟩
      refine ⟨fun hc1 => ?_, fun hc1 => ?_⟩
      · obtain ⟨h, hh⟩ : ∃ h, h = (i + j) / 2 := ⟨_, rfl⟩
        have b1 : i ≤ h ∧ h < j := by omega
        have gx := hat h (by omega) (by omega)
        have gy := hbt (mid + m - 1 - h) (by omega) (by omega)
        rw [show (mid + m - 1 - h - m).toNat = (mid - 1 - h).toNat by omega] at gy
        refine ⟨h, hh, zaa (by omega) (by omega), zaa (by omega) (by omega), ⟨by omega, by omega, by rw [za8 gy]; rfl⟩, ⟨by omega, by omega, by rw [za8 gx]; rfl⟩, _, _, by rw [za8 gy]; rfl, by rw [za8 gx]; rfl, zqs hr gy, zqs hr gx, fun hk => ?_, fun hk => ?_⟩
        · refine ⟨⟨rfl, by omega, by omega, hjr, fun c c1 c2 => ?_, hlt⟩, by omega⟩
          have u := hX.get (i := (c - a).toNat) (j := (h - a).toNat) (by omega) (by omega)
          have v := hY.get (i := (mid - 1 - h).toNat) (j := (mid - 1 - c).toNat) (by omega) (by omega)
          omega
        · refine ⟨⟨rfl, i0, by omega, by omega, hge, fun c c1 c2 => ?_⟩, by omega⟩
          have u := hX.get (i := (h - a).toNat) (j := (c - a).toNat) (by omega) (by omega)
          have v := hY.get (i := (mid - 1 - c).toNat) (j := (mid - 1 - h).toNat) (by omega) (by omega)
          omega
      · have hij2 : i = j := by omega
        subst hij2
        refine ⟨zaa (by omega) (by omega), ?_⟩
        have l1 : (X.take (i - a).toNat).length = (i - a).toNat := by rw [List.length_take]; omega
        have l2 : (X.drop (i - a).toNat).length = X.length - (i - a).toNat := List.length_drop
        have l3 : (Y.take (mid - i).toNat).length = (mid - i).toNat := by rw [List.length_take]; omega
        have l4 : (Y.drop (mid - i).toNat).length = Y.length - (mid - i).toNat := List.length_drop
        have eX : X.take (i - a).toNat ++ X.drop (i - a).toNat = X := List.take_append_drop _ _
        have eY : Y.take (mid - i).toNat ++ Y.drop (mid - i).toNat = Y := List.take_append_drop _ _
        have tk : ∀ (L : List Int) (k q : Nat), q < k → (L.take k).getD q 0 = L.getD q 0 := fun L k q h => by simp only [List.getD]; rw [List.getElem?_take_of_lt h]
        have dk : ∀ (L : List Int) (k q : Nat), (L.drop k).getD q 0 = L.getD (k + q) 0 := fun L k q => by simp only [List.getD, List.getElem?_drop]
        have f1 : ∀ x ∈ X.drop (i - a).toNat, ∀ y ∈ Y.take (mid - i).toNat, key y < key x := fun x hx y hy => by
          obtain ⟨q, hq, rfl⟩ := zew hx
          obtain ⟨p, hp, rfl⟩ := zew hy
          rw [l2] at hq
          rw [l3] at hp
          rw [tk _ _ _ hp, dk]
          have hir : i < r0 := by rw [hr0]; split <;> omega
          have k0 := hlt i (Int.le_refl _) hir
          have u := hX.get (i := (i - a).toNat) (j := (i - a).toNat + q) (by omega) (by omega)
          have v := hY.get (i := p) (j := (mid - 1 - i).toNat) (by omega) (by omega)
          omega
        have f2 : ∀ x ∈ X.take (i - a).toNat, ∀ y ∈ Y.drop (mid - i).toNat, key x ≤ key y := fun x hx y hy => by
          obtain ⟨q, hq, rfl⟩ := zew hx
          obtain ⟨p, hp, rfl⟩ := zew hy
          rw [l1] at hq
          rw [l4] at hp
          rw [tk _ _ _ hq, dk]
          have his : s0 ≤ i - 1 := by rw [hs0]; split <;> omega
          have k0 := hge (i - 1) his (by omega)
          rw [show (mid - 1 - (i - 1)).toNat = (mid - i).toNat by omega] at k0
          have u := hX.get (i := q) (j := (i - 1 - a).toNat) (by omega) (by omega)
          have v := hY.get (i := (mid - i).toNat) (j := (mid - i).toNat + p) (by omega) (by omega)
          omega
        have := z1d lo hi nl (N := N) ih hlen P (X.take (i - a).toNat) (X.drop (i - a).toNat) (Y.take (mid - i).toNat) (Y.drop (mid - i).toNat) R a i m mid (mid + m - i) b ha hP (by omega) (by omega) (by omega) (by omega) (by omega) hhi
          (by rw [← List.append_assoc (Y.take _), eY, ← List.append_assoc (X.take _), eX]; exact hr) (by rw [eX]; exact hX) (by rw [eY]; exact hY) f1 f2 (by omega) (by omega)
        rw [← List.append_assoc (Y.take _) _ R, eY, ← List.append_assoc (X.take _) _ (Y ++ R), eX] at this
        exact this
    refine iteF (by simp; omega) (iteF (by simp; omega) ?_)
    refine iteD (fun hm2 => ?_) (fun hm2 => ?_)
    · simp only [decide_eq_true_eq] at hm2
      rw [if_pos hm2] at hs0 hr0
      refine ⟨⟨rfl, rfl, by omega, by omega, by omega, fun c c1 c2 => by omega, fun c c1 c2 => by omega⟩, ?_⟩
      rintro i j s hJ
      obtain ⟨b1, b2⟩ := body i j s hJ
      refine iteD (fun hc1 => ?_) (fun hc1 => ?_)
      · simp only [decide_eq_true_eq] at hc1
        obtain ⟨h, hh, e1, e2, e3, e4, n, n1, g1, g2, r1, r2, k1, k2⟩ := b1 hc1
        rw [mid2 (by omega) (by omega) (by omega), ← hh, e1, e2]
        refine ⟨e3, n, g1, e4, n1, g2, ?_⟩
        refine (hc n n1 r1 r2).mono ?_
        rintro _ ⟨n2, rfl, hn2⟩
        refine ⟨n2, rfl, rfl, iteD (fun hl => ?_) (fun hl => ?_)⟩
        · simp only [Bool.not_eq_true', decide_eq_false_iff_not] at hl
          obtain ⟨q1, q2⟩ := k1 fun h => hl (hn2.2 h)
          exact ⟨rfl, q1, q2⟩
        · simp only [Bool.not_eq_true', decide_eq_false_iff_not, Decidable.not_not] at hl
          obtain ⟨q1, q2⟩ := k2 (hn2.1 hl)
          exact ⟨rfl, q1, q2⟩
      · simp only [decide_eq_true_eq] at hc1
        obtain ⟨e1, e2⟩ := b2 hc1
        rw [e1]
        exact e2
    · simp only [decide_eq_true_eq] at hm2
      rw [if_neg hm2] at hs0 hr0
      refine ⟨⟨rfl, rfl, by omega, by omega, by omega, fun c c1 c2 => by omega, fun c c1 c2 => by omega⟩, ?_⟩
      rintro i j s hJ
      obtain ⟨b1, b2⟩ := body i j s hJ
      refine iteD (fun hc1 => ?_) (fun hc1 => ?_)
      · simp only [decide_eq_true_eq] at hc1
        obtain ⟨h, hh, e1, e2, e3, e4, n, n1, g1, g2, r1, r2, k1, k2⟩ := b1 hc1
        rw [mid2 (by omega) (by omega) (by omega), ← hh, e1, e2]
        refine ⟨e3, n, g1, e4, n1, g2, ?_⟩
        refine (hc n n1 r1 r2).mono ?_
        rintro _ ⟨n2, rfl, hn2⟩
        refine ⟨n2, rfl, rfl, iteD (fun hl => ?_) (fun hl => ?_)⟩
        · simp only [Bool.not_eq_true', decide_eq_false_iff_not] at hl
          obtain ⟨q1, q2⟩ := k1 fun h => hl (hn2.2 h)
          exact ⟨rfl, q1, q2⟩
        · simp only [Bool.not_eq_true', decide_eq_false_iff_not, Decidable.not_not] at hl
          obtain ⟨q1, q2⟩ := k2 (hn2.1 hl)
          exact ⟨rfl, q1, q2⟩
      · simp only [decide_eq_true_eq] at hc1
        obtain ⟨e1, e2⟩ := b2 hc1
        rw [e1]
        exact e2
end
end Go.Eng



namespace Go.Eng
open Go Go.Proofs Go.Eng.Rows Go.Eng.Srt
section
variable {key : Int → Int} {T : PV}
def zrt (key : Int → Int) (k : Nat) (Bs : List (List Int)) : Prop := ∀ B ∈ Bs, B.length = k ∧ Srtd key B
theorem zru {k : Nat} : ∀ {Bs : List (List Int)}, zrt key k Bs → Bs.flatten.length = k * Bs.length
  | [], _ => by simp
  | B :: Bs, h => by
    rw [List.flatten_cons, List.length_append, (h B List.mem_cons_self).1, zru (Bs := Bs) fun C hC => h C (List.mem_cons_of_mem _ hC), List.length_cons, Nat.mul_add]; omega
theorem zja (Bs : List (List Int)) : Bs = [] ∨ (∃ X, Bs = [X]) ∨ ∃ X Y Bs', Bs = X :: Y :: Bs' := by
  match Bs with
  | [] => exact .inl rfl
  | [X] => exact .inr (.inl ⟨X, rfl⟩)
  | X :: Y :: Bs' => exact .inr (.inr ⟨X, Y, Bs', rfl⟩)
theorem ztd {k : Nat} {Bs : List (List Int)} {B : List Int} (h : zrt key k Bs) (hl : B.length = k) (hs : Srtd key B) : zrt key k (Bs ++ [B]) := fun C hC => by
  rcases List.mem_append.1 hC with hC | hC
  · exact h C hC
  · simp only [List.mem_singleton] at hC; subst hC; exact ⟨hl, hs⟩
theorem zo5 {P S R S' : List Int} (h : R32 (P ++ (S ++ R))) (k : Stab key S S') : R32 (P ++ (S' ++ R)) := h.of fun x hx => by
  simp only [List.mem_append] at hx ⊢
  rcases hx with hx | hx | hx
  · exact .inl hx
  · exact .inr (.inl (k.mem.2 hx))
  · exact .inr (.inr hx)
theorem z1e (hc : zmv T key) (lo hi : Nat) (nl : Bool) (P S R : List Int) (hP : P.length = lo) (hS : hi = lo + S.length) (hr : R32 (P ++ (S ++ R))) (hlen : hi < 1000000000000) :
    ACall Try.prog 96 [.sub 0 lo hi, .pv (.int .i64 ((hi - lo : Nat) : Int)), .fn 74 [.box 1 0]] (hpS nl T (i32s (P ++ (S ++ R)))) (SymQ key nl T P S R) := by
  have hl1 : ∀ {u v : List Int}, u.length = v.length → (i32s u).length = (i32s v).length := fun h => by simp [h]
  obtain ⟨n, hn⟩ : ∃ n : Int, n = ((hi - lo : Nat) : Int) := ⟨_, rfl⟩
  rw [← hn]
  have hnS : n = S.length := by omega
  refine zed _ _ _ _ _ _
    (fun a b s => b = a + 20 ∧ 0 ≤ a ∧ ∃ Bs C, s = i32s (P ++ (Bs.flatten ++ C ++ R)) ∧ zrt key 20 Bs ∧ (Bs.flatten.length : Int) = a ∧ Stab key S (Bs.flatten ++ C)) (fun a _ _ => (n + 1 - a).toNat)
    (fun k s => 0 < k ∧ ∃ Bs C, s = i32s (P ++ (Bs.flatten ++ C ++ R)) ∧ zrt key k.toNat Bs ∧ Srtd key C ∧ (C.length : Int) < k ∧ Stab key S (Bs.flatten ++ C)) (fun k _ => (n - k).toNat)
    (fun k _ _ _ k' a b s => k = k' ∧ b = a + 2 * k ∧ 0 ≤ a ∧ ∃ B2 Bs C, s = i32s (P ++ (B2.flatten ++ (Bs.flatten ++ C) ++ R)) ∧ zrt key (2 * k).toNat B2 ∧ zrt key k.toNat Bs ∧ Srtd key C ∧ (C.length : Int) < k ∧ (B2.flatten.length : Int) = a ∧ Stab key S (B2.flatten ++ (Bs.flatten ++ C))) (fun k a _ _ => (n + 1 - a).toNat) ?_
  unfold zbf
  refine ⟨⟨rfl, rfl, Int.le_refl _, [], S, by simp, fun B hB => (by cases hB), rfl, by simpa using Stab.refl S⟩, ?_⟩
  rintro a b _ ⟨rfl, a0, Bs, C, rfl, hBs, hBl, hst⟩
  have hsl := hst.len
  rw [List.length_append] at hsl
  refine iteD (fun hc1 => ?_) (fun hc1 => ?_)
  · simp only [decide_eq_true_eq] at hc1
    have wa : IntKind.i64.wrap (a + 20 + 20) = a + 20 + 20 := zaa (by omega) (by omega)
    rw [wa]
    have hC : C.take 20 ++ C.drop 20 = C := List.take_append_drop _ _
    have hCl : (C.take 20).length = 20 := by rw [List.length_take]; omega
    have e1 : P ++ (Bs.flatten ++ C ++ R) = (P ++ Bs.flatten) ++ C.take 20 ++ (C.drop 20 ++ R) := by
      rw [show Bs.flatten ++ C ++ R = Bs.flatten ++ ((C.take 20 ++ C.drop 20) ++ R) by rw [hC]; simp]
      simp only [List.append_assoc]
    have := aIns hc lo hi nl (P ++ Bs.flatten) (C.take 20) (C.drop 20 ++ R) a (a + 20) a0 (by rw [List.length_append]; omega) (by omega) (by omega) (by rw [← e1]; exact zo5 hr hst) hlen
    rw [e1]
    refine this.mono ?_
    rintro r h' ⟨S1, rfl, rfl, s1, k1⟩
    have k1l := k1.len
    refine ⟨_, ⟨rfl, rfl⟩, ⟨trivial, ⟨rfl, rfl, hl1 (by simp only [List.length_append]; omega)⟩, trivial⟩, rfl, ⟨rfl, by omega, Bs ++ [S1], C.drop 20, by simp, ztd hBs (by omega) s1, by simp only [List.flatten_append, List.flatten_cons, List.flatten_nil, List.append_nil, List.length_append]; omega, ?_⟩, by dsimp only; omega⟩
    refine hst.trans ?_
    have := (Stab.refl (key := key) Bs.flatten).app (k1.app (Stab.refl (C.drop 20)))
    rw [hC] at this
    simpa using this
  · simp only [decide_eq_true_eq] at hc1
    have e1 : P ++ (Bs.flatten ++ C ++ R) = (P ++ Bs.flatten) ++ C ++ R := by simp
    have := aIns hc lo hi nl (P ++ Bs.flatten) C R a n a0 (by rw [List.length_append]; omega) (by omega) (by omega) (by rw [← e1]; exact zo5 hr hst) hlen
    rw [e1]
    refine this.mono ?_
    rintro r h' ⟨C1, rfl, rfl, s1, k1⟩
    have k1l := k1.len
    refine ⟨_, ⟨rfl, rfl⟩, ⟨trivial, ⟨rfl, rfl, hl1 (by simp only [List.length_append]; omega)⟩, trivial⟩, ⟨rfl, by omega, Bs, C1, by simp, hBs, s1, by omega, hst.trans ((Stab.refl _).app k1)⟩, ?_⟩
    clear hBs hBl hst hsl hc1 e1 this s1 k1 k1l
    rintro k _ ⟨k0, Bs, C, rfl, hBs, hCs, hCk, hst⟩
    have hsl := hst.len
    rw [List.length_append] at hsl
    have hbl := zru hBs
    refine iteD (fun hc2 => ?_) (fun hc2 => ?_)
    · simp only [decide_eq_true_eq] at hc2
      have w2 : IntKind.i64.wrap (2 * k) = 2 * k := zaa (by omega) (by omega)
      have w3 : IntKind.i64.wrap (k * 2) = 2 * k := by rw [zaa (by omega) (by omega)]; omega
      rw [w2]
      refine ⟨⟨rfl, rfl, by omega, Int.le_refl _, [], Bs, C, by simp, fun B hB => (by cases hB), hBs, hCs, hCk, rfl, by simpa using hst⟩, ?_⟩
      clear hBs hCs hCk hst hsl hbl
      rintro _ a b _ ⟨rfl, rfl, a0, B2, Bs, C, rfl, hB2, hBs, hCs, hCk, hBl, hst⟩
      have hsl := hst.len
      rw [List.length_append, List.length_append] at hsl
      have hbl := zru hBs
      have hRs : R32 (P ++ (B2.flatten ++ (Bs.flatten ++ C) ++ R)) := zo5 hr hst
      rw [w2, w3]
      have hkn : (k.toNat : Int) = k := by omega
      refine iteD (fun hc3 => ?_) (fun hc3 => ?_)
      · simp only [decide_eq_true_eq] at hc3
        have w4 : IntKind.i64.wrap (a + k) = a + k := zaa (by omega) (by omega)
        have w5 : IntKind.i64.wrap (a + 2 * k + 2 * k) = a + 2 * k + 2 * k := zaa (by omega) (by omega)
        rw [w4, w5]
        obtain ⟨X, Y, Bs', rfl⟩ : ∃ X Y Bs', Bs = X :: Y :: Bs' := by
          rcases zja Bs with rfl | ⟨X, rfl⟩ | h
          · simp only [List.flatten_nil, List.length_nil] at hsl; omega
          · have h1 := (hBs X (by simp)).1
            simp only [List.flatten_cons, List.flatten_nil, List.append_nil] at hsl; omega
          · exact h
        obtain ⟨hXl, hXs⟩ := hBs X (by simp)
        obtain ⟨hYl, hYs⟩ := hBs Y (by simp)
        have nx : X ≠ [] := fun h => by subst h; simp at hXl; omega
        have ny : Y ≠ [] := fun h => by subst h; simp at hYl; omega
        have e1 : P ++ (B2.flatten ++ ((X :: Y :: Bs').flatten ++ C) ++ R) = (P ++ B2.flatten) ++ (X ++ (Y ++ (Bs'.flatten ++ C ++ R))) := by simp
        have := zzm hc lo hi nl hlen (2 * k + 1).toNat (P ++ B2.flatten) X Y (Bs'.flatten ++ C ++ R) a (a + k) (a + 2 * k) a0 (by rw [List.length_append]; omega) (by omega) (by omega) nx ny (by omega) (by rw [← e1]; exact hRs) hXs hYs (by omega)
        rw [e1]
        refine this.mono ?_
        rintro r h' ⟨S1, rfl, rfl, s1, k1⟩
        have k1l := k1.len
        rw [List.length_append] at k1l
        refine ⟨_, ⟨rfl, rfl⟩, ⟨trivial, ⟨rfl, rfl, hl1 (by simp only [List.length_append]; omega)⟩, trivial⟩, rfl, ⟨rfl, rfl, by omega, B2 ++ [S1], Bs', C, by simp, ztd hB2 (by omega) s1, fun B hB => hBs B (by simp [hB]), hCs, hCk, by simp only [List.flatten_append, List.flatten_cons, List.flatten_nil, List.append_nil, List.length_append]; omega, ?_⟩, by dsimp only; omega⟩
        refine hst.trans ?_
        have := (Stab.refl (key := key) B2.flatten).app (k1.app (Stab.refl (Bs'.flatten ++ C)))
        simpa using this
      · simp only [decide_eq_true_eq] at hc3
        have w4 : IntKind.i64.wrap (a + k) = a + k := zaa (by omega) (by omega)
        rw [w4]
        refine iteD (fun hc4 => ?_) (fun hc4 => ?_)
        · simp only [decide_eq_true_eq] at hc4
          obtain ⟨X, rfl⟩ : ∃ X, Bs = [X] := by
            rcases zja Bs with rfl | h | ⟨X, Y, Bs', rfl⟩
            · simp only [List.flatten_nil, List.length_nil] at hsl; omega
            · exact h
            · have h1 := (hBs X (by simp)).1
              have h2 := (hBs Y (by simp)).1
              simp only [List.flatten_cons, List.length_append] at hsl
              omega
          obtain ⟨hXl, hXs⟩ := hBs X (by simp)
          have nx : X ≠ [] := fun h => by subst h; simp at hXl; omega
          simp only [List.flatten_cons, List.flatten_nil, List.append_nil] at hsl hst
          have ny : C ≠ [] := fun h => by subst h; simp only [List.length_nil] at hsl; omega
          have e1 : P ++ (B2.flatten ++ ([X].flatten ++ C) ++ R) = (P ++ B2.flatten) ++ (X ++ (C ++ R)) := by simp
          have := zzm hc lo hi nl hlen (2 * k + 1).toNat (P ++ B2.flatten) X C R a (a + k) n a0 (by rw [List.length_append]; omega) (by omega) (by omega) nx ny (by omega) (by rw [← e1]; exact hRs) hXs hCs (by omega)
          rw [e1]
          refine this.mono ?_
          rintro r h' ⟨S1, rfl, rfl, s1, k1⟩
          have k1l := k1.len
          rw [List.length_append] at k1l
          exact ⟨_, ⟨rfl, rfl⟩, ⟨trivial, ⟨rfl, rfl, hl1 (by simp only [List.length_append]; omega)⟩, trivial⟩, rfl, ⟨by omega, B2, S1, by simp, hB2, s1, by omega, hst.trans ((Stab.refl _).app k1)⟩, by dsimp only; omega⟩
        · simp only [decide_eq_true_eq] at hc4
          have hCs2 : Srtd key (Bs.flatten ++ C) ∧ ((Bs.flatten ++ C).length : Int) < 2 * k := by
            rcases zja Bs with rfl | ⟨X, rfl⟩ | ⟨X, Y, Bs', rfl⟩
            · exact ⟨by simpa using hCs, by simp; omega⟩
            · have h1 := hBs X (by simp)
              simp only [List.flatten_cons, List.flatten_nil, List.append_nil] at hsl ⊢
              have hC0 : C = [] := List.length_eq_zero_iff.1 (by omega)
              subst hC0
              exact ⟨by simpa using h1.2, by simp; omega⟩
            · exfalso
              have h1 := (hBs X (by simp)).1
              have h2 := (hBs Y (by simp)).1
              simp only [List.flatten_cons, List.length_append] at hsl
              omega
          exact ⟨rfl, ⟨by omega, B2, Bs.flatten ++ C, by simp, hB2, hCs2.1, hCs2.2, hst⟩, by dsimp only; omega⟩
    · simp only [decide_eq_true_eq] at hc2
      have hz : Srtd key (Bs.flatten ++ C) := by
        rcases zja Bs with rfl | ⟨X, rfl⟩ | ⟨X, Y, Bs', rfl⟩
        · simpa using hCs
        · have h1 := hBs X (by simp)
          simp only [List.flatten_cons, List.flatten_nil, List.append_nil] at hsl ⊢
          have hC0 : C = [] := List.length_eq_zero_iff.1 (by omega)
          subst hC0
          simpa using h1.2
        · exfalso
          have h1 := (hBs X (by simp)).1
          have h2 := (hBs Y (by simp)).1
          simp only [List.flatten_cons, List.length_append] at hsl
          omega
      exact ⟨Bs.flatten ++ C, rfl, rfl, hz, hst⟩
theorem zrv (hc : zmv T key) (lo hi : Nat) (nl : Bool) (P S R : List Int) (hP : P.length = lo) (hS : hi = lo + S.length) (hr : R32 (P ++ (S ++ R))) (hlen : hi < 1000000000000) :
    ACall Try.prog 73 [.sub 0 lo hi, .fn 74 [.box 1 0]] (hpS nl T (i32s (P ++ (S ++ R)))) (SymQ key nl T P S R) := by
  refine zc0 _ _ _ _ _ ?_
  unfold za0
  refine (z1e hc lo hi nl P S R hP hS hr hlen).mono ?_
  rintro r h' ⟨S1, rfl, rfl, s1, k1⟩
  exact ⟨_, ⟨rfl, rfl⟩, ⟨trivial, ⟨rfl, rfl, by have := k1.len; simp; omega⟩, trivial⟩, S1, rfl, rfl, s1, k1⟩
end
end Go.Eng



namespace Go.Eng
open Go Go.Proofs Go.Eng.Rows Go.Eng.Srt
section
variable {Z : World → (Nat → Prop) → (Nat → Pl) → Hp → Prop} {key : Int → Int} {nl : Bool} {T : PV} {l : Nat}
def YQ (key : Int → Int) (L : List Int) (f i : Nat) (L' : List Int) : Prop := ∃ S', L' = L.take f ++ (S' ++ L.drop i) ∧ Srtd key S' ∧ Stab key ((L.take i).drop f) S'
def zrw (Z : World → (Nat → Prop) → (Nat → Pl) → Hp → Prop) (key : Int → Int) (nl : Bool) (T : PV) (l N0 : Nat) : Prop :=
  ∀ (w : World) (I : Nat → Prop) (G : Nat → Pl) (L : List Int) (f i : Nat), HRel w I G (hpO nl T (i32s L)) → Z w I G (hpO nl T (i32s L)) → f + 1 < i → i ≤ L.length → R32 L → L.length < 1000000000000 → L.length = N0 →
    ∃ fn tmps assign body, (Instr.yield l #[.int .i64 f, .int .i64 i]).run Try.prog w = .ok (.round l fn tmps assign body) w ∧ RoundIn Fence.wide 0 Try.prog l fn tmps assign body w fun e w' =>
      e = .returned (.bool true) ∧ ∃ L' I' G', YQ key L f i L' ∧ HRel w' I' G' (hpO nl T (i32s L')) ∧ Keeps w I w' I' ∧ Like G G' (hpO nl T (i32s L)) (hpO nl T (i32s L')) ∧ Z w' I' G' (hpO nl T (i32s L'))
def o8 (ops : Array Oper) : Oper := ops.toList.getD 8 default
theorem e6a (y : Value) (es : List (List PV)) (i f : Int) (K : Env → Hp → Prop) : aOps Try.prog (fun _ => none) 39 (cOps (cR6 Try.f95)).toList ((cOps (cR6 Try.f95)).toList.take 8) (eM y i f) (hpO nl T es) K =
    K ((35, LV.spec 32 true (.pv (.int .i64 i))) :: (34, LV.spec 32 true (.pv (.int .i64 f))) :: (33, LV.spec 32 true (.pv (.raw y))) :: (32, .pv (.bool (decide (IntKind.i64.wrap (i - f) > (1 : Int))))) :: (31, .pv (.bool (decide (IntKind.i64.wrap (i - f) > (1 : Int))))) ::
      (30, .pv (.int .i64 (IntKind.i64.wrap (i - f)))) :: (29, .pv (.int .i64 f)) :: (28, .pv (.int .i64 i)) :: eM y i f) (hpO nl T es) := by kernel_rfl
theorem e6b (y : Value) (es : List (List PV)) (i f : Int) (K : Env → Hp → Prop) : aOps Try.prog (fun _ => none) 39 (cOps (cR6 Try.f95)).toList ((cOps (cR6 Try.f95)).toList.drop 9) ((36, .pv (.bool true)) :: (32, .pv (.bool true)) :: eM y i f) (hpO nl T es) K =
    K ((38, .pv (.bool false)) :: (37, .spec 32 true (.pv (.bool false))) :: (36, .pv (.bool true)) :: (32, .pv (.bool true)) :: eM y i f) (hpO nl T es) := by kernel_rfl
theorem e6c (y : Value) (es : List (List PV)) (i f : Int) (K : Env → Hp → Prop) : aOps Try.prog (fun _ => none) 39 (cOps (cR6 Try.f95)).toList ((cOps (cR6 Try.f95)).toList.drop 9) ((32, .pv (.bool false)) :: eM y i f) (hpO nl T es) K =
    K ((38, .pv (.bool false)) :: (37, .pv .unit) :: (32, .pv (.bool false)) :: (32, .pv (.bool false)) :: eM y i f) (hpO nl T es) := by kernel_rfl
theorem zwp : cR6 Try.f95 = .region 6 (cOps (cR6 Try.f95)) false := by kernel_rfl
theorem zum : (cOps (cR6 Try.f95)).size = 11 ∧ zex (cOps (cR6 Try.f95)).toList = true ∧ (cOps (cR6 Try.f95)).toList.length = 11 ∧ (cOps (cR6 Try.f95))[8]? = some (o8 (cOps (cR6 Try.f95))) ∧
    (o8 (cOps (cR6 Try.f95))).dst = some 36 ∧ (o8 (cOps (cR6 Try.f95))).guard = some (4, true) ∧ (o8 (cOps (cR6 Try.f95))).op = .call { callee := .value (.tmp 33), args := #[.tmp 34, .tmp 35], argTypes := #[3, 3] } ∧
    ((cOps (cR6 Try.f95))[4]?).bind (·.dst) = some 32 :=
  ⟨by kernel_rfl, by kernel_rfl, by kernel_rfl, by kernel_rfl, by kernel_rfl, by kernel_rfl, by kernel_rfl, by kernel_rfl⟩
theorem zqt {F : Fence} {n : Nat} {P : Program} {ops : Array Oper} {Q : Exit → Act → World → Prop} {i : Nat} {rest : List Nat} {a : Act} {w : World} {o : Oper} (ho : ops[i]? = some o)
    (h : if Region.wanted o (yielded ops a.tmps) then o.wpIn F n P a w (wpOpsIn F n P ops Q rest) Q else (∀ f, o.about P w a.eval = some f → F.fn f) ∧ wpOpsIn F n P ops Q rest (a.put o.dst undef) w) : wpOpsIn F n P ops Q (i :: rest) a w := by
  simp only [wpOpsIn, ho]; exact h
theorem zyx {w : World} {I : Nat → Prop} {G : Nat → Pl} {h : Hp} {tm : Array Value} {s : Nat} {b : Bool} (hr : LRel w I G h (.pv (.bool b)) (tm.getD s undef)) : tm[s]? = some (.bool b) := by
  have := hr.bool_eq
  rw [Array.getD_eq_getD_getElem?] at this
  cases hx : tm[s]? with
  | none => rw [hx] at this; simp [undef] at this
  | some v => rw [hx] at this; simpa using this
theorem LRel.raw_eq {w : World} {I : Nat → Prop} {G : Nat → Pl} {h : Hp} {v cv : Value} (hr : LRel w I G h (.pv (.raw v)) cv) : cv = v := by cases hr with | pv _ _ h1 => cases h1; rfl
theorem reg6 {N0 : Nat} (hY : zrw Z key nl T l N0) (hZ : ∀ w I G h w' I' G' h', Z w I G h → HRel w I G h → HRel w' I' G' h' → TrN 5 w I G h w' I' G' h' → Z w' I' G' h') (L : List Int) (f i : Nat) (hf : f ≤ i) (hi : i ≤ L.length) (hr : R32 L) (hL : L.length < 1000000000000) (hN : L.length = N0) :
    CodeZ Z Try.prog 39 (cR6 Try.f95) (eM (.func (.yield l) #[] #[]) i f) (hpO nl T (i32s L)) fun x e h => ∃ L', x = .normal ∧ (if f + 1 < i then YQ key L f i L' else L' = L) ∧ e = (38, .pv (.bool false)) :: eM (.func (.yield l) #[] #[]) i f ∧ h = hpO nl T (i32s L') := by
  intro w I G a Qx hs hz hq
  obtain ⟨q1, q2, q3, q4, q5, q6, q7, q8⟩ := zum
  rw [zwp]
  have ea := e6a (nl := nl) (T := T) (.func (.yield l) #[] #[]) (i32s L) i f
  have eb := fun es => e6b (nl := nl) (T := T) (.func (.yield l) #[] #[]) es i f
  have ec := e6c (nl := nl) (T := T) (.func (.yield l) #[] #[]) (i32s L) i f
  generalize cOps (cR6 Try.f95) = O at *
  generalize o8 O = o at *
  have ww : IntKind.i64.wrap ((i : Int) - f) = (i : Int) - f := zaa (by omega) (by omega)
  rw [ww] at ea
  refine wp_mono (Q := fun x a' w' => x = .normal ∧ ∃ L' I' G', (if f + 1 < i then YQ key L f i L' else L' = L) ∧ SRel w' I' G' ((38, .pv (.bool false)) :: eM (.func (.yield l) #[] #[]) i f) (hpO nl T (i32s L')) 39 a' ∧ a'.defers = a.defers ∧ Z w' I' G' (hpO nl T (i32s L'))) ((wpIn_wide (n := 0)).1 (wpIn_region (F := wd none) ?_)) ?_
  rotate_left
  · rintro x a' w' ⟨rfl, L', I', G', h1, h2, h3, h4⟩
    exact hq .normal _ _ w' I' G' a' ⟨L', rfl, h1, rfl, rfl⟩ h2 h3 h4
  rw [q1, show List.range 11 = List.range' 0 8 ++ (8 :: List.range' 9 2) from rfl]
  refine zfl ?_
  rw [show (8 : Nat) = (O.toList.take 8).length by simp [q3]]
  have hsuf : ∀ j, j < (O.toList.drop 9).length → (O.toList.drop 9)[j]? = O[9 + j]? := fun j _ => by rw [List.getElem?_drop]; simp
  have hl2 : (O.toList.drop 9).length = 2 := by simp [q3]
  refine z0d (ro := none) q2 (fun j hj => ?_) (by rw [ea]; exact ⟨rfl, rfl⟩ : aOps Try.prog (fun _ => none) 39 O.toList (O.toList.take 8) _ _ (fun e' h' => e' = _ ∧ h' = hpO nl T (i32s L))) hs (fun a w h => nomatch h.1) ?_
  · rw [List.getElem?_take, if_pos (by simp only [List.length_take] at hj; omega)]; simp
  rintro _ _ w1 I1 G1 a1 ⟨rfl, rfl⟩ hs1 hd1 ht1
  rw [show (O.toList.take 8).length = 8 by simp [q3]]
  have hz1 := hZ _ _ _ _ _ _ _ _ hz hs.hh hs1.hh ht1.toN
  have h32 := zyx (hs1.he 32 _ rfl)
  have hyl : yielded O a1.tmps 4 = some (decide ((i : Int) - f > 1)) := by
    unfold yielded
    rw [q8]; simp [h32]
  have hwd : Region.wanted o (yielded O a1.tmps) = decide ((i : Int) - f > 1) := by unfold Region.wanted; rw [q6]; simp [hyl]
  show wpOpsIn (wd none) 0 Try.prog O _ (8 :: List.range' 9 2) a1 w1
  refine zqt q4 ?_
  rw [hwd]
  have hdst : zln 39 o = true := by unfold zln; rw [q5]; rfl
  by_cases hc : f + 1 < i
  · have hd' : decide ((i : Int) - f > 1) = true := by simp; omega
    rw [hd'] at hs1 h32 ⊢
    rw [if_pos rfl]
    refine ⟨fun _ _ => trivial, ?_⟩
    have h32' : a1.tmps.getD 32 undef = .bool true := (hs1.he 32 _ rfl).bool_eq
    have v33 := ((hs1.he 33 _ rfl).1 h32').raw_eq
    have v34 := ((hs1.he 34 _ rfl).1 h32').int_eq
    have v35 := ((hs1.he 35 _ rfl).1 h32').int_eq
    obtain ⟨fn, tmps, assign, body, hy, hR⟩ := hY w1 I1 G1 L f i hs1.hh hz1 hc hi hr hL hN
    have hrun : (o.semAt none a1.eval).run Try.prog w1 = .ok (.round l fn tmps assign body) w1 := by
      rw [Oper.semAt_none]
      unfold execOp
      rw [q7]
      have e33 : a1.eval (.tmp 33) = .func (.yield l) #[] #[] := v33
      have e34 : a1.eval (.tmp 34) = .int .i64 f := v34
      have e35 : a1.eval (.tmp 35) = .int .i64 i := v35
      have hres : resolve a1.eval { callee := .value (.tmp 33), args := #[.tmp 34, .tmp 35], argTypes := #[3, 3] } o.type = pure { target := .fn (.yield l) #[], args := #[.int .i64 f, .int .i64 i] } := by
        simp [resolve, e33, e34, e35, Deferred.ofValue]
      simp only [hres, pure_bind]
      exact hy
    rw [hrun]
    refine ⟨(fun x => by cases x), hR.mono ?_⟩
    rintro e w2 ⟨rfl, L', I2, G2, y1, y2, y3, y4, y5⟩
    have hs2 : SRel w2 I2 G2 ((36, .pv (.bool true)) :: (32, .pv (.bool true)) :: eM (.func (.yield l) #[] #[]) i f) (hpO nl T (i32s L')) 39 (a1.put o.dst (.bool true)) := by
      have s1 : SRel w1 I1 G1 ((32, .pv (.bool true)) :: eM (.func (.yield l) #[] #[]) i f) (hpO nl T (i32s L)) 39 a1 := hs1.le (LeE.le ⟨rfl, rfl, rfl, rfl, rfl, rfl, trivial⟩)
      obtain ⟨p1, p2⟩ := zgl (v := .pv (.bool true)) hdst s1.hn y2 (s1.he.mono y3 y4) (.pv _ _ (.bool true))
      have : put o (.pv (.bool true)) ((32, .pv (.bool true)) :: eM (.func (.yield l) #[] #[]) i f) = (36, .pv (.bool true)) :: (32, .pv (.bool true)) :: eM (.func (.yield l) #[] #[]) i f := by unfold put; rw [q5]; rfl
      rwa [this] at p1
    have := z0d (ro := none) (n := 0) (k := 9) q2 hsuf (by rw [eb]; exact ⟨rfl, rfl⟩ : aOps Try.prog (fun _ => none) 39 O.toList (O.toList.drop 9) _ _ (fun e' h' => e' = _ ∧ h' = hpO nl T (i32s L'))) hs2 (Q := fun x a' w' => x = .normal ∧ ∃ L' I' G', (if f + 1 < i then YQ key L f i L' else L' = L) ∧ SRel w' I' G' ((38, .pv (.bool false)) :: eM (.func (.yield l) #[] #[]) i f) (hpO nl T (i32s L')) 39 a' ∧ a'.defers = a.defers ∧ Z w' I' G' (hpO nl T (i32s L'))) (fun a w h => nomatch h.1) (by
        rintro _ _ w3 I3 G3 a3 ⟨rfl, rfl⟩ hs3 hd3 ht3
        refine ⟨rfl, L', I3, G3, by rw [if_pos hc]; exact y1, hs3.le (LeE.le ⟨rfl, rfl, rfl, rfl, rfl, rfl, trivial⟩), hd3.trans ((by unfold Act.put; cases o.dst <;> rfl : (a1.put o.dst (.bool true)).defers = a1.defers).trans hd1), hZ _ _ _ _ _ _ _ _ y5 hs2.hh hs3.hh ht3.toN⟩)
    rw [hl2] at this
    exact this
  · have hd' : decide ((i : Int) - f > 1) = false := by simp; omega
    rw [hd'] at hs1 h32 ⊢
    rw [if_neg (by simp)]
    refine ⟨fun _ _ => trivial, ?_⟩
    have hlt : 36 < a1.tmps.size := by rw [hs1.hn]; omega
    have hs2 : SRel w1 I1 G1 ((32, .pv (.bool false)) :: eM (.func (.yield l) #[] #[]) i f) (hpO nl T (i32s L)) 39 (a1.put o.dst undef) := by
      have s1 : SRel w1 I1 G1 ((32, .pv (.bool false)) :: eM (.func (.yield l) #[] #[]) i f) (hpO nl T (i32s L)) 39 a1 := hs1.le (LeE.le ⟨rfl, rfl, rfl, rfl, rfl, rfl, trivial⟩)
      obtain ⟨p1, p2⟩ := zgl (v := .bot) (cv := undef) hdst s1.hn s1.hh s1.he (.bot _)
      have : put o .bot ((32, .pv (.bool false)) :: eM (.func (.yield l) #[] #[]) i f) = (36, .bot) :: (32, .pv (.bool false)) :: eM (.func (.yield l) #[] #[]) i f := by unfold put; rw [q5]; rfl
      rw [this] at p1
      exact p1.le (LeE.le ⟨rfl, rfl, rfl, rfl, rfl, rfl, trivial⟩)
    have := z0d (ro := none) (n := 0) (k := 9) q2 hsuf (by rw [ec]; exact ⟨rfl, rfl⟩ : aOps Try.prog (fun _ => none) 39 O.toList (O.toList.drop 9) _ _ (fun e' h' => e' = _ ∧ h' = hpO nl T (i32s L))) hs2 (Q := fun x a' w' => x = .normal ∧ ∃ L' I' G', (if f + 1 < i then YQ key L f i L' else L' = L) ∧ SRel w' I' G' ((38, .pv (.bool false)) :: eM (.func (.yield l) #[] #[]) i f) (hpO nl T (i32s L')) 39 a' ∧ a'.defers = a.defers ∧ Z w' I' G' (hpO nl T (i32s L'))) (fun a w h => nomatch h.1) (by
        rintro _ _ w3 I3 G3 a3 ⟨rfl, rfl⟩ hs3 hd3 ht3
        exact ⟨rfl, L, I3, G3, by rw [if_neg hc], hs3.le (LeE.le ⟨rfl, rfl, rfl, rfl, rfl, rfl, trivial⟩), hd3.trans ((by unfold Act.put; cases o.dst <;> rfl : (a1.put o.dst undef).defers = a1.defers).trans hd1), hZ _ _ _ _ _ _ _ _ hz1 hs2.hh hs3.hh ht3.toN⟩)
    rw [hl2] at this
    exact this
end
end Go.Eng



namespace Go.Eng.Srt
open Go Go.Eng
section
variable (key : Int → Int)
def pas (x y : Int) : Bool := decide (key x ≠ 0) && decide (key x < key y)
def insR (x : Int) : List Int → List Int
  | [] => [x]
  | y :: r => if pas key x y = true then y :: insR x r else x :: y :: r
def ins (l : List Int) (x : Int) : List Int := (insR key x l.reverse).reverse
def ord (l : List Int) : List Int := l.foldl (ins key) []
inductive Eqv : List Int → List Int → Prop
  | refl (a : List Int) : Eqv a a
  | swap (u v w : List Int) (x y : Int) (hx : key x ≠ 0) (hy : key y ≠ 0) (hxy : key x ≠ key y) (h : Eqv (u ++ y :: x :: v) w) : Eqv (u ++ x :: y :: v) w
def zcu : List Int → Prop
  | x :: y :: r => (key y ≠ 0 → key x ≤ key y) ∧ zcu (y :: r)
  | _ => True
end
variable {key : Int → Int}
theorem zjb {x y : Int} : pas key x y = true ↔ key x ≠ 0 ∧ key x < key y := by simp [pas]
theorem zqu {x y : Int} : pas key x y = false ↔ key x = 0 ∨ key y ≤ key x := by
  simp only [pas, Bool.and_eq_false_imp, decide_eq_true_eq, decide_eq_false_iff_not]
  constructor
  · intro h; by_cases h0 : key x = 0
    · exact .inl h0
    · exact .inr (by have := h h0; omega)
  · rintro (h | h) h0
    · exact absurd h h0
    · omega
theorem zwq {x : Int} : ∀ {B A : List Int}, (∀ y ∈ B, pas key x y = true) → (A = [] ∨ ∃ z A', A = z :: A' ∧ pas key x z = false) → insR key x (B ++ A) = B ++ x :: A
  | [], A, _, h => by
    rcases h with rfl | ⟨z, A', rfl, h⟩
    · rfl
    · simp [insR, h]
  | y :: B, A, hB, h => by
    rw [List.cons_append, insR, if_pos (hB y List.mem_cons_self), zwq (fun z hz => hB z (List.mem_cons_of_mem _ hz)) h]; rfl
theorem zny {x : Int} {A B : List Int} (h1 : ∀ y ∈ B, pas key x y = true) (h2 : A = [] ∨ ∃ A' z, A = A' ++ [z] ∧ pas key x z = false) : ins key (A ++ B) x = A ++ x :: B := by
  unfold ins
  rw [List.reverse_append, zwq (fun y hy => h1 y (List.mem_reverse.1 hy)) (h2.elim (fun e => .inl (by rw [e]; rfl)) fun ⟨A', z, e, h⟩ => .inr ⟨z, A'.reverse, by rw [e]; simp, h⟩)]
  simp
theorem zmd (l : List Int) (x : Int) : ∃ A B, l = A ++ B ∧ (∀ y ∈ B, pas key x y = true) ∧ (A = [] ∨ ∃ A' z, A = A' ++ [z] ∧ pas key x z = false) := by
  have : ∀ r : List Int, ∃ B A, r = B ++ A ∧ (∀ y ∈ B, pas key x y = true) ∧ (A = [] ∨ ∃ z A', A = z :: A' ∧ pas key x z = false) := by
    intro r
    induction r with
    | nil => exact ⟨[], [], rfl, (fun y hy => by cases hy), .inl rfl⟩
    | cons y r ih =>
      cases hp : pas key x y with
      | true =>
        obtain ⟨B, A, e, h1, h2⟩ := ih
        exact ⟨y :: B, A, by rw [e]; rfl, fun z hz => by rcases List.mem_cons.1 hz with rfl | hz; exact hp; exact h1 z hz, h2⟩
      | false => exact ⟨[], y :: r, rfl, (fun y hy => by cases hy), .inr ⟨y, r, rfl, hp⟩⟩
  obtain ⟨B, A, e, h1, h2⟩ := this l.reverse
  refine ⟨A.reverse, B.reverse, by rw [← List.reverse_append, ← e]; simp, fun y hy => h1 y (List.mem_reverse.1 hy), h2.elim (fun e => .inl (by rw [e]; rfl)) fun ⟨z, A', e, h⟩ => .inr ⟨A'.reverse, z, by rw [e]; simp, h⟩⟩
theorem zme {l : List Int} {x y : Int} (hx : key x ≠ 0) (hxy : key x < key y) : ins key (ins key l y) x = ins key (ins key l x) y := by
  obtain ⟨B1, B2, rfl, b1, b2⟩ := zmd (key := key) l y
  obtain ⟨C1, C2, rfl, c1, c2⟩ := zmd (key := key) B1 x
  have px : ∀ z ∈ B2, pas key x z = true := fun z hz => zjb.2 ⟨hx, by have := (zjb.1 (b1 z hz)).2; omega⟩
  rw [zny b1 b2]
  have e1 : C1 ++ C2 ++ y :: B2 = C1 ++ (C2 ++ y :: B2) := by simp
  have e2 : C1 ++ C2 ++ B2 = C1 ++ (C2 ++ B2) := by simp
  rw [e1, zny (B := C2 ++ y :: B2) (fun z hz => ?_) c2, e2, zny (B := C2 ++ B2) (fun z hz => ?_) c2]
  · have e3 : C1 ++ x :: (C2 ++ B2) = (C1 ++ x :: C2) ++ B2 := by simp
    rw [e3, zny b1 (.inr ?_)]
    · simp
    · rcases C2.eq_nil_or_concat with rfl | ⟨D, z, rfl⟩
      · exact ⟨C1, x, rfl, zqu.2 (.inr (by omega))⟩
      · refine ⟨C1 ++ x :: D, z, by simp, ?_⟩
        rcases b2 with e | ⟨A', z', e, h⟩
        · simp at e
        · have : z = z' := by
            have := congrArg List.getLast? e
            simp at this; exact this
          rw [this]; exact h
  · rcases List.mem_append.1 hz with hz | hz
    · exact c1 z hz
    · exact px z hz
  · rcases List.mem_append.1 hz with hz | hz
    · exact c1 z hz
    · rcases List.mem_cons.1 hz with rfl | hz
      · exact zjb.2 ⟨hx, hxy⟩
      · exact px z hz
theorem zyy {l : List Int} {x y : Int} (hx : key x ≠ 0) (hy : key y ≠ 0) (hxy : key x ≠ key y) : ins key (ins key l x) y = ins key (ins key l y) x := by
  rcases Int.lt_or_gt_of_ne hxy with h | h
  · exact (zme hx h).symm
  · exact zme hy h
theorem zte (l : List Int) (x : Int) : ord key (l ++ [x]) = ins key (ord key l) x := by simp [ord]
theorem Eqv.trans {a b c : List Int} (h : Eqv key a b) (k : Eqv key b c) : Eqv key a c := by
  induction h with
  | refl a => exact k
  | swap u v w x y hx hy hxy h ih => exact .swap u v c x y hx hy hxy (ih k)
theorem Eqv.app {a b : List Int} (h : Eqv key a b) (p q : List Int) : Eqv key (p ++ (a ++ q)) (p ++ (b ++ q)) := by
  induction h with
  | refl a => exact .refl _
  | swap u v w x y hx hy hxy h ih =>
    have := Eqv.swap (p ++ u) (v ++ q) _ x y hx hy hxy (by simpa using ih)
    simpa using this
theorem Eqv.symm {a b : List Int} (h : Eqv key a b) : Eqv key b a := by
  induction h with
  | refl a => exact .refl _
  | swap u v w x y hx hy hxy h ih => exact ih.trans (.swap u v _ y x hy hx (Ne.symm hxy) (.refl _))
theorem z1f {a b : List Int} (h : Eqv key a b) : ord key a = ord key b := by
  induction h with
  | refl a => rfl
  | swap u v w x y hx hy hxy h ih =>
    rw [← ih]
    simp only [ord, List.foldl_append, List.foldl_cons]
    rw [zyy hx hy hxy]
theorem Eqv.len {a b : List Int} (h : Eqv key a b) : a.length = b.length := by
  induction h with
  | refl a => rfl
  | swap u v w x y hx hy hxy h ih => rw [← ih]; simp
theorem Eqv.mem {a b : List Int} (h : Eqv key a b) {z : Int} : z ∈ a ↔ z ∈ b := by
  induction h with
  | refl a => exact Iff.rfl
  | swap u v w x y hx hy hxy h ih => rw [← ih]; simp only [List.mem_append, List.mem_cons]; exact or_congr_right ⟨fun h => h.elim (fun e => .inr (.inl e)) (fun h => h.elim .inl fun h => .inr (.inr h)), fun h => h.elim (fun e => .inr (.inl e)) (fun h => h.elim .inl fun h => .inr (.inr h))⟩
theorem Eqv.ahead {x : Int} (hx : key x ≠ 0) : ∀ {B : List Int} (q : List Int), (∀ y ∈ B, key y ≠ 0 ∧ key y ≠ key x) → Eqv key (B ++ x :: q) (x :: (B ++ q))
  | [], q, _ => .refl _
  | y :: B, q, h => by
    have h1 := Eqv.ahead hx (B := B) q fun z hz => h z (List.mem_cons_of_mem _ hz)
    have h2 := h1.app [y] []
    simp only [List.append_nil, List.cons_append, List.nil_append] at h2
    obtain ⟨hy, hyx⟩ := h y List.mem_cons_self
    exact h2.trans (.swap [] (B ++ q) _ y x hy hx hyx (.refl _))
theorem z1g (hk : ∀ x, 0 ≤ key x) (l : List Int) (x : Int) : Eqv key (l ++ [x]) (ins key l x) := by
  obtain ⟨A, B, rfl, h1, h2⟩ := zmd (key := key) l x
  rw [zny h1 h2]
  by_cases hB : B = []
  · subst hB; simp; exact .refl _
  · obtain ⟨y, hy⟩ := List.exists_mem_of_ne_nil B hB
    have hx := (zjb.1 (h1 y hy)).1
    have := (Eqv.ahead hx (B := B) [] fun z hz => by have := (zjb.1 (h1 z hz)).2; have := hk x; omega).app A []
    simpa using this
theorem zel {p : List Int → Prop} (h0 : p []) (h1 : ∀ l x, p l → p (l ++ [x])) (l : List Int) : p l := by
  have : ∀ r : List Int, p r.reverse := by
    intro r
    induction r with
    | nil => exact h0
    | cons x r ih => rw [List.reverse_cons]; exact h1 _ _ ih
  have := this l.reverse
  rwa [List.reverse_reverse] at this
theorem zrx (hk : ∀ x, 0 ≤ key x) (l : List Int) : Eqv key l (ord key l) := by
  induction l using zel with
  | h0 => exact .refl _
  | h1 l x ih =>
    rw [zte]
    have := ih.app [] [x]
    exact Eqv.trans (by simpa using this) (z1g hk _ x)
theorem zem : ∀ {A B : List Int}, zcu key (A ++ B) ↔ zcu key A ∧ zcu key B ∧ (∀ z x, A.getLast? = some z → B.head? = some x → key x ≠ 0 → key z ≤ key x)
  | [], B => by simp [zcu]
  | [a], [] => by simp [zcu]
  | [a], b :: B => by simp [zcu, and_comm]
  | a :: c :: A, B => by
    have := zem (A := c :: A) (B := B)
    simp only [List.cons_append, zcu] at this ⊢
    rw [this, List.getLast?_cons_cons, and_assoc]
theorem zwr {l : List Int} (h : zcu key l) : ord key l = l := by
  revert h
  induction l using zel with
  | h0 => exact fun _ => rfl
  | h1 l x ih =>
    intro h
    obtain ⟨q1, q2, q3⟩ := zem.1 h
    rw [zte, ih q1]
    have := zny (key := key) (x := x) (A := l) (B := []) (fun y hy => by cases hy) (by
      rcases l.eq_nil_or_concat with rfl | ⟨D, z, rfl⟩
      · exact .inl rfl
      · refine .inr ⟨D, z, by simp, zqu.2 ?_⟩
        by_cases hx : key x = 0
        · exact .inl hx
        · exact .inr (q3 z x (by simp) rfl hx))
    simpa using this
theorem ztf : ∀ {S' S : List Int}, Stab key S S' → (∀ x ∈ S, key x ≠ 0) → Eqv key S S'
  | [], S, h, _ => by have := h.len; cases S with | nil => exact .refl _ | cons => simp at this
  | y :: r, S, h, h0 => by
    have hf := h.2 (key y)
    rw [List.filter_cons, if_pos (by simp)] at hf
    obtain ⟨A, B, rfl, hA, hB⟩ := List.filter_eq_cons_iff.1 hf
    have hy : key y ≠ 0 := h0 y (by simp)
    have hA' : ∀ z ∈ A, key z ≠ key y := fun z hz => by have := hA z hz; simpa using this
    have e1 := Eqv.ahead hy (B := A) B fun z hz => ⟨h0 z (by simp [hz]), hA' z hz⟩
    have hs : Stab key (A ++ B) r := by
      refine ⟨(List.perm_cons y).1 ((List.perm_middle.symm).trans h.1), fun c => ?_⟩
      have := h.2 c
      rw [List.filter_append, List.filter_cons, List.filter_cons] at this
      rw [List.filter_append]
      by_cases hc : key y = c
      · have hn : A.filter (fun x => decide (key x = c)) = [] := List.filter_eq_nil_iff.2 fun z hz => by simp only [decide_eq_true_eq]; intro e; exact hA' z hz (e.trans hc.symm)
        rw [hn] at this ⊢
        simp only [hc, decide_true, if_true, List.nil_append, List.cons.injEq, true_and] at this
        exact this
      · simp only [hc, decide_false, Bool.false_eq_true, if_false] at this
        exact this
    have e2 := (ztf hs fun z hz => h0 z (by rcases List.mem_append.1 hz with hz | hz <;> simp [hz])).app [y] []
    simp only [List.append_nil, List.cons_append, List.nil_append] at e2
    exact e1.trans e2
theorem znz : ∀ {S : List Int}, Srtd key S → zcu key S
  | [], _ => trivial
  | [a], _ => trivial
  | a :: b :: S, h => ⟨fun _ => (List.pairwise_cons.1 h).1 b List.mem_cons_self, znz (List.pairwise_cons.1 h).2⟩
theorem cut3 (L : List Int) {i j : Nat} (hij : i ≤ j) (hj : j ≤ L.length) : L = L.take i ++ ((L.take j).drop i ++ L.drop j) ∧ (L.take i).length = i ∧ ((L.take j).drop i).length = j - i := by
  refine ⟨?_, by rw [List.length_take]; omega, by rw [List.length_drop, List.length_take]; omega⟩
  have h1 : L = L.take j ++ L.drop j := (List.take_append_drop j L).symm
  have h2 : L.take j = (L.take j).take i ++ (L.take j).drop i := (List.take_append_drop i _).symm
  rw [List.take_take, Nat.min_eq_left hij] at h2
  rw [← List.append_assoc, ← h2]; exact h1
theorem z3n (hk : ∀ x, 0 ≤ key x) {L : List Int} {i j : Nat} (hij : i ≤ j) (hj : j ≤ L.length) (hb : i = 0 ∨ key (L.getD (i - 1) 0) = 0) (hnz : ∀ k, i ≤ k → k < j → key (L.getD k 0) ≠ 0) (hend : j = L.length ∨ key (L.getD j 0) = 0)
    (hc : zcu key (L.take i)) {S' : List Int} (hs : Srtd key S') (hst : Stab key ((L.take j).drop i) S') :
    Eqv key L (L.take i ++ (S' ++ L.drop j)) ∧ zcu key ((L.take i ++ (S' ++ L.drop j)).take (j + 1)) ∧ (j < L.length → key ((L.take i ++ (S' ++ L.drop j)).getD j 0) = 0) := by
  obtain ⟨c1, c2, c3⟩ := cut3 L hij hj
  have hl : S'.length = j - i := by rw [← hst.len]; exact c3
  refine ⟨?_, ?_, fun hlt => ?_⟩
  · have hm : ∀ x ∈ (L.take j).drop i, key x ≠ 0 := fun x hx => by
      obtain ⟨k, hk1, hk2⟩ := List.getElem_of_mem hx
      have := hnz (i + k) (by omega) (by omega)
      rw [List.getElem_drop, List.getElem_take] at hk2
      have hl2 : i + k < L.length := by omega
      simp only [List.getD, List.getElem?_eq_getElem hl2, Option.getD_some, hk2] at this
      exact this
    have := (ztf hst hm).app (L.take i) (L.drop j)
    rwa [← c1] at this
  · rw [List.take_append, c2, List.take_of_length_le (by omega), List.take_append, hl, List.take_of_length_le (by omega : S'.length ≤ j + 1 - i), show j + 1 - i - (j - i) = 1 by omega]
    have hR : ∀ x, ((L.drop j).take 1).head? = some x → key x = 0 := fun x hx => by
      rcases hend with e | e
      · rw [List.drop_eq_nil_of_le (by omega)] at hx; cases hx
      · rcases Nat.lt_or_ge j L.length with h' | h'
        · rw [List.drop_eq_getElem_cons h'] at hx
          simp only [List.take_succ_cons, List.head?_cons, Option.some.injEq] at hx
          rw [← hx]
          simpa [List.getD, List.getElem?_eq_getElem h'] using e
        · rw [List.drop_eq_nil_of_le h'] at hx; cases hx
    refine zem.2 ⟨hc, zem.2 ⟨znz hs, ?_, fun z x _ hx h0 => absurd (hR x hx) h0⟩, fun z x hz hx h0 => ?_⟩
    · cases L.drop j with
      | nil => trivial
      | cons a r => trivial
    · have : key z = 0 := by
        rcases hb with rfl | hb
        · simp at hz
        · rw [List.getLast?_eq_getElem?, c2] at hz
          by_cases h0 : i = 0
          · subst h0; simp at hz
          · rw [List.getElem?_take, if_pos (by omega)] at hz
            simpa [List.getD, hz] using hb
      rw [this]; exact hk x
  · rcases hend with e | e
    · omega
    · rw [← List.append_assoc]
      simp only [List.getD] at e ⊢
      rw [List.getElem?_append_right (by simp only [List.length_append]; omega), List.length_append, c2, hl, List.getElem?_drop, show j + (j - (i + (j - i))) = j by omega]
      exact e
theorem zun {S : List Int} (h : S.length ≤ 1) : Srtd key S := by
  match S, h with
  | [], _ => exact List.Pairwise.nil
  | [a], _ => exact List.pairwise_singleton _ _
end Go.Eng.Srt



namespace Go.Eng
open Go Go.Proofs Go.Eng.Rows Go.Eng.Srt
section
variable {Z : World → (Nat → Prop) → (Nat → Pl) → Hp → Prop} {key : Int → Int} {nl : Bool} {T : PV} {l : Nat} {y : Value} {es : List (List PV)}
theorem eI0 (Q : Qt) : aWp Try.prog (fun _ => none) 5 39 lM (fun _ => none) (cFst (cM Try.f95)) (ziw [.pv (.raw y), .box 4 0, .box 3 0] 0) (hpO nl T es) Q = Q .normal (eN y 0) (hpO nl T es) := by kernel_rfl
theorem eI1 (i : Int) (Q : Qt) : aWp Try.prog (fun _ => none) 5 39 lM (fun _ => none) (cFst (cL Try.f95)) (eN y i) (hpO nl T es) Q =
    if decide (i < (es.length : Int)) = true then Q .normal [(0, .pv (.raw y)), (1, .box 4 0), (2, .box 3 0), (4, .pv (.int .i64 i)), (9, .pv (.bool (decide (i < (es.length : Int)))))] (hpO nl T es)
    else Q (.exit 0) [(0, .pv (.raw y)), (1, .box 4 0), (2, .box 3 0), (4, .pv (.int .i64 i)), (9, .pv (.bool (decide (i < (es.length : Int)))))] (hpO nl T es) := by kernel_rfl
theorem eI3 (i : Int) (Q : Qt) : aWp Try.prog (fun _ => none) 5 39 lM (fun _ => none) (cFst (cB Try.f95)) (eN y i) (hpO nl T es) Q = Q .normal (eM y i i) (hpO nl T es) := by kernel_rfl
theorem eI2 (i : Int) (Q : Qt) : aWp Try.prog (fun _ => none) 5 39 lM (fun _ => none) (cSnd (cSnd (cL Try.f95))) (eN y i) (hpO nl T es) Q = Q .normal (eN y (IntKind.i64.wrap (i + 1))) (hpO nl T es) := by kernel_rfl
def eM25 (y : Value) (i f : Int) (b : Bool) : Env := [(0, .pv (.raw y)), (1, .box 4 0), (2, .box 3 0), (4, .pv (.int .i64 i)), (5, .pv (.int .i64 f)), (25, .pv (.bool b))]
theorem eI4 (i f : Int) (J : Int → Prop) (μ : Int → Nat) (Q : Qt) : aWp Try.prog (fun _ => none) 5 39 lM (fun zz_ => match zz_ with | 4 => some ⟨Int × Unit, fun s => (eM y s.1 f, hpO nl T es), fun _ s => J s.1, fun s => μ s.1, fun e h => (gI e 4, ()), [], [0, 1, 2, 4, 5], [], fun p => ∀ (x4 : Int), p (x4, ()), fun p h s => h s.1⟩ | _ => none) (cFst (cSnd (cB Try.f95))) (eM y i f) (hpO nl T es) Q =
    ((SameSt (eM y i f, hpO nl T es) (eM y i f, hpO nl T es) ∧ J i) ∧ ∀ (x4 : Int), J x4 → if decide (x4 < (es.length : Int)) = true then zaq es x4 1 ∧ ∃ (n : Int), (List.drop 0 (es.getD x4.toNat [])).head? = some (.int .i32 n) ∧ PCall Try.prog 45 [T, .int .i32 n] fun (v : PV) => ∃ (n1 : Int), v = .int .i64 n1 ∧
        if (n1 != (0 : Int)) = true then SameSt (eM y (IntKind.i64.wrap (x4 + 1)) f, hpO nl T es) (eM y (IntKind.i64.wrap (x4 + 1)) f, hpO nl T es) ∧ J (IntKind.i64.wrap (x4 + 1)) ∧ μ (IntKind.i64.wrap (x4 + 1)) < μ x4
        else Q .normal (eM25 y x4 f (n1 != (0 : Int))) (hpO nl T es)
      else Q .normal (eM25 y x4 f false) (hpO nl T es)) := by kernel_rfl
theorem zws : cM Try.f95 = .seq (cFst (cM Try.f95)) (.block 0 (.loop (cL Try.f95))) ∧
    cL Try.f95 = .seq (cFst (cL Try.f95)) (.seq (.block 1 (cB Try.f95)) (cSnd (cSnd (cL Try.f95)))) ∧
    cB Try.f95 = .seq (cFst (cB Try.f95)) (.seq (cFst (cSnd (cB Try.f95))) (.seq (cR6 Try.f95) (.cond (.tmp 38) .ret .skip))) := ⟨by kernel_rfl, by kernel_rfl, by kernel_rfl⟩
theorem CodeZ.le {P : Program} {N : Nat} {c : Code} {e e' : Env} {h : Hp} {Q : Qt} (hl : LeE e' e) (hK : CodeZ Z P N c e' h Q) : CodeZ Z P N c e h Q :=
  fun w I G a Qx hs hz hq => hK w I G a Qx (hs.le hl.le) hz hq
theorem z3o (hk : ∀ x, 0 ≤ key x) (hT : ∀ r : Int, (-2147483648 ≤ r ∧ r ≤ 2147483647) → PCall Try.prog 45 [T, .int .i32 r] fun v => v = .int .i64 (key r)) 
    (hZ : ∀ w I G h w' I' G' h', Z w I G h → HRel w I G h → HRel w' I' G' h' → TrN 5 w I G h w' I' G' h' → Z w' I' G' h') (L0 : List Int) (hY : zrw Z key nl T l L0.length) (hr : R32 L0) (hL : L0.length < 1000000000000) :
    CodeZ Z Try.prog 39 (cM Try.f95) (ziw [.pv (.raw (.func (.yield l) #[] #[])), .box 4 0, .box 3 0] 0) (hpO nl T (i32s L0)) fun x e h => x = .normal ∧ h = hpO nl T (i32s (ord key L0)) := by
  obtain ⟨y, hy⟩ : ∃ y : Value, y = .func (.yield l) #[] #[] := ⟨_, rfl⟩
  rw [zws.1, ← hy]
  refine CodeZ.seq (CodeZ.of (n0 := 5) hZ (zf0 (Eq.mpr (eI0 _) ?_)))
  show CodeZ Z Try.prog 39 (.block 0 (.loop (cL Try.f95))) (eN y 0) (hpO nl T (i32s L0)) _
  refine CodeZ.block (CodeZ.loop (σ := Nat × List Int) (fun s => (eN y s.1, hpO nl T (i32s s.2))) (fun s => s.1 ≤ L0.length + 1 ∧ Eqv key L0 s.2 ∧ zcu key (s.2.take s.1) ∧ (s.1 = 0 ∨ L0.length < s.1 ∨ key (s.2.getD (s.1 - 1) 0) = 0)) (fun s => L0.length + 1 - s.1) (0, L0) (LeE.le ⟨rfl, rfl, rfl, rfl, trivial⟩) rfl ⟨by omega, .refl _, by simp [zcu], .inl rfl⟩ ?_)
  rintro ⟨i, L⟩ ⟨hi, hq, hc, hb⟩
  have hlen := hq.len
  have hr' : R32 L := fun x hx => hr x (hq.mem.2 hx)
  dsimp only at hi hq hc hb hlen ⊢
  rw [zws.2.1]
  refine CodeZ.seq (CodeZ.of (n0 := 5) hZ (zf0 (Eq.mpr (eI1 _ _) ?_)))
  by_cases hlt : i < L.length
  · rw [if_pos (by simpa using hlt)]
    show CodeZ Z Try.prog 39 (.seq (.block 1 (cB Try.f95)) (cSnd (cSnd (cL Try.f95)))) _ _ _
    refine CodeZ.le (e' := eN y i) ⟨rfl, rfl, rfl, rfl, trivial⟩ (CodeZ.seq (CodeZ.block ?_))
    rw [zws.2.2]
    refine CodeZ.seq (CodeZ.of (n0 := 5) hZ (zf0 (Eq.mpr (eI3 _ _) ?_)))
    show CodeZ Z Try.prog 39 (.seq (cFst (cSnd (cB Try.f95))) (.seq (cR6 Try.f95) (.cond (.tmp 38) .ret .skip))) (eM y i i) _ _
    refine CodeZ.seq (CodeZ.of (n0 := 5) hZ (zf0 (Eq.mpr (eI4 _ _ (fun x => ∃ j : Nat, x = j ∧ i ≤ j ∧ j ≤ L.length ∧ ∀ k, i ≤ k → k < j → key (L.getD k 0) ≠ 0) (fun x => ((L.length : Int) - x).toNat) _) ?_)))
    refine ⟨⟨rfl, i, rfl, Nat.le_refl _, by omega, fun k h1 h2 => by omega⟩, ?_⟩
    rintro _ ⟨j, rfl, hij, hj, hnz⟩
    -- what follows the row of marks
    have rest : ∀ b, (j = L.length ∨ key (L.getD j 0) = 0) → CodeZ Z Try.prog 39 (.seq (cR6 Try.f95) (.cond (.tmp 38) .ret .skip)) (eM25 y j i b) (hpO nl T (i32s L)) fun x e h => match x with
        | .normal => CodeZ Z Try.prog 39 (cSnd (cSnd (cL Try.f95))) e h fun x e h => match x with
          | .normal => ∃ s' : Nat × List Int, (∀ i v, get (eN y s'.1) i = some v → get e i = some v) ∧ h = hpO nl T (i32s s'.2) ∧ (s'.1 ≤ L0.length + 1 ∧ Eqv key L0 s'.2 ∧ zcu key (s'.2.take s'.1) ∧ (s'.1 = 0 ∨ L0.length < s'.1 ∨ key (s'.2.getD (s'.1 - 1) 0) = 0)) ∧ L0.length + 1 - s'.1 < L0.length + 1 - i
          | _ => False
        | _ => False := fun b hend => by
      refine CodeZ.le (e' := eM y j i) ⟨rfl, rfl, rfl, rfl, rfl, trivial⟩ (CodeZ.seq ?_)
      rw [hy]
      refine (reg6 hY hZ L i j hij hj hr' (by omega) hlen.symm).mono ?_
      rintro _ _ _ ⟨L', rfl, hL', rfl, rfl⟩
      refine CodeZ.cond (t := false) rfl ?_
      simp only [Bool.false_eq_true, if_false]
      refine CodeZ.skip ?_
      rw [← hy]
      refine CodeZ.le (e' := eN y j) ⟨rfl, rfl, rfl, rfl, trivial⟩ (CodeZ.of (n0 := 5) hZ (zf0 (Eq.mpr (eI2 _ _) ?_)))
      have wj : IntKind.i64.wrap ((j : Int) + 1) = ((j + 1 : Nat) : Int) := by rw [zaa (by omega) (by omega)]; omega
      rw [wj]
      have hb' : i = 0 ∨ key (L.getD (i - 1) 0) = 0 := by
        rcases hb with h | h | h
        · exact .inl h
        · omega
        · exact .inr h
      obtain ⟨S', hs, hst, rfl⟩ : ∃ S', Srtd key S' ∧ Stab key ((L.take j).drop i) S' ∧ L' = L.take i ++ (S' ++ L.drop j) := by
        by_cases h1 : i + 1 < j
        · rw [if_pos h1] at hL'
          obtain ⟨S', e, h2, h3⟩ := hL'
          exact ⟨S', h2, h3, e⟩
        · rw [if_neg h1] at hL'
          obtain ⟨c1, c2, c3⟩ := cut3 L hij hj
          exact ⟨_, zun (by omega), Stab.refl _, hL'.trans c1⟩
      obtain ⟨g1, g2, g3⟩ := z3n hk hij hj hb' hnz hend hc hs hst
      refine ⟨(j + 1, _), LeE.le ⟨rfl, rfl, rfl, rfl, trivial⟩, rfl, ⟨by dsimp only; omega, hq.trans g1, g2, ?_⟩, by dsimp only; omega⟩
      rcases Nat.lt_or_ge j L.length with h | h
      · exact .inr (.inr (g3 h))
      · exact .inr (.inl (by dsimp only; omega))
    by_cases hjl : j < L.length
    · rw [if_pos (by simpa using hjl)]
      refine ⟨zak (enc := fun n => [PV.int .i32 n]) (l := L) (fun _ => rfl) (by omega) (by omega), L.getD j 0, by rw [Int.toNat_natCast, zx5 hjl]; rfl, (hT _ (hr' _ (List.mem_of_getElem? (zi9 hjl)))).mono ?_⟩
      rintro _ rfl
      refine ⟨_, rfl, ?_⟩
      by_cases hz : key (L.getD j 0) = 0
      · rw [if_neg (by simpa using hz)]
        exact (rest _ (.inr hz)).mono fun x e h hx => by cases x <;> first | exact hx.elim | exact CodeZ.mono hx fun x e h hx => (by cases x <;> first | exact hx | exact hx.elim)
      · rw [if_pos (by simpa using hz)]
        have wj : IntKind.i64.wrap ((j : Int) + 1) = ((j + 1 : Nat) : Int) := by rw [zaa (by omega) (by omega)]; omega
        rw [wj]
        refine ⟨rfl, ⟨j + 1, rfl, by omega, hjl, fun k h1 h2 => ?_⟩, by omega⟩
        rcases Nat.lt_or_ge k j with h | h
        · exact hnz k h1 h
        · have : k = j := by omega
          subst this; exact hz
    · rw [if_neg (by simpa using hjl)]
      exact (rest _ (.inl (by omega))).mono fun x e h hx => by cases x <;> first | exact hx.elim | exact CodeZ.mono hx fun x e h hx => (by cases x <;> first | exact hx | exact hx.elim)
  · rw [if_neg (by simpa using hlt)]
    refine ⟨rfl, ?_⟩
    rw [List.take_of_length_le (by omega)] at hc
    rw [z1f hq, zwr hc]
end
end Go.Eng



namespace Go.Eng
open Go Go.Proofs Go.Eng.Rows Go.Eng.Srt
section
variable {w w' : World} {I I' : Nat → Prop} {G G' : Nat → Pl} {h h' : Hp}
theorem HRel.off (hh : HRel w I G h) {l : Nat} (o : Obj) (hI : ¬ I l) (ho : ¬ Owns h G l) : HRel (w.putObj l o) I G h := by
  have hw : ∀ b, b ≠ l → (w.putObj l o).heap[b]? = w.heap[b]? := fun b hb => World.putObj_heap_other hb
  have hk : Keeps w I (w.putObj l o) I := ⟨fun b hb _ => hw b fun e => hI (e ▸ hb), fun b hb _ => hb⟩
  have blk : ∀ (i : Nat) x, h[i]? = some x → x.alive (G i) → (G i).blk ≠ l := fun i x hx ha e => ho ⟨i, x, hx, ha, e⟩
  refine ⟨fun i x hx => ?_, hh.sep, hh.nI, fun b hb => by rw [World.putObj_size]; exact hh.cl b hb⟩
  have := hh.obs i x hx
  cases x with
  | dead => trivial
  | box cs => obtain ⟨vs, ty, e1, e2, e3⟩ := this; exact ⟨vs, ty, by rw [hw _ (blk i _ hx trivial)]; exact e1, e2, fun k v hv => ⟨(e3 k v hv).1.mono hk (.refl _ _), (e3 k v hv).2⟩⟩
  | arr cs => obtain ⟨vs, ty, e1, e2, e3⟩ := this; exact ⟨vs, ty, by rw [hw _ (blk i _ hx trivial)]; exact e1, e2, fun k v hv => ⟨(e3 k v hv).1.mono hk.1 hk.2, (e3 k v hv).2⟩⟩
  | sl ty m n es =>
    cases n with
    | true => exact this
    | false =>
      obtain ⟨e1, e2, e3, e3', e4, e5⟩ := this
      refine ⟨e1, e2, e3, e3', e4, fun hc => ?_⟩
      obtain ⟨vs, f1, f2, f3⟩ := e5 hc
      exact ⟨vs, by rw [hw _ (blk i _ hx ⟨rfl, hc⟩)]; exact f1, f2, fun i' e he k v hv => ⟨(f3 i' e he k v hv).1.mono hk.1 hk.2, (f3 i' e he k v hv).2⟩⟩
  | mp kvs => obtain ⟨es, ck, e1, e2, e3⟩ := this; exact ⟨es, ck, by rw [hw _ (blk i _ hx trivial)]; exact e1, e2, fun k kv hv => ⟨(e3 k kv hv).1.mono hk.1 hk.2, (e3 k kv hv).2.mono hk.1 hk.2⟩⟩
  | iter ty rem cur => exact IterRel.mono this (hw _ (blk i _ hx trivial)) hk
theorem zjc (hh : HRel w I G h) {b : Nat} {o : Obj} (ho : w.heap[b]? = some o) (hn : (match o with | .cells .. => true | .map .. => true | .mapIter .. => true | _ => false) = false) : ¬ Owns h G b := by
  rintro ⟨i, ob, hi, ha, rfl⟩
  have := hh.obs i ob hi
  cases ob with
  | dead => exact ha
  | box cs => obtain ⟨vs, ty, e1, _⟩ := this; rw [ho] at e1; cases e1; cases hn
  | arr cs => obtain ⟨vs, ty, e1, _⟩ := this; rw [ho] at e1; cases e1; cases hn
  | sl ty m n es =>
    cases n with
    | true => exact absurd ha.1 (by simp)
    | false => obtain ⟨vs, e1, _⟩ := this.2.2.2.2.2 ha.2; rw [ho] at e1; cases e1; cases hn
  | mp kvs => obtain ⟨es, ck, e1, _⟩ := this; rw [ho] at e1; cases e1; cases hn
  | iter ty rem cur => obtain ⟨_, _, _, _, _, _, e1, _⟩ := this; rw [ho] at e1; cases e1; cases hn
theorem Tr.off {own own' : Nat → Prop} (t : Tr w I own w' I' own') {l : Nat} (hl : w.heap.size ≤ l) (o : Obj) : Tr w I own (w'.putObj l o) I' own' :=
  ⟨t.os, t.tape, t.output, by rw [World.putObj_size]; exact t.size, fun b hb hn => (World.putObj_heap_other (by omega)).trans (t.keep b hb hn), t.i1, t.i2, t.own2,
    fun a ha => (World.frozen?_of_block (World.putObj_heap_other (by omega))).trans (t.frz a ha), t.drawn⟩
theorem TrN.off {n0 : Nat} (t : TrN n0 w I G h w' I' G' h') {l : Nat} (hl : w.heap.size ≤ l) (o : Obj) : TrN n0 w I G h (w'.putObj l o) I' G' h' := ⟨t.t.off hl o, t.len, t.stay⟩
theorem zmf (hh : HRel w I G h) (t : Tr w I (Owns h G) w' I' (Owns h' G')) : Keeps w I w' I' :=
  ⟨fun b hb hlt => t.keep b hlt fun ⟨o, ob, h1, h2, e⟩ => hh.nI o ob h1 h2 (e ▸ hb), fun b hb _ => t.i1 b hb⟩
theorem Keeps.trans {w1 w2 : World} {I1 I2 : Nat → Prop} (h : Keeps w I w1 I1) (hs : w.heap.size ≤ w1.heap.size) (k : Keeps w1 I1 w2 I2) : Keeps w I w2 I2 :=
  ⟨fun b hb hlt => (k.1 b (h.2 b hb hlt) (Nat.lt_of_lt_of_le hlt hs)).trans (h.1 b hb hlt), fun b hb hlt => k.2 b (h.2 b hb hlt) (Nat.lt_of_lt_of_le hlt hs)⟩
theorem Keeps.off {l : Nat} (hI : ¬ I l) (o : Obj) : Keeps w I (w.putObj l o) I := ⟨fun b hb _ => World.putObj_heap_other fun e => hI (e ▸ hb), fun b hb _ => hb⟩
structure ZR (W0 : World) (I0 : Nat → Prop) (G0 : Nat → Pl) (h0 : Hp) (l D : Nat) (rec : Loop) (W : World) (I : Nat → Prop) (G : Nat → Pl) (h : Hp) : Prop where
  t : TrN 5 W0 I0 G0 h0 W I G h
  hl : W.heap[l]? = some (.loop rec)
  hD : W.heap[D]? = some (.deferred (some []))
  nl : ¬ I l
  nD : ¬ I D
theorem ZR.step {W0 : World} {I0 : Nat → Prop} {G0 : Nat → Pl} {h0 : Hp} {l D : Nat} {rec : Loop} (z : ZR W0 I0 G0 h0 l D rec w I G h) (hh : HRel w I G h) (t : TrN 5 w I G h w' I' G' h') : ZR W0 I0 G0 h0 l D rec w' I' G' h' := by
  have l1 := (Array.getElem?_eq_some_iff.1 z.hl).1
  have l2 := (Array.getElem?_eq_some_iff.1 z.hD).1
  have n1 := zjc hh z.hl rfl
  have n2 := zjc hh z.hD rfl
  exact ⟨z.t.trans t, (t.t.keep l l1 n1).trans z.hl, (t.t.keep D l2 n2).trans z.hD, fun x => (t.t.i2 l x).elim z.nl (fun x => x.elim n1 fun x => by omega), fun x => (t.t.i2 D x).elim z.nD (fun x => x.elim n2 fun x => by omega)⟩
end
section
variable {key : Int → Int} {nl : Bool} {T : PV}
theorem z1h {G G' : Nat → Pl} {es es' : List (List PV)} (hl : es.length = es'.length) (hG : ∀ o, o < 5 → G' o = G o) : Like G G' (hpO nl T es) (hpO nl T es') := by
  intro o ob ho
  have hlt : o < 5 := (List.getElem?_eq_some_iff.1 ho).1
  refine ⟨?_, fun _ => hG o hlt⟩
  match o, ho with
  | 0, ho => cases ho; exact ⟨_, rfl, trivial⟩
  | 1, ho => cases ho; exact ⟨_, rfl, rfl, rfl, hl⟩
  | 2, ho => cases ho; exact ⟨_, rfl, trivial⟩
  | 3, ho => cases ho; exact ⟨_, rfl, trivial⟩
  | 4, ho => cases ho; exact ⟨_, rfl, trivial⟩
theorem zyz {w w' : World} {I I' : Nat → Prop} {G G' : Nat → Pl} {es es' : List (List PV)} (t : TrN 5 w I G (hpO nl T es) w' I' G' (hpO nl T es')) : ∀ o, o < 5 → G' o = G o := by
  intro o ho
  have hs := t.stay (Nat.le_refl _)
  match o, ho with
  | 0, _ => exact (hs 0 _ (by omega) rfl rfl).1
  | 1, _ => exact (hs 1 _ (by omega) rfl rfl).1
  | 2, _ => exact (hs 2 _ (by omega) rfl rfl).1
  | 3, _ => exact (hs 3 _ (by omega) rfl rfl).1
  | 4, _ => exact (hs 4 _ (by omega) rfl rfl).1
theorem eA3 (es : List (List PV)) (i f : Int) (K : Env → Hp → Prop) : aOps Try.prog (fun _ => none) 22 (cOps (cFst (cAs (cOr Try.f44)))).toList (cOps (cFst (cAs (cOr Try.f44)))).toList (eO f i) (hpO nl T es) K = K ((6, .pv (.int .i64 f)) :: eO f i) (hpO nl T es) := by kernel_rfl
theorem eA4 (es : List (List PV)) (i f : Int) (K : Env → Hp → Prop) : aOps Try.prog (fun _ => none) 22 (cOps (cSnd (cAs (cOr Try.f44)))).toList (cOps (cSnd (cAs (cOr Try.f44)))).toList ((6, .pv (.int .i64 f)) :: eO f i) (hpO nl T es) K = K ((7, .pv (.int .i64 i)) :: (6, .pv (.int .i64 f)) :: eO f i) (hpO nl T es) := by kernel_rfl
theorem eA5 (es : List (List PV)) (i f : Int) (K : Env → Hp → Prop) : aOps Try.prog z0b 22 (cOps (cIn (cBd (cOr Try.f44)))).toList (cOps (cIn (cBd (cOr Try.f44)))).toList ((7, .pv (.int .i64 i)) :: (6, .pv (.int .i64 f)) :: eO f i) (hpO nl T es) K =
    (slOK es.length (some f) (some i) none ∧ ACall Try.prog 73 [.sub 0 f.toNat i.toNat, .fn 74 [.box 1 0]] [.sl (21, 1) false nl es, .box [.pv T]] fun (r : LV) (h' : Hp) => ∃ (t : List (List PV)), (r = .tup [] ∧ h' = [.sl (21, 1) false nl t, .box [.pv T]]) ∧
      (True ∧ (((21, 1) : Nat × Nat) = (21, 1) ∧ nl = nl ∧ es.length = t.length) ∧ True) ∧ K ((20, .tup []) :: (19, .fn 74 [.box 0 0]) :: (18, .sub 1 f.toNat i.toNat) :: (17, .pv (.int .i64 i)) :: (16, .pv (.int .i64 f)) :: (15, .own 1) :: (7, .pv (.int .i64 i)) :: (6, .pv (.int .i64 f)) :: eO f i) (hpO nl T t)) := by kernel_rfl
theorem zzn : cAs (cOr Try.f44) = .seq (.region 3 (cOps (cFst (cAs (cOr Try.f44)))) false) (.region 4 (cOps (cSnd (cAs (cOr Try.f44)))) false) ∧ cBd (cOr Try.f44) = .block 1 (.region 5 (cOps (cIn (cBd (cOr Try.f44)))) false) ∧
    cOr Try.f44 = .rangeFunc (.tmp 12) #[13, 14] (cAs (cOr Try.f44)) (cBd (cOr Try.f44)) ∧ zex (cOps (cFst (cAs (cOr Try.f44)))).toList = true ∧ zex (cOps (cSnd (cAs (cOr Try.f44)))).toList = true ∧ zex (cOps (cIn (cBd (cOr Try.f44)))).toList = true :=
  ⟨by kernel_rfl, by kernel_rfl, by kernel_rfl, by kernel_rfl, by kernel_rfl, by kernel_rfl⟩
theorem z2v (hc : zmv T key) {W0 : World} {I0 : Nat → Prop} {G0 : Nat → Pl} {L0 : List Int} {a : Act} {v12 : LV} (hs0 : SRel W0 I0 G0 [(2, .box 0 0), (5, .box 2 0), (12, v12)] (hpO nl T (i32s L0)) 22 a) (rec : Loop)
    (r1 : rec.state = .ready) (r2 : rec.pending = none) (r3 : rec.tmps = a.tmps) (r4 : rec.params = #[13, 14]) (r5 : rec.assign = cAs (cOr Try.f44)) (r6 : rec.body = cBd (cOr Try.f44)) :
    zrw (ZR W0 I0 G0 (hpO nl T (i32s L0)) (W0.heap.size + 1) W0.heap.size rec) key nl T (W0.heap.size + 1) L0.length := by
  intro w I G L f i hh hz hfi hil hr hLn hN
  obtain ⟨l, hl⟩ : ∃ l, l = W0.heap.size + 1 := ⟨_, rfl⟩
  have hWl : W0.heap.size ≤ l := by omega
  rw [← hl] at hz ⊢
  refine ⟨_, _, _, _, run_yield (P := Try.prog) hz.hl (by rw [r4]; rfl), roundIn_of_wpIn trivial ?_⟩
  have hlt := (Array.getElem?_eq_some_iff.1 hz.hl).1
  have hel : ∀ L' : List Int, L'.length = L.length → (i32s L0).length = (i32s L').length := fun L' h => by simp [hN, h]
  have hs : SRel w I G (eO f i) (hpO nl T (i32s L)) 22 { tmps := (a.tmps.setIfInBounds 13 (.int .i64 f)).setIfInBounds 14 (.int .i64 i), defers := [] } := by
    have h1 := hs0.he.mono (zmf hs0.hh hz.t.t) (z1h (hel L rfl) (zyz hz.t))
    have h2 := h1.set (d := 13) (v := .pv (.int .i64 f)) (by rw [hs0.hn]; omega) (.pv _ _ (.int .i64 f)) (fun _ _ _ e => by cases e)
    have h3 := h2.set (d := 14) (v := .pv (.int .i64 i)) (by simp [hs0.hn]) (.pv _ _ (.int .i64 i)) (fun _ _ _ e => by cases e)
    exact ⟨hh, fun k v hk => h3 k v ((LeE.le (e' := eO f i) ⟨rfl, rfl, rfl, rfl, trivial⟩) k v hk), by simp [hs0.hn]⟩
  obtain ⟨q1, q2, q3, q4, q5, q6⟩ := zzn
  rw [r5, q1, r4, r3]
  have hfold : ∀ x y : Value, (((#[13, 14] : Array Tmp).zip #[x, y]).foldl (fun tmps (t, a) => tmps.setIfInBounds t a) a.tmps) = (a.tmps.setIfInBounds 13 x).setIfInBounds 14 y := fun x y => by simp
  rw [hfold]
  refine wpIn_seq ?_
  show Code.wpIn (wd (some l)) 0 Try.prog _ (Exit.then (Code.wpIn (wd (some l)) 0 Try.prog _ _) _) { tmps := (a.tmps.setIfInBounds 13 (.int .i64 f)).setIfInBounds 14 (.int .i64 i), defers := [] } w
  refine zoo q4 (by rw [eA3]; exact ⟨rfl, rfl⟩ : aOps Try.prog (fun _ => none) 22 _ _ _ _ (fun e' h' => e' = _ ∧ h' = _)) hs ?_ ?_
  · exact fun a w h => h
  rintro _ _ w1 I1 G1 a1 ⟨rfl, rfl⟩ hs1 hd1 ht1
  refine zoo q5 (by rw [eA4]; exact ⟨rfl, rfl⟩ : aOps Try.prog (fun _ => none) 22 _ _ _ _ (fun e' h' => e' = _ ∧ h' = _)) hs1 ?_ ?_
  · exact fun a w h => h
  rintro _ _ w2 I2 G2 a2 ⟨rfl, rfl⟩ hs2 hd2 ht2
  have z1 := hz.step hh ht1.toN
  have z2 := z1.step hs1.hh ht2.toN
  refine ⟨_, run_beginRound z2.hl r1, ?_⟩
  have n2 := zjc hs2.hh z2.hl rfl
  have l2 := (Array.getElem?_eq_some_iff.1 z2.hl).1
  have hs3 : SRel (w2.putObj l (.loop { rec with state := .busy })) I2 G2 _ _ 22 a2 := ⟨hs2.hh.off _ z2.nl n2, hs2.he.mono (Keeps.off z2.nl _) (.refl _ _), hs2.hn⟩
  have hp3 : (w2.putObj l (.loop { rec with state := .busy })).heap[l]? = some (.loop { rec with state := .busy }) := World.putObj_heap_same l2
  have hb : ∀ {c : Code} {Q a w}, c = cBd (cOr Try.f44) → Code.wpIn (wd (some l)) 0 Try.prog (.block 1 (.region 5 (cOps (cIn (cBd (cOr Try.f44)))) false)) Q a w → Code.wpIn (wd (some l)) 0 Try.prog c Q a w := fun e h => by rw [e, q2]; exact h
  refine hb r6 ?_
  have h5 : aOps Try.prog z0b 22 (cOps (cIn (cBd (cOr Try.f44)))).toList (cOps (cIn (cBd (cOr Try.f44)))).toList ((7, .pv (.int .i64 i)) :: (6, .pv (.int .i64 f)) :: eO f i) (hpO nl T (i32s L)) (fun _ h' => ∃ L', YQ key L f i L' ∧ h' = hpO nl T (i32s L')) := by
    rw [eA5, Int.toNat_natCast, Int.toNat_natCast]
    obtain ⟨c1, c2, c3⟩ := cut3 L (show f ≤ i by omega) hil
    have e : i32s L = i32s (L.take f ++ ((L.take i).drop f ++ L.drop i)) := congrArg i32s c1
    refine ⟨⟨by simp, by simp; omega, by simp; omega, trivial⟩, ?_⟩
    rw [e]
    refine (zrv hc f i nl (L.take f) ((L.take i).drop f) (L.drop i) c2 (by omega) (by rw [← c1]; exact hr) (by omega)).mono ?_
    rintro r h' ⟨S', rfl, rfl, s1, k1⟩
    refine ⟨_, ⟨rfl, rfl⟩, ⟨trivial, ⟨rfl, rfl, ?_⟩, trivial⟩, _, ⟨S', rfl, s1, k1⟩, rfl⟩
    have := k1.len
    simp only [zaf, List.length_append]; omega
  refine wpIn_block ?_
  show Code.wpIn (wd (some l)) 0 Try.prog _ _ _ _
  refine zoo (H := z0b) (ro := some l) (n := 0) (id := 5) q6 h5 hs3 ?_ ?_
  · exact fun a w h => h
  rintro e4 _ w4 I4 G4 a4 ⟨L', hYQ, rfl⟩ hs4 hd4 ht4
  have n3 := zjc hs3.hh hp3 rfl
  have hl4 : w4.heap[l]? = some (.loop { rec with state := .busy }) := (ht4.t.keep l (by rw [World.putObj_size]; exact l2) n3).trans hp3
  have l4 := (Array.getElem?_eq_some_iff.1 hl4).1
  have nI4 : ∀ b, ¬ I2 b → ¬ Owns (hpO nl T (i32s L)) G2 b → b < w2.heap.size → ¬ I4 b := fun b x y z h => (ht4.t.i2 b h).elim x fun h => h.elim y fun h => by rw [World.putObj_size] at h; omega
  have nl4 := nI4 l z2.nl n2 l2
  have hDne : W0.heap.size ≠ l := by omega
  have nD2 := zjc hs2.hh z2.hD rfl
  have lD := (Array.getElem?_eq_some_iff.1 z2.hD).1
  have hrec : ({ { rec with state := .busy } with state := if (none : Option Code).isNone then .ready else .done, pending := none } : Loop) = rec := by
    cases rec; simp only at r1 r2; subst r1; subst r2; rfl
  have hrun := run_endRound (P := Try.prog) none hl4
  rw [hrec] at hrun
  have hLL : L'.length = L.length := by
    obtain ⟨S', rfl, s1, k1⟩ := hYQ
    obtain ⟨c1, c2, c3⟩ := cut3 L (show f ≤ i by omega) hil
    have := k1.len
    rw [List.length_append, List.length_append, c2, ← this, c3, List.length_drop]; omega
  have tB : TrN 5 W0 I0 G0 (hpO nl T (i32s L0)) (w4.putObj l (.loop rec)) I4 G4 (hpO nl T (i32s L')) := ((z2.t.off hWl _).trans ht4.toN).off hWl _
  refine ⟨_, _, hrun, rfl, L', I4, G4, hYQ, hs4.hh.off _ nl4 (zjc hs4.hh hl4 rfl), ?_, z1h (by simp [hLL]) (fun o ho => (zyz tB o ho).trans (zyz hz.t o ho).symm), ⟨tB, World.putObj_heap_same l4, ?_, nl4, nI4 _ z2.nD nD2 lD⟩⟩
  · have k1 := (zmf hh ht1.t).trans ht1.t.size (zmf hs1.hh ht2.t)
    have s2 := Nat.le_trans ht1.t.size ht2.t.size
    have k2 := (k1.trans s2 (Keeps.off z2.nl (.loop { rec with state := .busy }))).trans (by rw [World.putObj_size]; exact s2) (zmf hs3.hh ht4.t)
    exact k2.trans (by have := ht4.t.size; rw [World.putObj_size] at this; omega) (Keeps.off nl4 _)
  · rw [World.putObj_heap_other hDne]
    exact (ht4.t.keep _ (by rw [World.putObj_size]; exact lD) (zjc hs3.hh ((World.putObj_heap_other hDne).trans z2.hD) rfl)).trans ((World.putObj_heap_other hDne).trans z2.hD)
end
end Go.Eng



namespace Go.Eng
open Go Go.Proofs
def zbt (nl fl : Bool) (es : LL) (R : LV → Hp → Prop) : Prop :=
 if (bif true then nl else !nl) = true then R (LV.pv (PV.sl true true [])) [] else ApOK true [] es 1 4 ∧ R (LV.own 0) [Ob.sl (21, 1) false false ([] ++ es)]
theorem zfe (nl fl : Bool) (es : LL) {R : LV → Hp → Prop} (h : zbt nl fl es R) : ACall Try.prog 71 [.pv (.sl nl fl es)] [] R :=
  ACall.ofA Try.func71 (by kernel_rfl) (by kernel_rfl) (Nat.le_of_ble_eq_true (by kernel_rfl)) (Eq.mpr (by kernel_rfl : aFnA Try.prog (fun _ => none) Try.f71 [0, 2, 4] (fun _ => none) (Try.f71.body.getD .skip) [.pv (.sl nl fl es)] [] R = zbt nl fl es R) h)

def zhq (nl : Bool) (ts : List PV) (es : LL) (R : LV → Hp → Prop) : Prop :=
 R (LV.fn 95 [LV.box 2 0, LV.box 1 0]) [Ob.sl (21, 1) false nl es, Ob.box [LV.pv (PV.ptr ts)], Ob.box [LV.own 0]]
theorem zmw (nl : Bool) (ts : List PV) (es : LL) {R : LV → Hp → Prop} (h : zhq nl ts es R) : ACall Try.prog 72 [.pv (.ptr ts), .own 0] [.sl (21, 1) false nl es] R :=
  ACall.of Try.func72 (by kernel_rfl) (by kernel_rfl) (Nat.le_of_ble_eq_true (by kernel_rfl)) (Eq.mpr (by kernel_rfl : aFnH Try.prog (fun _ => none) Try.f72 [0, 1, 2, 3, 4] (fun _ => none) [0, 1, 2] (Try.f72.body.getD .skip) [.pv (.ptr ts), .own 0] [.sl (21, 1) false nl es] R = zhq nl ts es R) h)

end Go.Eng



namespace Go.Eng
open Go Go.Proofs Go.Eng.Rows Go.Eng.Srt
theorem ACall.nilOwn {P : Program} {f : Nat} {args : List LV} {Q Q' : LV → Hp → Prop} {ty : Nat × Nat} (hc : ACall P f args [] Q) (hq : ∀ r h', Q r h' → Q' r h' ∨ ∃ fl, r = .pv (.sl true fl []) ∧ h' = [] ∧ Q' (.own 0) [.sl ty false true []]) : ACall P f args [] Q' :=
  ⟨hc.1, fun w I G cargs h1 h2 h3 => (hc.2 w I G cargs h1 h2 h3).mono fun e w' ⟨cv, r, h', I', G', e1, e2, e3, e4, e5⟩ => (hq r h' e2).elim (fun q => ⟨cv, r, h', I', G', e1, q, e3, e4, e5⟩) fun ⟨fl, hr, hh, q⟩ => by
    subst hr; subst hh
    have hcv : cv = .slice none 0 0 := by cases e4 with | pv _ _ h => cases h; rfl
    subst hcv
    have one : ∀ {o : Nat} {ob : Ob}, [Ob.sl ty false true []][o]? = some ob → ob = .sl ty false true [] := fun {o ob} h => by
      cases o with
      | zero => cases h; rfl
      | succ o => simp at h
    have dead : ∀ {p : Pl}, ¬ (Ob.sl ty false true []).alive p := fun h => by cases h.1
    have noB : ∀ b, ¬ Owns [Ob.sl ty false true []] G' b := fun b ⟨o, ob, ho, ha, _⟩ => by rw [one ho] at ha; exact dead ha
    refine ⟨_, .own 0, [.sl ty false true []], I', G', e1, q, ⟨fun o ob ho => by rw [one ho]; rfl, fun o o' ob ob' ho ha => by rw [one ho] at ha; exact (dead ha).elim, fun o ob ho ha => by rw [one ho] at ha; exact (dead ha).elim, e3.cl⟩, .ownNil 0 ty false [] rfl, ?_, by simp, fun o ob' ho => by simp at ho⟩
    have t := e5.t
    exact ⟨t.os, t.tape, t.output, t.size, t.keep, t.i1, t.i2, fun b hb => (noB b hb).elim, t.frz, t.drawn⟩⟩
theorem z2w (nl fl : Bool) (es : List (List PV)) (hn : nl = true → es = []) (ha : ApOK true [] es 1 4) : ACall Try.prog 71 [.pv (.sl nl fl es)] [] fun r h' => r = .own 0 ∧ h' = [.sl (21, 1) false nl es] := by
  refine ACall.nilOwn (ty := (21, 1)) (Q := fun r h' => (nl = true ∧ r = .pv (.sl true true []) ∧ h' = []) ∨ (nl = false ∧ r = .own 0 ∧ h' = [.sl (21, 1) false nl es])) (zfe nl fl es ?_) ?_
  · unfold zbt
    cases nl with
    | true => exact .inl ⟨rfl, rfl, rfl⟩
    | false => exact ⟨ha, .inr ⟨rfl, rfl, by simp⟩⟩
  · rintro r h' (⟨rfl, rfl, rfl⟩ | ⟨rfl, rfl, rfl⟩)
    · rw [hn rfl]; exact .inr ⟨true, rfl, rfl, rfl, rfl⟩
    · exact .inl ⟨rfl, rfl⟩
theorem runS {P : Program} {n0 N : Nat} {c : Code} {e E : Env} {h Hh : Hp} (hS : CodeS P n0 N c e h fun x e' h' => x = .normal ∧ e' = E ∧ h' = Hh) {w : World} {I : Nat → Prop} {G : Nat → Pl} {a : Act} (hs : SRel w I G e h N a) {Q : Exit → Act → World → Prop}
    (hq : ∀ w' I' G' a', SRel w' I' G' E Hh N a' → a'.defers = a.defers → TrN n0 w I G h w' I' G' Hh → Q .normal a' w') : c.wp P Q a w :=
  hS w I G a Q hs fun x e' h' w' I' G' a' hk hs' hd ht => by obtain ⟨rfl, rfl, rfl⟩ := hk; exact hq w' I' G' a' hs' hd ht
section
variable {nl fl : Bool} {ts : List PV} {es : List (List PV)}
theorem eB0 (Q : Qt) : aWp Try.prog (fun _ => none) 0 22 [1, 2, 4] (fun _ => none) (cO0 Try.f44) (ziw [.pv (.ptr ts), .pv (.sl nl fl es)] 0) [] Q = Q .normal [(1, .pv (.sl nl fl es)), (2, .box 0 0), (4, .pv (.sl true true []))] [.box [.pv (.ptr ts)]] := by kernel_rfl
theorem eB1 (Q : Qt) : aWp Try.prog zzf 0 22 [2, 5] (fun _ => none) (cO1 Try.f44) [(1, .pv (.sl nl fl es)), (2, .box 0 0)] [.box [.pv (.ptr ts)]] Q =
    ACall Try.prog 71 [.pv (.sl nl fl es)] [] fun (r : LV) (h' : Hp) => ∃ (_ : Unit), (r = .own 0 ∧ h' = [.sl (21, 1) false nl es]) ∧ True ∧ Q .normal [(2, .box 0 0), (5, .box 2 0)] [.box [.pv (.ptr ts)], .sl (21, 1) false nl es, .box [.own 1]] := by kernel_rfl
theorem eB2 (Q : Qt) : aWp Try.prog zzf 0 22 [2, 5, 12] (fun _ => none) (cO2 Try.f44) [(2, .box 0 0), (5, .box 2 0)] [.box [.pv (.ptr ts)], .sl (21, 1) false nl es, .box [.own 1]] Q =
    ACall Try.prog 72 [.pv (.ptr ts), .own 0] [.sl (21, 1) false nl es] fun (r : LV) (h' : Hp) => ∃ (_ : Unit), (r = .fn 95 [.box 2 0, .box 1 0] ∧ h' = [.sl (21, 1) false nl es, .box [.pv (.ptr ts)], .box [.own 0]]) ∧
      ((((21, 1) : Nat × Nat) = (21, 1) ∧ nl = nl ∧ es.length = es.length) ∧ True) ∧ Q .normal [(2, .box 0 0), (5, .box 2 0), (12, .fn 95 [.box 4 0, .box 3 0])] (hpO nl (.ptr ts) es) := by kernel_rfl
theorem eB6 (Q : Qt) : aWp Try.prog (fun _ => none) 5 22 [4] (fun _ => none) (cO6 Try.f44) [(2, .box 0 0), (5, .box 2 0)] (hpO nl (.ptr ts) es) Q = Q .normal [(4, .own 1)] (hpO nl (.ptr ts) es) := by kernel_rfl
theorem zwt : cM Try.f44 = .seq (cO0 Try.f44) (.seq (cO1 Try.f44) (.seq (.seq (cO2 Try.f44) (.block 0 (cOr Try.f44))) (.seq (cO6 Try.f44) .ret))) ∧ Try.f44.body = some (cM Try.f44) ∧ Try.f44.ntmps = 22 ∧
    Try.f95.body = some (cM Try.f95) ∧ Try.f95.ntmps = 39 ∧ Try.f44.results = #[.tmp 4] ∧ Try.f95.results = #[] ∧ Try.f44.body.isNone = false ∧ (Try.f44.name == "runtime.NumGoroutine") = false ∧ Try.f95.body.isNone = false ∧ (Try.f95.name == "runtime.NumGoroutine") = false :=
  ⟨by kernel_rfl, by kernel_rfl, by kernel_rfl, by kernel_rfl, by kernel_rfl, by kernel_rfl, by kernel_rfl, by kernel_rfl, by kernel_rfl, by kernel_rfl, by kernel_rfl⟩
variable {key : Int → Int}
theorem Tr.alloc0 {w : World} {I own : Nat → Prop} (o : Obj) : Tr w I own (w.alloc o) I own :=
  ⟨rfl, rfl, rfl, by simp, fun b hb _ => zae w o hb, fun _ h => h, fun _ h => .inl h, fun _ h => .inl h, fun a ha => World.frozen?_of_block (zae w o ha), Nat.le_refl _⟩
theorem KA.alloc0 (w : World) (o : Obj) : KA w (w.alloc o) := ⟨by simp, fun b hb => zae w o hb⟩
theorem z3p (hk : ∀ x, 0 ≤ key x) (hT : ∀ r : Int, (-2147483648 ≤ r ∧ r ≤ 2147483647) → PCall Try.prog 45 [.ptr ts, .int .i32 r] fun v => v = .int .i64 (key r)) (hc : zmv (.ptr ts) key) (L : List Int) (hr : R32 L) (hL : L.length < 1000000000000)
    {w3 : World} {I3 : Nat → Prop} {G3 : Nat → Pl} {a3 : Act} {v12 : LV} (hs3 : SRel w3 I3 G3 [(2, .box 0 0), (5, .box 2 0), (12, v12)] (hpO nl (.ptr ts) (i32s L)) 22 a3) (rec : Loop) (r1 : rec.state = .ready) (r2 : rec.pending = none) (r3 : rec.tmps = a3.tmps) (r4 : rec.params = #[13, 14])
    (r5 : rec.assign = cAs (cOr Try.f44)) (r6 : rec.body = cBd (cOr Try.f44)) (vs : Array Value) (hvsz : vs.size = 2) (hvs : ∀ (k : Nat) v, [LV.box 4 0, LV.box 3 0][k]? = some v → LRel w3 I3 G3 (hpO nl (.ptr ts) (i32s L)) v (vs.getD k undef)) :
    Calls Try.prog 95 (#[Value.func (.yield (w3.heap.size + 1)) #[] #[]] ++ vs) ((w3.alloc (.deferred (some []))).alloc (.loop rec)) fun e w4 => (∃ v, e = .returned v) ∧ ∃ I4 G4, HRel w4 I4 G4 (hpO nl (.ptr ts) (i32s (ord key L))) ∧
      ZR w3 I3 G3 (hpO nl (.ptr ts) (i32s L)) (w3.heap.size + 1) w3.heap.size rec w4 I4 G4 (hpO nl (.ptr ts) (i32s (ord key L))) := by
  obtain ⟨k1, k2, k3, k4, k5, k6, k7, k8, k9, k10, k11⟩ := zwt
  obtain ⟨W1, hW1⟩ : ∃ W1, W1 = (w3.alloc (.deferred (some []))).alloc (.loop rec) := ⟨_, rfl⟩
  rw [← hW1]
  have tA : Tr w3 I3 (Owns (hpO nl (.ptr ts) (i32s L)) G3) W1 I3 (Owns (hpO nl (.ptr ts) (i32s L)) G3) := by rw [hW1]; exact (Tr.alloc0 _).trans (Tr.alloc0 _)
  have ka : KA w3 W1 := by rw [hW1]; exact (KA.alloc0 _ _).trans (KA.alloc0 _ _)
  have hl1 : W1.heap[w3.heap.size + 1]? = some (.loop rec) := by rw [hW1]; have := World.alloc_heap_new (w3.alloc (.deferred (some []))) (.loop rec); rwa [World.size_alloc] at this
  have hD1 : W1.heap[w3.heap.size]? = some (.deferred (some [])) := by rw [hW1]; exact (zae _ _ (by simp)).trans (World.alloc_heap_new w3 _)
  have z1 : ZR w3 I3 G3 (hpO nl (.ptr ts) (i32s L)) (w3.heap.size + 1) w3.heap.size rec W1 I3 G3 (hpO nl (.ptr ts) (i32s L)) := ⟨(TrH.same tA).toN, hl1, hD1, fun h => by have := hs3.hh.cl _ h; omega, fun h => by have := hs3.hh.cl _ h; omega⟩
  have hRd := z2v hc hs3 rec r1 r2 r3 r4 r5 r6
  have hwalk := z3o hk hT (fun w I G h w' I' G' h' z hh _ t => z.step hh t) L hRd hr hL
  have hsW : SRel W1 I3 G3 (ziw [.pv (.raw (Value.func (.yield (w3.heap.size + 1)) #[] #[])), .box 4 0, .box 3 0] 0) (hpO nl (.ptr ts) (i32s L)) 39 { tmps := (#[Value.func (.yield (w3.heap.size + 1)) #[] #[]] ++ vs) ++ Array.replicate (39 - (#[Value.func (.yield (w3.heap.size + 1)) #[] #[]] ++ vs).size) undef, defers := [] } := by
    obtain ⟨y, hy⟩ : ∃ y, y = Value.func (.yield (w3.heap.size + 1)) #[] #[] := ⟨_, rfl⟩
    rw [← hy]
    obtain ⟨x0, x1, rfl⟩ : ∃ x0 x1, vs = #[x0, x1] := by
      obtain ⟨l⟩ := vs
      match l, hvsz with
      | [a, b], _ => exact ⟨a, b, rfl⟩
    have hk : Keeps w3 I3 W1 I3 := ⟨fun b _ hb => ka.2 b hb, fun b hb _ => hb⟩
    have h1 := (hvs 0 _ rfl).mono hk (.refl _ _)
    have h2 := (hvs 1 _ rfl).mono hk (.refl _ _)
    have e0 : ∀ r : Array Value, (#[y] ++ #[x0, x1] ++ r).getD 0 undef = y := fun r => by rw [Array.getD_eq_getD_getElem?, Array.getElem?_append_left (by simp)]; rfl
    have e1 : ∀ r : Array Value, (#[y] ++ #[x0, x1] ++ r).getD 1 undef = x0 := fun r => by rw [Array.getD_eq_getD_getElem?, Array.getElem?_append_left (by simp)]; rfl
    have e2 : ∀ r : Array Value, (#[y] ++ #[x0, x1] ++ r).getD 2 undef = x1 := fun r => by rw [Array.getD_eq_getD_getElem?, Array.getElem?_append_left (by simp)]; rfl
    refine ⟨hs3.hh.ka ka, ?_, by simp⟩
    have he : ERel W1 I3 G3 (hpO nl (.ptr ts) (i32s L)) [(0, .pv (.raw y)), (1, .box 4 0), (2, .box 3 0)] (#[y] ++ #[x0, x1] ++ Array.replicate (39 - (#[y] ++ #[x0, x1]).size) undef) :=
      ((ERel.nil _ _ _ _ _).cons (s := 2) (v := .box 3 0) (by rw [e2]; exact h2)).cons (s := 1) (v := .box 4 0) (by rw [e1]; exact h1) |>.cons (s := 0) (v := .pv (.raw y)) (by rw [e0]; exact .pv _ _ (.raw _))
    exact he
  refine calls_of_wp Try.func95 k4 ?_
  rw [k5]
  refine hwalk W1 I3 G3 _ _ hsW z1 ?_
  rintro x e' _ w4 I4 G4 a4 ⟨rfl, rfl⟩ hs4 hd4 z4
  exact ⟨hd4, _, results_none k7 _ _ _, ⟨_, rfl⟩, I4, G4, hs4.hh, z4⟩
theorem z3q (hk : ∀ x, 0 ≤ key x) (L : List Int) {w w3 w4 : World} {I I3 I4 : Nat → Prop} {G G3 G4 : Nat → Pl} {a3 : Act} {v12 : LV} (hs3 : SRel w3 I3 G3 [(2, .box 0 0), (5, .box 2 0), (12, v12)] (hpO nl (.ptr ts) (i32s L)) 22 a3) (hd30 : a3.defers = []) {rec : Loop}
    (ht3 : Tr w I (Owns [] G) w3 I3 (Owns (hpO nl (.ptr ts) (i32s L)) G3)) (hh4 : HRel w4 I4 G4 (hpO nl (.ptr ts) (i32s (ord key L)))) (z4 : ZR w3 I3 G3 (hpO nl (.ptr ts) (i32s L)) (w3.heap.size + 1) w3.heap.size rec w4 I4 G4 (hpO nl (.ptr ts) (i32s (ord key L)))) :
    (Code.seq (cO6 Try.f44) .ret).wp Try.prog (bodyPostM Fence.wide 0 Try.prog Try.f44 fun e w' => ∃ cv r h' I' G', e = .returned cv ∧ (∃ v, r = .pv v ∧ v = .sl nl false (i32s (ord key L))) ∧ HRel w' I' G' h' ∧ LRel w' I' G' h' r cv ∧ TrH w I G [] w' I' G' h')
      { tmps := a3.tmps, defers := [{ target := .collected w3.heap.size, args := #[] }] ++ a3.defers } (w4.putObj (w3.heap.size + 1) (.loop { rec with state := .exhausted })) := by
  obtain ⟨k1, k2, k3, k4, k5, k6, k7, k8, k9, k10, k11⟩ := zwt
  have hll := (zrx (key := key) hk L).len
  have n4 := zjc hh4 z4.hl rfl
  have l4 := (Array.getElem?_eq_some_iff.1 z4.hl).1
  have z5 : ZR w3 I3 G3 (hpO nl (.ptr ts) (i32s L)) (w3.heap.size + 1) w3.heap.size { rec with state := .exhausted } (w4.putObj (w3.heap.size + 1) (.loop { rec with state := .exhausted })) I4 G4 (hpO nl (.ptr ts) (i32s (ord key L))) :=
    ⟨z4.t.off (by omega) _, World.putObj_heap_same l4, (World.putObj_heap_other (by omega)).trans z4.hD, z4.nl, z4.nD⟩
  have hs5 : SRel (w4.putObj (w3.heap.size + 1) (.loop { rec with state := .exhausted })) I4 G4 [(2, .box 0 0), (5, .box 2 0)] (hpO nl (.ptr ts) (i32s (ord key L))) 22 { tmps := a3.tmps, defers := [{ target := .collected w3.heap.size, args := #[] }] ++ a3.defers } :=
    ⟨hh4.off _ z4.nl n4, fun i v hi => ((hs3.he.mono (zmf hs3.hh z4.t.t) (z1h (by simp [hll]) (zyz z4.t))).mono (Keeps.off z4.nl _) (.refl _ _)) i v ((LeE.le (e' := [(2, .box 0 0), (5, .box 2 0)]) ⟨rfl, rfl, trivial⟩) i v hi), hs3.hn⟩
  refine wp_seq (runS (E := [(4, .own 1)]) (Hh := hpO nl (.ptr ts) (i32s (ord key L))) (zf0 (Eq.mpr (eB6 _) ⟨rfl, rfl, rfl⟩)) hs5 fun w6 I6 G6 a6 hs6 hd6 ht6 => ?_)
  have z6 := z5.step hs5.hh ht6
  refine wp_ret ?_
  show LeavesInM Fence.wide 0 Try.prog _ a6.tmps _ a6.defers .returning w6
  rw [hd6, hd30]
  refine ⟨by simp, .inl ⟨_, _, rfl, run_takeDeferred z6.hD, ?_⟩⟩
  refine ⟨_, results_tmp k6 _ _ _, ?_⟩
  have hh7 := hs6.hh.off (.deferred none) z6.nD (zjc hs6.hh z6.hD rfl)
  have hv7 : LRel (w6.putObj w3.heap.size (.deferred none)) I6 G6 (hpO nl (.ptr ts) (i32s (ord key L))) (.own 1) (a6.tmps.getD 4 undef) := LRel.mono (hs6.he 4 _ rfl) (Keeps.off z6.nD (.deferred none)) (.refl _ _)
  have hrep := zld hh7 hv7 (rfl : toPV (hpO nl (.ptr ts) (i32s (ord key L))) (.own 1) = some (.sl nl false (i32s (ord key L))))
  have ht := (ht3.trans z6.t.t).off (l := w3.heap.size) ht3.size (.deferred none)
  have hno : ∀ b, ¬ Owns [] G b := fun b ⟨o, ob, ho, _⟩ => by simp at ho
  exact ⟨_, _, [], AllB I6 (hpO nl (.ptr ts) (i32s (ord key L))) G6, G6, rfl, ⟨_, rfl, rfl⟩, HRel.nil G6 (fun b hb => hb.elim (hh7.cl b) hh7.blk_lt), .pv _ _ hrep,
    ⟨⟨ht.os, ht.tape, ht.output, ht.size, ht.keep, fun b hb => .inl (ht.i1 b hb), fun b hb => hb.elim (ht.i2 b) (fun ho => (ht.own2 b ho).elim (fun x => absurd x (hno b)) (fun x => .inr (.inr x))), fun b hb => absurd hb (fun ⟨o, ob, ho, _⟩ => by simp at ho), ht.frz, ht.drawn⟩, Nat.le_refl _, fun o ob ho => by simp at ho⟩⟩
theorem z2x (hk : ∀ x, 0 ≤ key x) (hT : ∀ r : Int, (-2147483648 ≤ r ∧ r ≤ 2147483647) → PCall Try.prog 45 [.ptr ts, .int .i32 r] fun v => v = .int .i64 (key r)) (hc : zmv (.ptr ts) key) (L : List Int) (hr : R32 L) (hL : L.length < 1000000000000) :
    PCall Try.prog 44 [.ptr ts, .sl nl fl (i32s L)] fun v => v = .sl nl false (i32s (ord key L)) := by
  obtain ⟨k1, k2, k3, k4, k5, k6, k7, k8, k9, k10, k11⟩ := zwt
  refine ⟨⟨_, Try.func44, k8, k9⟩, fun w I G cargs hh hsz hrel => ?_⟩
  simp only [List.length_map, List.length_cons, List.length_nil] at hsz
  have hn : nl = true → L = [] := fun hn => by
    subst hn
    have h1 := hrel 1 _ rfl
    generalize cargs.getD 1 undef = c1 at h1
    cases h1 with
    | pv _ _ h1 =>
      generalize hes : i32s L = es at h1
      cases h1 with
      | slnil => exact List.map_eq_nil_iff.1 hes
  refine (callsIn_wide (n := 0)).1 (callsIn_of_wp_marks Try.func44 k2 trivial (wpIn_wide.2 ?_))
  rw [k3]
  have hs : SRel w I G (ziw [.pv (.ptr ts), .pv (.sl nl fl (i32s L))] 0) [] 22 { tmps := cargs ++ Array.replicate (22 - cargs.size) undef, defers := [] } := by
    refine ⟨hh, fun i v hi => ?_, by simp; omega⟩
    obtain ⟨_, h2⟩ := zgq hi
    rw [Nat.sub_zero] at h2
    have hlt : i < cargs.size := by have := (List.getElem?_eq_some_iff.1 h2).1; simp at this; omega
    have := hrel i v h2
    have e1 : (cargs ++ Array.replicate (22 - cargs.size) undef).getD i undef = cargs.getD i undef := by
      rw [Array.getD_eq_getD_getElem?, Array.getD_eq_getD_getElem?, Array.getElem?_append_left hlt]
    simp only [e1]
    exact VRel.of_plain this
  rw [k1]
  -- what begins it
  refine wp_seq (runS (E := [(1, .pv (.sl nl fl (i32s L))), (2, .box 0 0), (4, .pv (.sl true true []))]) (Hh := [.box [.pv (.ptr ts)]]) (zf0 (Eq.mpr (eB0 _) ⟨rfl, rfl, rfl⟩)) hs fun w1 I1 G1 a1 hs1 hd1 ht1 => ?_)
  have hs1' := hs1.le (LeE.le (e' := [(1, .pv (.sl nl fl (i32s L))), (2, .box 0 0)]) ⟨rfl, rfl, trivial⟩)
  refine wp_seq (runS (E := [(2, .box 0 0), (5, .box 2 0)]) (Hh := [.box [.pv (.ptr ts)], .sl (21, 1) false nl (i32s L), .box [.own 1]]) (zf0 (Eq.mpr (eB1 _) ((z2w nl fl (i32s L) (fun h => by rw [hn h]; rfl) ?_).mono fun r h' hq => ⟨(), hq, trivial, rfl, rfl, rfl⟩))) hs1' fun w2 I2 G2 a2 hs2 hd2 ht2 => ?_)
  · exact ⟨rfl, .inl rfl, fun e he => (by cases he), fun e he => by obtain ⟨x, _, rfl⟩ := List.mem_map.1 (List.mem_of_mem_head? he); rfl, by simp; omega⟩
  refine wp_seq (wp_seq (runS (E := [(2, .box 0 0), (5, .box 2 0), (12, .fn 95 [.box 4 0, .box 3 0])]) (Hh := hpO nl (.ptr ts) (i32s L)) (zf0 (Eq.mpr (eB2 _) (zmw nl ts (i32s L) ?_))) hs2 fun w3 I3 G3 a3 hs3 hd3 ht3 => ?_))
  · exact ⟨(), ⟨rfl, rfl⟩, ⟨⟨rfl, rfl, rfl⟩, trivial⟩, rfl, rfl, rfl⟩
  -- the loop
  have hd30 : a3.defers = [] := hd3.trans (hd2.trans hd1)
  obtain ⟨q1, q2, q3, _, _, _⟩ := zzn
  refine wp_block ?_
  rw [q3]
  obtain ⟨vs, hv12, hvsz, hvs⟩ : ∃ vs : Array Value, a3.tmps.getD 12 undef = .func (.func 95) #[] vs ∧ vs.size = 2 ∧ ∀ (k : Nat) v, [LV.box 4 0, LV.box 3 0][k]? = some v → LRel w3 I3 G3 (hpO nl (.ptr ts) (i32s L)) v (vs.getD k undef) := by
    have := hs3.he 12 _ rfl
    generalize a3.tmps.getD 12 undef = cv at this
    cases this with
    | fn f cs vs h1 h6 => exact ⟨vs, rfl, h1, h6⟩
  refine (wpIn_wide (n := 0)).1 (wpIn_rangeFunc (F := Fence.wide) fun fn _ => ?_)
  obtain ⟨rec, hrec⟩ : ∃ rec : Loop, rec = { state := .ready, pending := none, fn := fn, tmps := a3.tmps, params := #[13, 14], assign := cAs (cOr Try.f44), body := cBd (cOr Try.f44), defers := w3.heap.size } := ⟨_, rfl⟩
  refine ⟨w3.heap.size + 1, [{ target := .collected w3.heap.size, args := #[] }], (w3.alloc (.deferred (some []))).alloc (.loop rec), { target := .fn (.func 95) vs, args := #[.func (.yield (w3.heap.size + 1)) #[] #[]] }, (w3.alloc (.deferred (some []))).alloc (.loop rec), 95,
    #[.func (.yield (w3.heap.size + 1)) #[] #[]] ++ vs, (w3.alloc (.deferred (some []))).alloc (.loop rec), ?_, ?_, fun _ _ => trivial, ?_, fun x => (by cases x), ?_⟩
  · rw [hrec]; exact run_enterLoop_outer _ _ _ _ _
  · have he : a3.eval (.tmp 12) = .func (.func 95) #[] vs := hv12
    simp only [resolve, he]
    simp [go_sem]
  · simp only [invoke]
    exact zgg ⟨_, Try.func95, k10, k11⟩
  refine (callsIn_wide).2 (Calls.mono (z3p hk hT hc L hr hL hs3 rec (by rw [hrec]) (by rw [hrec]) (by rw [hrec]) (by rw [hrec]) (by rw [hrec]) (by rw [hrec]) vs hvsz hvs) ?_)
  rintro e w4 ⟨⟨v, rfl⟩, I4, G4, hh4, z4⟩
  have hp : rec.pending = none := by rw [hrec]
  refine ⟨none, _, (run_endLoop z4.hl (by rw [hrec]; simp)).trans (congrArg (fun j => Result.ok j _) hp), ?_⟩
  exact z3q hk L hs3 hd30 ((ht1.t.trans ht2.t).trans ht3.t) hh4 z4
end
end Go.Eng



namespace Go.Eng
open Go Go.Proofs
def zc4 (n f : Bool) (es : LL) (k : Int) (R : PV → Prop) : Prop :=
 if decide ((↑es.length : Int) > k) = true then (slOK es.length none (some k) none ∧ szOK es 1) ∧ R (PV.sl n (f && decide (k = (↑es.length : Int))) (List.drop 0 (List.take k.toNat es))) else R (PV.sl n f es)
theorem zjd (n f : Bool) (es : LL) (k : Int) {R : PV → Prop} (h : zc4 n f es k R) : PCall Try.prog 10 [.sl n f es, .int .i64 k] R :=
  PCall.of Try.func10 (by kernel_rfl) (by kernel_rfl) (Nat.le_of_ble_eq_true (by kernel_rfl)) (Eq.mpr (by kernel_rfl : aFn Try.prog (fun _ => none) Try.f10 [0, 1, 4, 8] (fun _ => none) (Try.f10.body.getD .skip) [.sl n f es, .int .i64 k] R = zc4 n f es k R) h)

def z1i (n f : Bool) (es : LL) (n2 f2 : Bool) (es2 : LL) (x5 : Int) : Env × Hp := ([(0, LV.pv (PV.sl n f es)), (1, LV.pv (PV.sl n2 f2 es2)), (5, .pv (.int IntKind.i64 x5))], [])
def zb0 (n f : Bool) (es : LL) (n2 f2 : Bool) (es2 : LL) (J : Int → Prop) (μ : Int → Nat) (R : PV → Prop) : Prop :=
 if ((↑es.length : Int) != (↑es2.length : Int)) = true then R (Zb false) else (zab (z1i n f es n2 f2 es2 (0 : Int)) ∧ J (0 : Int)) ∧ ∀ (x5 : Int), J x5 → if decide (x5 < (↑es.length : Int)) = true then zaq es x5 1 ∧ ∃ (n1 : Int),
 (es.getD x5.toNat []).head? = some (Z3 n1) ∧ zaq es2 x5 1 ∧ ∃ (n3 : Int), (es2.getD x5.toNat []).head? = some (Z3 n3) ∧ if (n1 != n3) = true then R (Zb false) else zab (z1i n f es n2 f2 es2 (IntKind.i64.wrap (x5 + 1))) ∧ J
 (IntKind.i64.wrap (x5 + 1)) ∧ μ (IntKind.i64.wrap (x5 + 1)) < μ x5 else R (Zb true)
theorem zib (n f : Bool) (es : LL) (n2 f2 : Bool) (es2 : LL) (J : Int → Prop) (μ : Int → Nat) {R : PV → Prop} (h : zb0 n f es n2 f2 es2 J μ R) : PCall Try.prog 15 [.sl n f es, .sl n2 f2 es2] R :=
  PCall.of Try.func15 (by kernel_rfl) (by kernel_rfl) (Nat.le_of_ble_eq_true (by kernel_rfl)) (Eq.mpr (by kernel_rfl : aFn Try.prog (fun _ => none) Try.f15 [0, 1, 4, 5, 10, 14, 25] (fun zz_ => match zz_ with | 4 => some ⟨Int × Unit, fun s => z1i n f es n2 f2 es2 s.1, fun _ s => J s.1, fun s => μ s.1, fun e h => (((gI e 5), ())), [], [0, 1, 5], [], fun p => ∀ (x5 : Int), p (x5, ()), fun p h s => h s.1⟩ | _ => none) (Try.f15.body.getD .skip) [.sl n f es, .sl n2 f2 es2] R = zb0 n f es n2 f2 es2 J μ R) h)

def z1j (tc tg tj tf tp : PV) (M S : List (PV × PV)) (n f : Bool) (es : LL) (x12 : Int) (h0_0 : PV) (n_1 : Bool) (s_1 : LL) : Env × Hp := ([(0, LV.pv (PV.ptr [tc, tg, tj, tf, tp, PV.mp M, PV.mp S])), (5, LV.box 0 0), (10, LV.pv (PV.sl n f es)), (11, LV.pv (PV.int IntKind.i64 ↑es.length)), (12, .pv (.int IntKind.i64 x12))], [.box [.pv h0_0, LV.own 1], .sl (21, 1) true n_1 s_1])
def zgy (tc tg tj tf tp : PV) (M S : List (PV × PV)) (n f : Bool) (es : LL) (J : Int → PV → Bool → (LL) → Prop) (μ : Int → PV → Bool → (LL) → Nat) (R : PV → Prop) : Prop :=
 zha (PV.ptr [tc, tg, tj, tf, tp, PV.mp M, PV.mp S]) = true ∧ (zab (z1j tc tg tj tf tp M S n f es (0 : Int) (PV.ptr [tc, tg, tj, tf, tp, PV.mp M, PV.mp S]) true []) ∧ J (0 : Int) (PV.ptr [tc, tg, tj, tf, tp, PV.mp M, PV.mp S]) true [])
 ∧ ∀ (x12 : Int) (h0_0 : PV) (n_1 : Bool) (s_1 : LL), J x12 h0_0 n_1 s_1 → if decide (x12 < (↑es.length : Int)) = true then zaq es x12 1 ∧ ∃ (n1 : Int), (es.getD x12.toNat []).head? = some (Z3 n1) ∧ ACall Try.prog 43 [LV.box 0 0, LV.pv (Z3
 n1), Y6 8] [Ob.box [LV.pv h0_0, LV.own 1], Ob.sl (21, 1) false n_1 s_1] fun (r : LV) (h' : Hp) ↦ ∃ (t : Bool × LL), (r = LV.tup [] ∧ h' = [Ob.box [LV.pv h0_0, LV.own 1], Ob.sl (21, 1) true t.fst t.snd]) ∧ (True ∧ True ∧ True) ∧ zab (z1j
 tc tg tj tf tp M S n f es (IntKind.i64.wrap (x12 + 1)) h0_0 t.fst t.snd) ∧ J (IntKind.i64.wrap (x12 + 1)) h0_0 t.fst t.snd ∧ μ (IntKind.i64.wrap (x12 + 1)) h0_0 t.fst t.snd < μ x12 h0_0 n_1 s_1 else PCall Try.prog 44 [PV.ptr [tc, tg, tj,
 tf, tp, PV.mp M, PV.mp S], PV.sl n_1 false s_1] fun (v : PV) ↦ ∃ (n1 : Bool), ∃ (f1 : Bool), ∃ (es1 : LL), v = PV.sl n1 f1 es1 ∧ R (PV.sl n1 f1 es1)
theorem zqv (tc tg tj tf tp : PV) (M S : List (PV × PV)) (n f : Bool) (es : LL) (J : Int → PV → Bool → (LL) → Prop) (μ : Int → PV → Bool → (LL) → Nat) {R : PV → Prop} (h : zgy tc tg tj tf tp M S n f es J μ R) : PCall Try.prog 16 [.ptr [tc, tg, tj, tf, tp, .mp M, .mp S], .sl n f es] R :=
  PCall.of Try.func16 (by kernel_rfl) (by kernel_rfl) (Nat.le_of_ble_eq_true (by kernel_rfl)) (Eq.mpr (by kernel_rfl : aFn Try.prog (fun zz_ => match zz_ with | 43 => some ⟨Bool × LL, fun _ hs t => (.tup [], match hs with | [.box (x :: _), .sl ty _ _ _] => [.box [x, .own 1], .sl ty true t.1 t.2] | [.box (x :: _)] => [.box [x, .own 1], .sl (21, 1) true t.1 t.2] | h => h), none⟩ | _ => none) Try.f16 [0, 1, 4, 5, 7, 10, 11, 12, 13] (fun zz_ => match zz_ with | 3 => some ⟨Int × PV × Bool × (LL), fun s => z1j tc tg tj tf tp M S n f es s.1 s.2.1 s.2.2.1 s.2.2.2, fun _ s => J s.1 s.2.1 s.2.2.1 s.2.2.2, fun s => μ s.1 s.2.1 s.2.2.1 s.2.2.2, fun e h => (gI e 12, hP h 0 0, oN h 1, oS h 1), [(1000001, 21, 1)], [0, 5, 10, 11, 12], [], fun p => ∀ (x12 : Int) (h0_0 : PV) (n_1 : Bool) (s_1 : LL), p (x12, h0_0, n_1, s_1), fun p h s => h s.1 s.2.1 s.2.2.1 s.2.2.2⟩ | _ => none) (Try.f16.body.getD .skip) [.ptr [tc, tg, tj, tf, tp, .mp M, .mp S], .sl n f es] R = zgy tc tg tj tf tp M S n f es J μ R) h)

end Go.Eng



namespace Go.Eng.Rows
open Go Go.Eng Go.Eng.Trie
def zqw (rows : List Row) : Bool → Int → List Int → Int
  | m, _, [] => if m then 2 else 0
  | m, last, r :: l => if (decide (ofQ rows r = 1) || (!decide (numG rows 1 r = 0) && decide (numG rows 1 r < last))) then 1 else zqw rows (m || decide (ofQ rows r = 2)) (numG rows 1 r) l
def zwu (rows : List Row) : Bool := rows.all fun x => !decide (x.kind = 2) || ((decide (1 ≤ x.a) && decide (x.a ≤ 1114111)) && (decide (0 ≤ x.b) && decide (x.b ≤ 1114111)))
theorem zry {rows : List Row} (h : zwu rows = true) : zar rows := fun x hx hk => by
  have := List.all_eq_true.1 h x hx
  simpa [hk] using this
def zy0 (rows : List Row) : Bool := rows.all fun x => !decide (x.kind = 2) || (decide (x.fr = x.to) && ((decide (0 ≤ x.fr) && decide (x.fr ≤ 1114111)) && decide (first rows 2 x.fr = some (x.a, x.b))))
theorem zuo {rows : List Row} (h : zy0 rows = true) : zbz rows := fun x hx hk => by
  have := List.all_eq_true.1 h x hx
  simpa [hk] using this
def z1k (rows : List Row) : Bool := rows.all fun x => !decide (x.kind = 1) || decide (0 ≤ x.a)
def zgz (rows : List Row) : Prop := ∀ r, 0 ≤ numG rows 1 r
theorem zwv {rows : List Row} (h : z1k rows = true) : zgz rows := fun r => by
  unfold numG
  cases hf : zbk rows 1 r with
  | none => exact Int.le_refl _
  | some p =>
    obtain ⟨x, hx, hk, ha, _⟩ := zdd hf
    have := List.all_eq_true.1 h x hx
    simp only [hk, decide_true, Bool.not_true, Bool.false_or, decide_eq_true_eq] at this
    simp only; omega
end Go.Eng.Rows



namespace Go.Eng
open Go Go.Proofs Go.Eng.Rows Go.Eng.Trie
theorem zmg : zar tab := zry (by kernel_rfl)
theorem zww : zbz tab := zuo (by kernel_rfl)
theorem zrz : zgz tab := zwv (by kernel_rfl)
theorem q1 : zqw tab false 0 [101, 769] = 2 := by kernel_rfl
theorem q2 : zqw tab false 0 [233] = 0 := by kernel_rfl
theorem q3 : zqw tab false 0 [769, 807] = 1 := by kernel_rfl
theorem q4 : zqw tab false 0 [8491] = 1 := by kernel_rfl
theorem q5 : zfc tab 101 = true := by kernel_rfl
theorem q6 : zfc tab 769 = false := by kernel_rfl
theorem q7 : zfc tab 4449 = false := by kernel_rfl
end Go.Eng



namespace Go.Eng.Rows
open Go Go.Eng Go.Eng.Trie Go.Eng.Srt
def nfdL (rows : List Row) (l : List Int) : List Int := ord (numG rows 1) (l.flatMap (zat rows 8))
def zer (rows : List Row) (x : Int) : Bool := !sylB x && decide (zah rows x = (0, 0))
def z1l (rows : List Row) : Prop := ∀ r, ∀ x ∈ zat rows 8 r, zer rows x = true
theorem zwx {rows : List Row} {r : Int} {p : Int × Int} (h : zbk rows 2 r = some p) : ∃ x ∈ rows, x.kind = 2 ∧ x.fr ≤ r ∧ r ≤ x.to := by
  obtain ⟨x, h1, h2, _, _, h3, h4, _⟩ := zdd h
  exact ⟨x, h1, h2, h3, h4⟩
theorem zje {rows : List Row} {x : Int} (h : zer rows x = true) (d : Nat) : zat rows d x = [x] := by
  simp only [zer, Bool.and_eq_true, Bool.not_eq_true', decide_eq_true_eq] at h
  exact zi8 h.1 h.2
theorem zqx {rows : List Row} : ∀ {l : List Int}, (∀ x ∈ l, zer rows x = true) → l.flatMap (zat rows 8) = l
  | [], _ => rfl
  | x :: l, h => by
    rw [List.flatMap_cons, zje (h x List.mem_cons_self), zqx fun y hy => h y (List.mem_cons_of_mem _ hy)]; rfl
section
variable {rows : List Row} (hk : zgz rows)
include hk
theorem z1m {l : List Int} {x : Int} : x ∈ nfdL rows l ↔ ∃ r ∈ l, x ∈ zat rows 8 r := by
  unfold nfdL
  rw [← (zrx hk _).mem, List.mem_flatMap]
theorem z1n (hp : zar rows) {l : List Int} (h : ∀ x ∈ l, -2147483648 ≤ x ∧ x ≤ 2147483647) : ∀ x ∈ nfdL rows l, -2147483648 ≤ x ∧ x ≤ 2147483647 := fun x hx => by
  obtain ⟨r, hr, h2⟩ := (z1m hk).1 hx
  rcases zgx hp 8 r x h2 with rfl | h3
  · exact h x hr
  · omega
theorem zwy (l : List Int) : (nfdL rows l).length ≤ 768 * l.length := by
  unfold nfdL
  rw [← (zrx hk _).len]
  induction l with
  | nil => simp
  | cons x l ih =>
    have := zfd rows 8 x
    rw [List.flatMap_cons, List.length_append, List.length_cons]; omega
end
end Go.Eng.Rows



namespace Go.Eng
open Go Go.Proofs Go.Eng.Rows Go.Eng.Trie
end Go.Eng



namespace Go.Eng
open Go Go.Proofs Go.Eng.Rows Go.Eng.Trie
end Go.Eng



namespace Go.Eng
open Go Go.Proofs Go.Eng.Rows Go.Eng.Trie Go.Eng.Srt
theorem PCall.ofA {P : Program} {f : Nat} {args : List PV} {Q : LV → Hp → Prop} {R : PV → Prop} (hc : ACall P f (args.map .pv) [] Q) (hq : ∀ r h', Q r h' → ∃ p, toPV h' r = some p ∧ R p) : PCall P f args R :=
  ⟨hc.1, fun w I G cargs h1 h2 h3 => (hc.2 w I G cargs h1 h2 h3).mono fun e w' ⟨cv, r, h', I', G', e1, e2, e3, e4, e5⟩ => by
    obtain ⟨p, hp, hR⟩ := hq r h' e2
    have ht := e5.t
    have hno : ∀ b, ¬ Owns [] G b := fun b ⟨o, ob, ho, _⟩ => by simp at ho
    exact ⟨cv, .pv p, [], AllB I' h' G', G', e1, ⟨p, rfl, hR⟩, HRel.nil G' (fun b hb => hb.elim (e3.cl b) e3.blk_lt), .pv _ _ (zld e3 e4 hp),
      ⟨⟨ht.os, ht.tape, ht.output, ht.size, ht.keep, fun b hb => .inl (ht.i1 b hb), fun b hb => hb.elim (ht.i2 b) (fun ho => (ht.own2 b ho).elim (fun x => absurd x (hno b)) (fun x => .inr (.inr x))), fun b hb => absurd hb (fun ⟨o, ob, ho, _⟩ => by simp at ho), ht.frz, ht.drawn⟩, Nat.le_refl _, fun o ob ho => by simp at ho⟩⟩⟩
theorem pFew (n f : Bool) (l : List Int) (k : Nat) (hk : k < 1000) : PCall Try.prog 10 [.sl n f (i32s l), .int .i64 k] fun v => ∃ n f, v = .sl n f (i32s (l.take k)) := by
  refine zjd _ _ _ _ ?_; unfold zc4
  refine iteD (fun hc => ?_) (fun hc => ?_)
  · simp only [decide_eq_true_eq, zaf] at hc
    refine ⟨⟨by unfold slOK; simp; omega, zcj _⟩, n, _, by rw [show ((k : Int)).toNat = k by omega]; simp only [i32s, List.map_take, List.drop_zero]; rfl⟩
  · simp only [decide_eq_true_eq, zaf] at hc
    rw [List.take_of_length_le (by omega)]
    exact ⟨_, _, rfl⟩
theorem zy1 (n f n2 f2 : Bool) (l m : List Int) (hl : l.length < 1000000000000) : zb0 n f (i32s l) n2 f2 (i32s m) (fun i => 0 ≤ i ∧ i ≤ l.length ∧ l.take i.toNat = m.take i.toNat) (fun i => l.length - i.toNat) fun v => v = .bool (decide (l = m)) := by
  unfold zb0
  refine iteD (fun hc => ?_) (fun hc => ?_)
  · simp only [zaf, bne_iff_ne, ne_eq] at hc
    have : l ≠ m := fun e => hc (by rw [e])
    simp [this]
  · simp only [zaf, bne_iff_ne, ne_eq, Decidable.not_not] at hc
    have hlm : l.length = m.length := by omega
    refine ⟨⟨rfl, Int.le_refl _, by omega, rfl⟩, ?_⟩
    rintro i ⟨i0, i1, he⟩
    refine iteD (fun h => ?_) (fun h => ?_)
    · simp only [decide_eq_true_eq, zaf] at h
      have hi : i.toNat < l.length := by omega
      have hj : i.toNat < m.length := by omega
      obtain ⟨g1, g2⟩ := zhp i0 hi
      obtain ⟨k1, k2⟩ := zhp i0 hj
      have hw : IntKind.i64.wrap (i + 1) = i + 1 := zaa (by omega) (by omega)
      refine ⟨g1, l[i.toNat], by rw [g2]; rfl, k1, m[i.toNat], by rw [k2]; rfl, iteD (fun hc2 => ?_) (fun hc2 => ?_)⟩
      · simp only [bne_iff_ne, ne_eq] at hc2
        have : l ≠ m := fun e => hc2 (by subst e; rfl)
        simp [this]
      · simp only [bne_iff_ne, ne_eq, Decidable.not_not] at hc2
        rw [hw]
        exact ⟨rfl, ⟨by omega, by omega, by rw [show (i + 1).toNat = i.toNat + 1 by omega, zas hi, zas hj, he, hc2]⟩, by dsimp only; omega⟩
    · simp only [decide_eq_true_eq, zaf] at h
      rw [List.take_of_length_le (by omega), List.take_of_length_le (by omega)] at he
      simp [he]
theorem z3r (n f n2 f2 : Bool) (l m : List Int) (hl : l.length < 1000000000000) : PCall Try.prog 15 [.sl n f (i32s l), .sl n2 f2 (i32s m)] fun v => v = .bool (decide (l = m)) :=
  zib _ _ _ _ _ _ _ _ (zy1 n f n2 f2 l m hl)
section
variable {rows : List Row}
end
end Go.Eng



namespace Go.Eng
open Go Go.Proofs Go.Eng.Rows Go.Eng.Trie Go.Eng.Srt
section
variable {rows : List Row}
theorem set1 {es : List (List PV)} {k : Nat} {v x : PV} (h : es.getD k [] = [x]) : es.set k (v :: List.append._f [] PUnit.unit (List.drop 1 (es.getD k []))) = es.set k [v] := by rw [h]; rfl
end
end Go.Eng



namespace Go.Eng
open Go Go.Proofs Go.Eng.Rows Go.Eng.Trie Go.Eng.Srt
theorem z2y : tab.length < 1000000 := by have := z0o; omega
theorem zzo (n f : Bool) : PCall Try.prog 11 [.sl n f (rws tab)] (zf1 tab) := z2s n f tab z2y zmg
theorem R32.take {l : List Int} (h : R32 l) (k : Nat) : R32 (l.take k) := fun x hx => h x (List.mem_of_mem_take hx)
section
variable {rows : List Row} {v : PV}
theorem z3s {ts : List PV} {key : Int → Int} (hT : ∀ r : Int, (-2147483648 ≤ r ∧ r ≤ 2147483647) → PCall Try.prog 45 [.ptr ts, .int .i32 r] fun v => v = .int .i64 (key r)) : zmv (.ptr ts) key := by
  intro a b ha hb
  refine zkq _ _ _ ?_; unfold zdp
  refine .inl ⟨ts, rfl, .inl ⟨ts, rfl, ?_⟩⟩
  refine (hT a ha).mono ?_
  rintro _ rfl
  refine ⟨_, rfl, ?_⟩
  refine (hT b hb).mono ?_
  rintro _ rfl
  refine ⟨_, rfl, ?_⟩
  refine (p61 _ _).mono ?_
  rintro _ rfl
  refine ⟨_, rfl, _, rfl, ?_⟩
  unfold cmpS; split <;> (try split) <;> omega
theorem z2z (hk : zgz rows) (hv : zf1 rows v) (n f : Bool) (L : List Int) (hr : R32 L) (hL : L.length < 1000000000000) : PCall Try.prog 44 [v, .sl n f (i32s L)] fun x => ∃ n f, x = .sl n f (i32s (ord (numG rows 1) L)) := by
  obtain ⟨tc, tg, tj, tf, tp, made, sec, rfl, ht, hm⟩ := hv
  have hT : ∀ r : Int, (-2147483648 ≤ r ∧ r ≤ 2147483647) → PCall Try.prog 45 [.ptr [tc, tg, tj, tf, tp, .mp (zbi made), .mp (zdv sec)], .int .i32 r] fun v => v = .int .i64 (numG rows 1 r) := fun r hr => zqp _ _ ht hr
  exact (z2x hk hT (z3s hT) L hr hL).mono fun x hx => ⟨_, _, hx⟩
theorem zy2 (hp : zar rows) {l : List Int} (h : R32 l) : R32 (l.flatMap (zat rows 8)) := fun x hx => by
  obtain ⟨r, hr, h2⟩ := List.mem_flatMap.1 hx
  rcases zgx hp 8 r x h2 with rfl | h3
  · exact h x hr
  · omega
theorem ztg (rows : List Row) (l : List Int) : (l.flatMap (zat rows 8)).length ≤ 768 * l.length := by
  induction l with
  | nil => simp
  | cons x l ih =>
    have := zfd rows 8 x
    rw [List.flatMap_cons, List.length_append, List.length_cons]; omega
theorem zwz (rows : List Row) {l : List Int} {i : Nat} (hi : i < l.length) : (l.take (i + 1)).flatMap (zat rows 8) = (l.take i).flatMap (zat rows 8) ++ zat rows 8 l[i] := by
  rw [zas hi, List.flatMap_append]; simp
theorem qNFD (hp : zar rows) (hk : zgz rows) (hv : zf1 rows v) (n f : Bool) (L : List Int) (hr : R32 L) (hL : L.length < 1000000) : PCall Try.prog 16 [v, .sl n f (i32s L)] fun x => ∃ n f, x = .sl n f (i32s (nfdL rows L)) := by
  have hv' := hv
  obtain ⟨tc, tg, tj, tf, tp, made, sec, rfl, ht, hm⟩ := hv
  refine zqv _ _ _ _ _ _ _ _ _ _ (fun i h0 _ s => h0 = .ptr [tc, tg, tj, tf, tp, .mp (zbi made), .mp (zdv sec)] ∧ 0 ≤ i ∧ i ≤ L.length ∧ s = i32s ((L.take i.toNat).flatMap (zat rows 8))) (fun i _ _ _ => L.length - i.toNat) ?_
  unfold zgy
  refine ⟨rfl, ⟨rfl, rfl, Int.le_refl _, by omega, rfl⟩, ?_⟩
  rintro i h0 n1 _ ⟨rfl, i0, i1, rfl⟩
  refine iteD (fun hc => ?_) (fun hc => ?_)
  · simp only [decide_eq_true_eq, zaf] at hc
    have hi : i.toNat < L.length := by omega
    obtain ⟨g1, g2⟩ := zhp i0 hi
    have hx := hr _ (List.getElem_mem hi)
    have hw : IntKind.i64.wrap (i + 1) = i + 1 := zaa (by omega) (by omega)
    have hfl := ztg rows (L.take i.toNat)
    rw [List.length_take] at hfl
    refine ⟨g1, L[i.toNat], by rw [g2]; rfl, ?_⟩
    refine (z2t _ _ hp ht 8 _ n1 _ (by omega) hx (by omega)).mono ?_
    rintro r h' ⟨nl, rfl, rfl⟩
    rw [hw]
    exact ⟨(nl, _), ⟨rfl, rfl⟩, ⟨trivial, trivial, trivial⟩, rfl, ⟨rfl, by omega, by omega, by rw [show (i + 1).toNat = i.toNat + 1 by omega, zwz rows hi]; rfl⟩, by dsimp only; omega⟩
  · simp only [decide_eq_true_eq, zaf] at hc
    rw [List.take_of_length_le (by omega)]
    have hfl := ztg rows L
    refine (z2z hk hv' n1 false _ (zy2 hp hr) (by omega)).mono ?_
    rintro _ ⟨n2, f2, rfl⟩
    exact ⟨_, _, _, rfl, _, _, rfl⟩
theorem z21 (hk : zgz rows) {l : List Int} (h : l.length < 1000000) : (nfdL rows l).length < 1000000000000 := by
  have := zwy hk l; omega
end
end Go.Eng



namespace Go.Eng.Rows
open Go Go.Eng Go.Eng.Trie Go.Eng.Srt
def zkt (a b : Int) : Option Int :=
  if (4352 ≤ a ∧ a < 4371) ∧ 4449 ≤ b ∧ b < 4470 then some (44032 + ((a - 4352) * 21 + (b - 4449)) * 28)
  else if (sylB a = true ∧ (a - 44032) % 28 = 0) ∧ 4519 < b ∧ b < 4547 then some (a + (b - 4519)) else none
def cmpB (rows : List Row) (a b : Int) (x : Row) : Bool := decide (x.kind = 2) && (decide (x.a = a) && (decide (x.b = b) && (!decide (b = 0) && !outG rows x.fr)))
def cmpS (rows : List Row) (a b : Int) (o : Option Int) (x : Row) : Option Int :=
  if cmpB rows a b x then (match o with | none => some x.fr | some r => if x.fr < r then some x.fr else some r) else o
def cmpG (rows : List Row) (a b : Int) : Option Int := rows.foldl (cmpS rows a b) none
def zku (rows : List Row) (a b : Int) : Option Int := match zkt a b with | some r => some r | none => cmpG rows a b
theorem zzp (rows : List Row) (a b : Int) (l : List Row) : match l.foldl (cmpS rows a b) none with
    | none => ∀ x ∈ l, cmpB rows a b x = false
    | some r => (∃ x ∈ l, cmpB rows a b x = true ∧ x.fr = r) ∧ ∀ x ∈ l, cmpB rows a b x = true → r ≤ x.fr := by
  have : ∀ (m : List Row), match m.reverse.foldl (cmpS rows a b) none with
    | none => ∀ x ∈ m, cmpB rows a b x = false
    | some r => (∃ x ∈ m, cmpB rows a b x = true ∧ x.fr = r) ∧ ∀ x ∈ m, cmpB rows a b x = true → r ≤ x.fr := by
    intro m
    induction m with
    | nil => intro x hx; cases hx
    | cons y m ih =>
      rw [List.reverse_cons, List.foldl_append, List.foldl_cons, List.foldl_nil]
      generalize m.reverse.foldl (cmpS rows a b) none = o at ih
      unfold cmpS
      cases hc : cmpB rows a b y with
      | false =>
        simp only [Bool.false_eq_true, if_false]
        cases o with
        | none => intro x hx; rcases List.mem_cons.1 hx with rfl | hx; exact hc; exact ih x hx
        | some r =>
          obtain ⟨⟨x, h1, h2⟩, h3⟩ := ih
          exact ⟨⟨x, List.mem_cons_of_mem _ h1, h2⟩, fun z hz hz2 => by rcases List.mem_cons.1 hz with rfl | hz; rw [hc] at hz2; cases hz2; exact h3 z hz hz2⟩
      | true =>
        simp only [if_true]
        cases o with
        | none =>
          refine ⟨⟨y, List.mem_cons_self, hc, rfl⟩, fun z hz hz2 => ?_⟩
          rcases List.mem_cons.1 hz with rfl | hz
          · exact Int.le_refl _
          · have := ih z hz; rw [this] at hz2; cases hz2
        | some r =>
          obtain ⟨⟨x, h1, h2, h4⟩, h3⟩ := ih
          by_cases hlt : y.fr < r
          · simp only [hlt, if_true]
            refine ⟨⟨y, List.mem_cons_self, hc, rfl⟩, fun z hz hz2 => ?_⟩
            rcases List.mem_cons.1 hz with rfl | hz
            · exact Int.le_refl _
            · have := h3 z hz hz2; omega
          · simp only [hlt, if_false]
            refine ⟨⟨x, List.mem_cons_of_mem _ h1, h2, h4⟩, fun z hz hz2 => ?_⟩
            rcases List.mem_cons.1 hz with rfl | hz
            · omega
            · exact h3 z hz hz2
  have h := this l.reverse
  rw [List.reverse_reverse] at h
  generalize l.foldl (cmpS rows a b) none = o at h ⊢
  cases o with
  | none => intro x hx; exact h x (List.mem_reverse.2 hx)
  | some r => exact ⟨by obtain ⟨⟨x, h1, h2⟩, _⟩ := h; exact ⟨x, List.mem_reverse.1 h1, h2⟩, fun x hx => h.2 x (List.mem_reverse.2 hx)⟩
theorem zo6 {rows : List Row} (h1 : zbz rows) {x : Row} (hx : x ∈ rows) (hk : x.kind = 2) : zah rows x.fr = (x.a, x.b) ∧ 0 ≤ x.fr ∧ x.fr ≤ 1114111 := by
  obtain ⟨e1, e2, e3⟩ := h1 x hx hk
  have hf : zbk rows 2 x.fr = some (x.a, x.b) := by unfold zbk; rw [if_pos e2]; exact e3
  exact ⟨by unfold zah; rw [hf], e2⟩
theorem zth {rows : List Row} (h1 : zbz rows) {r : Int} (h : zah rows r ≠ (0, 0)) : ∃ x ∈ rows, x.kind = 2 ∧ x.fr = r ∧ zah rows r = (x.a, x.b) := by
  cases hf : zbk rows 2 r with
  | none => exact absurd (by unfold zah; rw [hf]) h
  | some p =>
    obtain ⟨y, hy, hk, f1, f2⟩ := zwx hf
    obtain ⟨e1, _⟩ := h1 y hy hk
    have hr : y.fr = r := by omega
    have := (zo6 h1 hy hk).1
    rw [hr] at this
    exact ⟨y, hy, hk, hr, this⟩
theorem zti {rows : List Row} (h1 : zbz rows) {a b r : Int} (h : cmpG rows a b = some r) : zah rows r = (a, b) ∧ b ≠ 0 ∧ outG rows r = false ∧ (0 ≤ r ∧ r ≤ 1114111) ∧ ∃ x ∈ rows, x.kind = 2 ∧ x.fr = r := by
  have := zzp rows a b rows
  unfold cmpG at h
  rw [h] at this
  obtain ⟨⟨x, hx, hc, rfl⟩, _⟩ := this
  simp only [cmpB, Bool.and_eq_true, decide_eq_true_eq, Bool.not_eq_true', decide_eq_false_iff_not] at hc
  obtain ⟨hk, ha, hb, h0, ho⟩ := hc
  obtain ⟨hp, hr⟩ := zo6 h1 hx hk
  exact ⟨by rw [hp, ha, hb], h0, ho, hr, x, hx, hk, rfl⟩
theorem zy3 {rows : List Row} (hp : zar rows) (h1 : zbz rows) {made : List ((Int × Int) × Int)} {sec : List (Int × Bool)} (hm : MadeOK rows (fun r => 0 ≤ r ∧ r ≤ 1114111) made sec) (a b : Int) :
    (if b = 0 then none else aget (a, b) made) = cmpG rows a b := by
  have hc := zzp rows a b rows
  have good : ∀ x ∈ rows, cmpB rows a b x = true → b ≠ 0 ∧ (0 ≤ x.fr ∧ x.fr ≤ 1114111) ∧ zmb rows x.fr ∧ zah rows x.fr = (a, b) := fun x hx hc => by
    simp only [cmpB, Bool.and_eq_true, decide_eq_true_eq, Bool.not_eq_true', decide_eq_false_iff_not] at hc
    obtain ⟨hk, ha, hb, h0, ho⟩ := hc
    obtain ⟨e, hr⟩ := zo6 h1 hx hk
    refine ⟨h0, hr, ⟨?_, ho⟩, by rw [e, ha, hb]⟩
    rw [e]; intro q; exact h0 (hb.symm.trans (Prod.mk.inj q).2)
  have back : ∀ r, b ≠ 0 → zmb rows r → zah rows r = (a, b) → ∃ x ∈ rows, cmpB rows a b x = true ∧ x.fr = r := fun r h0 hg hpr => by
    obtain ⟨x, hx, hk, hfr, hq⟩ := zth h1 hg.1
    have ho := hg.2
    rw [hq] at hpr
    cases hpr
    refine ⟨x, hx, ?_, hfr⟩
    simp only [cmpB, Bool.and_eq_true, decide_eq_true_eq, Bool.not_eq_true', decide_eq_false_iff_not]
    exact ⟨hk, trivial, trivial, h0, by rw [hfr]; exact ho⟩
  unfold cmpG
  generalize rows.foldl (cmpS rows a b) none = o at hc ⊢
  split
  · rename_i h0
    cases o with
    | none => rfl
    | some r => obtain ⟨⟨x, hx, hb, _⟩, _⟩ := hc; exact absurd h0 (good x hx hb).1
  · rename_i h0
    cases hg : aget (a, b) made with
    | none =>
      cases o with
      | none => rfl
      | some r =>
        obtain ⟨⟨x, hx, hb, _⟩, _⟩ := hc
        obtain ⟨_, g1, g2, g3⟩ := good x hx hb
        exact absurd g3 (hm.m2 _ hg _ g1 g2)
    | some r =>
      obtain ⟨d1, d2, d3, d4⟩ := hm.m1 _ _ hg
      obtain ⟨x, hx, hb, hfr⟩ := back r h0 d2 d3
      cases o with
      | none => have := hc x hx; rw [this] at hb; cases hb
      | some s =>
        obtain ⟨⟨y, hy, hyb, rfl⟩, hl⟩ := hc
        obtain ⟨_, g1, g2, g3⟩ := good y hy hyb
        have k1 := hl x hx hb
        have k2 := d4 _ g1 g2 g3
        rw [hfr] at k1
        exact congrArg some (Int.le_antisymm k2 k1)
theorem ztj {a b r : Int} (h : zkt a b = some r) : sylB r = true := by
  unfold zkt at h
  split at h
  · rename_i hc; cases h; simp only [sylB, Bool.and_eq_true, decide_eq_true_eq]; omega
  · split at h
    · rename_i hc; cases h; simp only [sylB, Bool.and_eq_true, decide_eq_true_eq] at hc ⊢; omega
    · cases h
theorem zw0 {rows : List Row} (h1 : zbz rows) {a b r : Int} (h : zku rows a b = some r) : 0 ≤ r ∧ r ≤ 1114111 := by
  unfold zku at h
  split at h
  · rename_i s hj; cases h; have := ztj hj; simp only [sylB, Bool.and_eq_true, decide_eq_true_eq] at this; omega
  · exact (zti h1 h).2.2.2.1
structure CSt where
  P : List Int
  s : Option Int
  M : List Int
def zf6 (key : Int → Int) (M : List Int) : Int := match M.getLast? with | some m => key m | none => 0
def CSt.out (st : CSt) : List Int := st.P ++ (st.s.toList ++ st.M)
def cApp (key : Int → Int) (st : CSt) (r : Int) : CSt := if key r = 0 then ⟨st.out, some r, []⟩ else ⟨st.P, st.s, st.M ++ [r]⟩
def zde (rows : List Row) (st : CSt) (r : Int) : CSt := match st.s with
  | none => cApp (numG rows 1) st r
  | some a => if st.M = [] ∨ zf6 (numG rows 1) st.M < numG rows 1 r then (match zku rows a r with
    | some c => ⟨st.P, some c, st.M⟩
    | none => cApp (numG rows 1) st r) else cApp (numG rows 1) st r
def zai (rows : List Row) (l : List Int) : CSt := l.foldl (zde rows) ⟨[], none, []⟩
def zcn (rows : List Row) (l : List Int) : List Int := (zai rows l).out
theorem zav (rows : List Row) (l : List Int) (r : Int) : zai rows (l ++ [r]) = zde rows (zai rows l) r := by simp [zai]
theorem zfw (key : Int → Int) (st : CSt) (r : Int) : (cApp key st r).out = st.out ++ [r] := by
  unfold cApp; split <;> simp [CSt.out]
theorem zen (rows : List Row) (st : CSt) (r : Int) : zde rows st r = cApp (numG rows 1) st r ∨ ∃ a c, st.s = some a ∧ zku rows a r = some c ∧ (st.M = [] ∨ zf6 (numG rows 1) st.M < numG rows 1 r) ∧ zde rows st r = ⟨st.P, some c, st.M⟩ := by
  unfold zde
  split
  · exact .inl rfl
  · rename_i a ha
    split
    · rename_i hf
      cases hc : zku rows a r with
      | none => exact .inl rfl
      | some c => exact .inr ⟨a, c, ha, hc, hf, rfl⟩
    · exact .inl rfl
theorem zmh (rows : List Row) (l : List Int) : (zcn rows l).length ≤ l.length := by
  unfold zcn
  induction l using zel with
  | h0 => simp [zai, CSt.out]
  | h1 l r ih =>
    rw [zav, List.length_append, List.length_singleton]
    rcases zen rows (zai rows l) r with e | ⟨a, c, hs, _, _, e⟩
    · rw [e, zfw, List.length_append, List.length_singleton]; omega
    · rw [e]; simp only [CSt.out, hs, Option.toList, List.length_append, List.length_cons] at ih ⊢; omega
theorem zr0 {rows : List Row} (h1 : zbz rows) (l : List Int) : ∀ x ∈ zcn rows l, x ∈ l ∨ (0 ≤ x ∧ x ≤ 1114111) := by
  unfold zcn
  induction l using zel with
  | h0 => intro x hx; simp [zai, CSt.out] at hx
  | h1 l r ih =>
    rw [zav]
    rcases zen rows (zai rows l) r with e | ⟨a, c, hs, hc, _, e⟩
    · rw [e, zfw]
      intro x hx
      rcases List.mem_append.1 hx with hx | hx
      · exact (ih x hx).imp (fun h => List.mem_append.2 (.inl h)) id
      · exact .inl (List.mem_append.2 (.inr hx))
    · rw [e]
      intro x hx
      simp only [CSt.out, Option.toList, List.mem_append, List.mem_cons, List.not_mem_nil, or_false] at hx ih
      rcases hx with hx | rfl | hx
      · exact (ih x (.inl hx)).imp (fun h => List.mem_append.2 (.inl h)) id
      · exact .inr (zw0 h1 hc)
      · exact (ih x (.inr (.inr hx))).imp (fun h => List.mem_append.2 (.inl h)) id
structure TabC (rows : List Row) : Prop where
  one : zbz rows
  closed : z1l rows
  cls : zgz rows
  syl : ∀ x ∈ rows, x.kind = 2 → sylB x.fr = false
  deep : ∀ x ∈ rows, x.kind = 2 → zat rows 7 x.fr = zat rows 8 x.fr
theorem TabC.full7 {rows : List Row} (h : TabC rows) (r : Int) : zat rows 7 r = zat rows 8 r := by
  by_cases hs : sylB r = true
  · rw [zc2 hs, zc2 hs]
  · simp only [Bool.not_eq_true] at hs
    by_cases h0 : zah rows r = (0, 0)
    · rw [zi8 hs h0, zi8 hs h0]
    · obtain ⟨x, hx, hk, rfl, _⟩ := zth h.one h0
      exact h.deep x hx hk
theorem TabC.join {rows : List Row} (h : TabC rows) {a b c : Int} (ha : zer rows a = true ∨ sylB a = true) (hj : zkt a b = some c) : zat rows 8 c = zat rows 8 a ++ [b] := by
  rw [zc2 (ztj hj)]
  unfold zkt at hj
  split at hj
  · rename_i hc
    cases hj
    have hr : zer rows a = true := by
      rcases ha with ha | ha
      · exact ha
      · simp only [sylB, Bool.and_eq_true, decide_eq_true_eq] at ha; omega
    rw [zje hr]
    unfold zek
    rw [if_pos (by omega)]
    simp only [List.cons_append, List.nil_append, List.cons.injEq, and_true]
    omega
  · split at hj
    · rename_i hc
      cases hj
      obtain ⟨⟨hs, h0⟩, h1, h2⟩ := hc
      rw [zc2 hs]
      simp only [sylB, Bool.and_eq_true, decide_eq_true_eq] at hs
      unfold zek
      rw [if_neg (by omega), if_pos h0]
      simp only [List.cons_append, List.nil_append, List.cons.injEq, and_true]
      omega
    · cases hj
theorem TabC.lead {rows : List Row} (h : TabC rows) {a : Int} (ha : 4352 ≤ a ∧ a < 4371) : zer rows a = true := by
  have hx := h.closed (44032 + (a - 4352) * 588) a
  refine hx ?_
  have hs : sylB (44032 + (a - 4352) * 588) = true := by simp only [sylB, Bool.and_eq_true, decide_eq_true_eq]; omega
  rw [zc2 hs]
  unfold zek
  rw [if_pos (by omega), show 4352 + (44032 + (a - 4352) * 588 - 44032) / 588 = a by omega]
  exact List.mem_cons_self
theorem TabC.pair {rows : List Row} (h : TabC rows) {a b c : Int} (hb : zer rows b = true) (hc : zku rows a b = some c) : zat rows 8 c = zat rows 8 a ++ [b] := by
  unfold zku at hc
  split at hc
  · rename_i s hj
    cases hc
    refine h.join ?_ hj
    unfold zkt at hj
    split at hj
    · rename_i hq; exact .inl (h.lead hq.1)
    · split at hj
      · rename_i hq; exact .inr hq.1.1
      · cases hj
  · obtain ⟨hp, h0, _, _, x, hx, hk, rfl⟩ := zti h.one hc
    have hs := h.syl x hx hk
    have hn : zah rows x.fr ≠ (0, 0) := by rw [hp]; intro e; cases e; exact h0 rfl
    rw [show (8 : Nat) = 7 + 1 from rfl]
    rw [zat, if_neg (by rw [hs]; simp), if_neg hn, hp]
    simp only
    rw [if_neg h0, h.full7, zje hb]
theorem zj3 (key : Int → Int) (M : List Int) (r : Int) : zf6 key (M ++ [r]) = key r := by simp [zf6]
structure InvC (rows : List Row) (st : CSt) (p : List Int) : Prop where
  e : Eqv (numG rows 1) (st.out.flatMap (zat rows 8)) p
  m : ∀ m ∈ st.M, numG rows 1 m ≠ 0 ∧ zer rows m = true ∧ numG rows 1 m ≤ zf6 (numG rows 1) st.M
  q : st.M ≠ [] → ∃ p' q, p = p' ++ [q] ∧ zf6 (numG rows 1) st.M ≤ numG rows 1 q
theorem InvC.app {rows : List Row} {st : CSt} {p : List Int} (h : InvC rows st p) {r : Int} (hr : zer rows r = true) (hc : zcu (numG rows 1) (p ++ [r])) : InvC rows (cApp (numG rows 1) st r) (p ++ [r]) := by
  have he : Eqv (numG rows 1) ((cApp (numG rows 1) st r).out.flatMap (zat rows 8)) (p ++ [r]) := by
    rw [zfw, List.flatMap_append, List.flatMap_singleton, zje hr]
    simpa using h.e.app [] [r]
  refine ⟨he, ?_, ?_⟩
  · unfold cApp
    split
    · intro m hm; cases hm
    · rename_i h0
      intro m hm
      simp only at hm ⊢
      rw [zj3]
      rcases List.mem_append.1 hm with hm | hm
      · obtain ⟨k1, k2, k3⟩ := h.m m hm
        refine ⟨k1, k2, ?_⟩
        obtain ⟨p', q, rfl, hq⟩ := h.q (List.ne_nil_of_mem hm)
        have := (zem.1 hc).2.2 q r (by simp) rfl h0
        omega
      · rw [List.mem_singleton] at hm; subst hm; exact ⟨h0, hr, Int.le_refl _⟩
  · unfold cApp
    split
    · intro hn; exact absurd rfl hn
    · intro _; exact ⟨p, r, rfl, by simp only; rw [zj3]; exact Int.le_refl _⟩
theorem InvC.step {rows : List Row} (ht : TabC rows) {st : CSt} {p : List Int} (h : InvC rows st p) {r : Int} (hr : zer rows r = true) (hc : zcu (numG rows 1) (p ++ [r])) : InvC rows (zde rows st r) (p ++ [r]) := by
  rcases zen rows st r with e | ⟨a, c, hs, hpc, hf, e⟩
  · rw [e]; exact h.app hr hc
  · rw [e]
    have hM : st.M.flatMap (zat rows 8) = st.M := zqx fun m hm => (h.m m hm).2.1
    have he := h.e
    simp only [CSt.out, hs, Option.toList, List.flatMap_append, List.flatMap_singleton, hM] at he
    have hlt : st.M ≠ [] → zf6 (numG rows 1) st.M < numG rows 1 r := fun hn => hf.elim (fun e => absurd e hn) id
    refine ⟨?_, h.m, fun hn => ⟨p, r, rfl, Int.le_of_lt (hlt hn)⟩⟩
    simp only [CSt.out, Option.toList, List.flatMap_append, List.flatMap_singleton, hM, ht.pair hr hpc]
    refine Eqv.trans ?_ (by simpa using he.app [] [r])
    by_cases hn : st.M = []
    · rw [hn]; simp; exact .refl _
    · have h3 : zf6 (numG rows 1) st.M < numG rows 1 r := hlt hn
      have hr0 : numG rows 1 r ≠ 0 := by
        intro e0
        obtain ⟨m, hm⟩ := List.exists_mem_of_ne_nil _ hn
        obtain ⟨k1, _, k3⟩ := h.m m hm
        have := ht.cls m; omega
      have := (Eqv.ahead (key := numG rows 1) hr0 (B := st.M) [] fun m hm => ⟨(h.m m hm).1, by have := (h.m m hm).2.2; omega⟩).symm.app (st.P.flatMap (zat rows 8) ++ zat rows 8 a) []
      simpa using this
theorem invC {rows : List Row} (ht : TabC rows) {l : List Int} (hr : ∀ x ∈ l, zer rows x = true) (hc : zcu (numG rows 1) l) : InvC rows (zai rows l) l := by
  revert hr hc
  induction l using zel with
  | h0 => intro _ _; exact ⟨.refl _, (fun m hm => by cases hm), fun hn => absurd rfl hn⟩
  | h1 l r ih =>
    intro hr hc
    rw [zav]
    exact (ih (fun x hx => hr x (by simp [hx])) (zem.1 hc).1).step ht (hr r (by simp)) hc
def nfcL (rows : List Row) (l : List Int) : List Int := zcn rows (nfdL rows l)
end Go.Eng.Rows



namespace Go.Eng
open Go Go.Proofs Go.Eng.Rows Go.Eng.Trie
end Go.Eng



namespace Go.Eng.Rows
open Go Go.Eng Go.Eng.Trie Go.Eng.Srt
def Comp (rows : List Row) (s : List Int) : Prop := ∃ d, (∀ x ∈ d, zer rows x = true) ∧ zcu (numG rows 1) d ∧ zcn rows d = s
section
variable {rows : List Row}
def cDec (rows : List Row) (s : Option Int) (M : List Int) (r : Int) : Option Int := match s with
  | none => none
  | some a => if M = [] ∨ zf6 (numG rows 1) M < numG rows 1 r then zku rows a r else none
theorem zc5 (st : CSt) (r : Int) : zde rows st r = match cDec rows st.s st.M r with | some c => ⟨st.P, some c, st.M⟩ | none => cApp (numG rows 1) st r := by
  unfold zde cDec
  cases st.s with
  | none => rfl
  | some a =>
    simp only
    split
    · rfl
    · rfl
theorem zmi {s : Option Int} {M : List Int} {r c : Int} (h : cDec rows s M r = some c) : ∃ a, s = some a ∧ zku rows a r = some c ∧ (M = [] ∨ zf6 (numG rows 1) M < numG rows 1 r) := by
  unfold cDec at h
  cases s with
  | none => cases h
  | some a =>
    simp only at h
    split at h
    · rename_i hf; exact ⟨a, rfl, h, hf⟩
    · cases h
theorem zcd {d : List Int} {x : Int} : zcu (numG rows 1) (d ++ [x]) ↔ zcu (numG rows 1) d ∧ (∀ z, d.getLast? = some z → numG rows 1 x ≠ 0 → numG rows 1 z ≤ numG rows 1 x) := by
  rw [zem]
  constructor
  · rintro ⟨h1, _, h3⟩; exact ⟨h1, fun z hz hx => h3 z x hz rfl hx⟩
  · rintro ⟨h1, h3⟩; exact ⟨h1, trivial, fun z x' hz hx' h0 => by simp at hx'; subst hx'; exact h3 z hz h0⟩
theorem zic {d : List Int} {r x : Int} (h : zcu (numG rows 1) (d ++ [r] ++ [x])) (hx : numG rows 1 x ≠ 0) : numG rows 1 r ≤ numG rows 1 x := (zcd.1 h).2 r (by simp) hx
def Wit (rows : List Row) (d : List Int) (st : CSt) : Prop := ∃ e, (∀ x ∈ e, zer rows x = true) ∧ zai rows e = st ∧ (st.out = [] → e = []) ∧ zcu (numG rows 1) e ∧ ∀ x, zcu (numG rows 1) (d ++ [x]) → zcu (numG rows 1) (e ++ [x])
theorem Wit.snoc {d : List Int} {st : CSt} (h : Wit rows d st) {r : Int} (hr : zer rows r = true) (hc : zcu (numG rows 1) (d ++ [r])) (hn : (zde rows st r).out ≠ []) : Wit rows (d ++ [r]) (zde rows st r) := by
  obtain ⟨e, h1, h2, h3, h4, h5⟩ := h
  refine ⟨e ++ [r], fun x hx => ?_, by rw [zav, h2], fun hq => absurd hq hn, h5 r hc, fun x hx => ?_⟩
  · rcases List.mem_append.1 hx with hx | hx
    · exact h1 x hx
    · rw [List.mem_singleton] at hx; subst hx; exact hr
  · exact zcd.2 ⟨h5 r hc, fun z hz h0 => by simp at hz; subst hz; exact zic hx h0⟩
theorem zmj {key : Int → Int} {M : List Int} (h : M ≠ []) : ∃ m ∈ M, zf6 key M = key m := by
  rcases M.eq_nil_or_concat with rfl | ⟨D, z, rfl⟩
  · exact absurd rfl h
  · exact ⟨z, by simp, by simp [zf6]⟩
theorem zzq {d : List Int} (h : (zai rows d).out = []) : d = [] := by
  revert h
  induction d using zel with
  | h0 => exact fun _ => rfl
  | h1 d r ih =>
    rw [zav, zc5]
    intro h
    split at h
    · simp [CSt.out] at h
    · rw [zfw] at h; simp at h
theorem ztk {d : List Int} (h : (zai rows d).s = none) : (zai rows d).P = [] := by
  revert h
  induction d using zel with
  | h0 => exact fun _ => rfl
  | h1 d r ih =>
    rw [zav, zc5]
    split
    · intro h; cases h
    · unfold cApp
      split
      · intro h; cases h
      · exact ih
theorem zy4 (ht : TabC rows) {d : List Int} (hr : ∀ x ∈ d, zer rows x = true) (hc : zcu (numG rows 1) d) (hn : (zai rows d).M ≠ []) :
    Wit rows d ⟨(zai rows d).P, (zai rows d).s, (zai rows d).M.dropLast⟩ := by
  revert hr hc hn
  induction d using zel with
  | h0 => intro _ _ hn; exact absurd rfl hn
  | h1 d r ih =>
    intro hr hc
    have hr1 : ∀ x ∈ d, zer rows x = true := fun x hx => hr x (by simp [hx])
    have hc1 := (zcd.1 hc).1
    have hinv := invC ht hr1 hc1
    have hrr := hr r (by simp)
    rw [zav]
    have ih := ih hr1 hc1
    have hon := zzq (rows := rows) (d := d)
    generalize hsd : zai rows d = st at *
    rw [zc5]
    cases hd : cDec rows st.s st.M r with
    | none =>
      simp only
      unfold cApp
      split
      · intro hn; exact absurd rfl hn
      · rename_i h0
        intro _
        simp only [List.dropLast_concat]
        refine ⟨d, hr1, hsd, fun h => hon h, hc1, fun x hx => zcd.2 ⟨hc1, fun z hz hx0 => ?_⟩⟩
        have := (zcd.1 hc).2 z hz h0
        have := zic hx hx0
        omega
    | some c =>
      simp only
      intro hn
      obtain ⟨a, hs, hp, hf⟩ := zmi hd
      have hlt := hf.elim (fun e => absurd e hn) id
      have hw := (ih hn).snoc hrr hc
      have he : zde rows ⟨st.P, st.s, st.M.dropLast⟩ r = ⟨st.P, some c, st.M.dropLast⟩ := by
        rw [zc5]
        have : cDec rows st.s st.M.dropLast r = some c := by
          unfold cDec
          rw [hs]
          simp only
          rw [if_pos, hp]
          by_cases hdl : st.M.dropLast = []
          · exact .inl hdl
          · obtain ⟨m, hm, e⟩ := zmj (key := numG rows 1) hdl
            have := (hinv.m m (List.dropLast_subset _ hm)).2.2
            exact .inr (by omega)
        simp only [this]
      rw [he] at hw
      exact hw (by simp [CSt.out])
def zhf (st : CSt) : CSt := match st.s, st.P with
  | none, P => ⟨P, none, st.M.tail⟩
  | some _, [] => ⟨[], none, st.M⟩
  | some c, _ :: P => ⟨P, some c, st.M⟩
theorem zw1 {st : CSt} (h : st.s = none → st.P = []) : (zhf st).out = st.out.tail := by
  obtain ⟨P, s, M⟩ := st
  cases s with
  | none =>
    have hp : P = [] := h rfl
    subst hp
    simp [zhf, CSt.out]
  | some c => cases P <;> simp [zhf, CSt.out]
theorem zw2 (hk : zgz rows) (M : List Int) : 0 ≤ zf6 (numG rows 1) M := by
  by_cases h : M = []
  · subst h; exact Int.le_refl _
  · obtain ⟨m, _, e⟩ := zmj (key := numG rows 1) h
    rw [e]; exact hk m
theorem zy5 (ht : TabC rows) {d : List Int} (hr : ∀ x ∈ d, zer rows x = true) (hc : zcu (numG rows 1) d) (hn : d ≠ []) : Wit rows d (zhf (zai rows d)) := by
  revert hr hc hn
  induction d using zel with
  | h0 => intro _ _ hn; exact absurd rfl hn
  | h1 d r ih =>
    intro hr hc _
    have hr1 : ∀ x ∈ d, zer rows x = true := fun x hx => hr x (by simp [hx])
    have hc1 := (zcd.1 hc).1
    have hrr := hr r (by simp)
    by_cases hd0 : d = []
    · subst hd0
      refine ⟨[], fun x hx => (by cases hx), ?_, fun _ => rfl, trivial, fun x _ => trivial⟩
      rw [zav]
      show _ = zhf (cApp (numG rows 1) ⟨[], none, []⟩ r)
      unfold cApp
      split <;> rfl
    · have ih := ih hr1 hc1 hd0
      have hP := ztk (rows := rows) (d := d)
      have hon : (zai rows d).out ≠ [] := fun h => hd0 (zzq h)
      rw [zav]
      generalize zai rows d = st at *
      have key : (zhf (zde rows st r) = zde rows (zhf st) r ∧ (zde rows (zhf st) r).out ≠ []) → Wit rows (d ++ [r]) (zhf (zde rows st r)) := fun ⟨h1, h2⟩ => by
        rw [h1]; exact ih.snoc hrr hc h2
      obtain ⟨P, s, M⟩ := st
      cases s with
      | none =>
        obtain rfl : P = [] := hP rfl
        cases M with
        | nil => exact absurd rfl hon
        | cons m M =>
          refine key ?_
          have e1 : zde rows ⟨[], none, m :: M⟩ r = cApp (numG rows 1) ⟨[], none, m :: M⟩ r := rfl
          have e2 : zde rows (zhf ⟨[], none, m :: M⟩) r = cApp (numG rows 1) ⟨[], none, M⟩ r := rfl
          rw [e1, e2, zfw]
          refine ⟨?_, by simp⟩
          unfold cApp
          split <;> simp [zhf, CSt.out]
      | some c =>
        cases P with
        | cons p P =>
          refine key ?_
          have e2 : zhf ⟨p :: P, some c, M⟩ = ⟨P, some c, M⟩ := rfl
          rw [e2, zc5, zc5]
          simp only
          cases cDec rows (some c) M r with
          | none => simp only; rw [zfw]; refine ⟨?_, by simp⟩; unfold cApp; split <;> simp [zhf, CSt.out]
          | some c' => exact ⟨rfl, by simp [CSt.out]⟩
        | nil =>
          have e2 : zhf ⟨[], some c, M⟩ = ⟨[], none, M⟩ := rfl
          have e3 : zde rows ⟨[], none, M⟩ r = cApp (numG rows 1) ⟨[], none, M⟩ r := rfl
          cases hdec : cDec rows (some c) M r with
          | none =>
            refine key ?_
            rw [e2, e3, zc5]
            simp only [hdec]
            rw [zfw]
            refine ⟨?_, by simp⟩
            unfold cApp
            split <;> simp [zhf, CSt.out]
          | some c' =>
            obtain ⟨a, _, hp, hf⟩ := zmi hdec
            have e4 : zhf (zde rows ⟨[], some c, M⟩ r) = ⟨[], none, M⟩ := by
              rw [zc5]; simp only [hdec]; rfl
            rw [e4]
            rw [e2] at ih
            obtain ⟨e, h1, h2, h3, h4, h5⟩ := ih
            refine ⟨e, h1, h2, h3, h4, fun x hx => zcd.2 ⟨h4, fun z hz hx0 => ?_⟩⟩
            by_cases h0 : numG rows 1 r = 0
            · have hl := zw2 ht.cls M
              have hM : M = [] := hf.elim id fun h => by omega
              subst hM
              have := h3 rfl
              subst this
              simp at hz
            · have k1 := (zcd.1 (h5 r hc)).2 z hz h0
              have k2 := zic hx hx0
              omega
theorem zy6 {d : List Int} (hr : ∀ x ∈ d, zer rows x = true) (hc : zcu (numG rows 1) d) (hn : (zai rows d).s ≠ none) : ∃ e, (∀ x ∈ e, zer rows x = true) ∧ zcu (numG rows 1) e ∧ (zai rows e).out = (zai rows d).P := by
  revert hr hc hn
  induction d using zel with
  | h0 => intro _ _ hn; exact absurd rfl hn
  | h1 d r ih =>
    intro hr hc
    have hr1 : ∀ x ∈ d, zer rows x = true := fun x hx => hr x (by simp [hx])
    have hc1 := (zcd.1 hc).1
    have ih := ih hr1 hc1
    rw [zav, zc5]
    cases hd : cDec rows (zai rows d).s (zai rows d).M r with
    | none =>
      simp only
      unfold cApp
      split
      · intro _; exact ⟨d, hr1, hc1, rfl⟩
      · exact ih
    | some c =>
      obtain ⟨a, hs, _⟩ := zmi hd
      intro _
      exact ih (by rw [hs]; simp)
theorem Comp.nil : Comp rows [] := ⟨[], fun x hx => (by cases hx), trivial, rfl⟩
theorem Comp.tail (ht : TabC rows) {s : List Int} (h : Comp rows s) : Comp rows s.tail := by
  obtain ⟨d, h1, h2, rfl⟩ := h
  by_cases hd : d = []
  · subst hd; exact .nil
  · obtain ⟨e, k1, k2, _, k4, _⟩ := zy5 ht h1 h2 hd
    exact ⟨e, k1, k4, by unfold zcn; rw [k2, zw1 ztk]⟩
theorem Comp.dropLast (ht : TabC rows) {s : List Int} (h : Comp rows s) : Comp rows s.dropLast := by
  obtain ⟨d, h1, h2, rfl⟩ := h
  unfold zcn
  by_cases hM : (zai rows d).M = []
  · cases hs : (zai rows d).s with
    | none =>
      have : (zai rows d).out = [] := by simp [CSt.out, ztk hs, hs, hM]
      rw [this]; exact .nil
    | some c =>
      obtain ⟨e, k1, k2, k3⟩ := zy6 h1 h2 (by rw [hs]; simp)
      refine ⟨e, k1, k2, ?_⟩
      unfold zcn
      rw [k3]
      simp [CSt.out, hs, hM]
  · obtain ⟨e, k1, k2, _, k4, _⟩ := zy4 ht h1 h2 hM
    refine ⟨e, k1, k4, ?_⟩
    unfold zcn
    rw [k2]
    simp only [CSt.out]
    rw [List.dropLast_append_of_ne_nil (by simp [hM]), List.dropLast_append_of_ne_nil hM]
theorem Comp.drop (ht : TabC rows) {s : List Int} (h : Comp rows s) : ∀ k, Comp rows (s.drop k)
  | 0 => h
  | k + 1 => by
    have := (Comp.drop ht h k).tail ht
    rwa [List.tail_drop] at this
theorem Comp.take (ht : TabC rows) {s : List Int} (h : Comp rows s) (k : Nat) : Comp rows (s.take k) := by
  have : ∀ n, Comp rows (s.take (s.length - n)) := by
    intro n
    induction n with
    | zero => rw [Nat.sub_zero, List.take_length]; exact h
    | succ n ih =>
      have := ih.dropLast ht
      rw [List.dropLast_eq_take, List.take_take, List.length_take] at this
      rwa [show min (min (s.length - n) s.length - 1) (s.length - n) = s.length - (n + 1) by omega] at this
  by_cases hk : k ≤ s.length
  · have := this (s.length - k)
    rwa [show s.length - (s.length - k) = k by omega] at this
  · rw [List.take_of_length_le (by omega)]; exact h
end
end Go.Eng.Rows



namespace Go.Eng
open Go Go.Proofs
def zfx (a b : Int) (R : PV → Prop) : Prop :=
 if (decide (a ≥ 4352) && decide (a < 4371) && decide (b ≥ 4449) && decide (b < 4470)) = true then R (PV.tup [Z3 (IntKind.i32.wrap ((44032 : Int) + IntKind.i32.wrap (IntKind.i32.wrap (IntKind.i32.wrap (IntKind.i32.wrap (IntKind.i32.wrap (a -
 4352) * 21) + b) - 4449) * 28))), Zb true]) else PCall Try.prog 94 [Z3 a] fun (v : PV) ↦ ∃ (b1 : Bool), v = Zb b1 ∧ if (b1 && (IntKind.i32.wrap (a - 44032)).tmod (28 : Int) == 0 && decide (b > 4519) && decide (b < 4547)) = true then R
 (PV.tup [Z3 (IntKind.i32.wrap (IntKind.i32.wrap (a + b) - 4519)), Zb true]) else R (PV.tup [Z3 0, Zb false])
theorem zo7 (a b : Int) {R : PV → Prop} (h : zfx a b R) : PCall Try.prog 76 [.int .i32 a, .int .i32 b] R :=
  PCall.of Try.func76 (by kernel_rfl) (by kernel_rfl) (Nat.le_of_ble_eq_true (by kernel_rfl)) (Eq.mpr (by kernel_rfl : aFn Try.prog (fun _ => none) Try.f76 [0, 1, 4, 5, 6, 29] (fun _ => none) (Try.f76.body.getD .skip) [.int .i32 a, .int .i32 b] R = zfx a b R) h)

def ze0 (tc tg tj tf tp : PV) (M S : List (PV × PV)) (a b : Int) (R : PV → Prop) : Prop :=
 PCall Try.prog 76 [Z3 a, Z3 b] fun (v : PV) ↦ ∃ (vs : List PV), v = PV.tup vs ∧ vs.length = 2 ∧ ∃ (x : PV), vs.head? = some x ∧ ∃ (n : Int), x = Z3 n ∧ ∃ (x1 : PV), vs.tail.head? = some x1 ∧ ∃ (b1 : Bool), x1 = Zb b1 ∧ if b1 = true then R
 (PV.tup [Z3 n, Zb true]) else PCall Try.prog 77 [PV.ptr [tc, tg, tj, tf, tp, PV.mp M, PV.mp S], Z3 a, Z3 b] fun (v1 : PV) ↦ ∃ (vs1 : List PV), v1 = PV.tup vs1 ∧ vs1.length = 2 ∧ ∃ (x2 : PV), vs1.head? = some x2 ∧ ∃ (n1 : Int), x2 = Z3 n1 ∧
 ∃ (x3 : PV), vs1.tail.head? = some x3 ∧ ∃ (b2 : Bool), x3 = Zb b2 ∧ R (PV.tup [Z3 n1, Zb b2])
theorem zmx (tc tg tj tf tp : PV) (M S : List (PV × PV)) (a b : Int) {R : PV → Prop} (h : ze0 tc tg tj tf tp M S a b R) : PCall Try.prog 46 [.ptr [tc, tg, tj, tf, tp, .mp M, .mp S], .int .i32 a, .int .i32 b] R :=
  PCall.of Try.func46 (by kernel_rfl) (by kernel_rfl) (Nat.le_of_ble_eq_true (by kernel_rfl)) (Eq.mpr (by kernel_rfl : aFn Try.prog (fun _ => none) Try.f46 [0, 1, 2, 6, 7, 8, 9, 16] (fun _ => none) (Try.f46.body.getD .skip) [.ptr [tc, tg, tj, tf, tp, .mp M, .mp S], .int .i32 a, .int .i32 b] R = ze0 tc tg tj tf tp M S a b R) h)

def zr1 (tc tg tj tf tp : PV) (M S : List (PV × PV)) (n f : Bool) (es : LL) (x6 : Int) (x7 : Int) (x16 : Int) (n_0 : Bool) (s_0 : LL) : Env × Hp := ([(0, LV.pv (PV.ptr [tc, tg, tj, tf, tp, PV.mp M, PV.mp S])), (5, LV.own 0), (6, .pv (.int IntKind.i64 x6)), (7, .pv (.int IntKind.i64 x7)), (14, LV.pv (PV.sl n f es)), (15, LV.pv (PV.int IntKind.i64 ↑es.length)), (16, .pv (.int IntKind.i64 x16))], [.sl (21, 1) true n_0 s_0])
def zdf (tc tg tj tf tp : PV) (M S : List (PV × PV)) (n f : Bool) (es : LL) (J : Int → Int → Int → Bool → (LL) → Prop) (μ : Int → Int → Int → Bool → (LL) → Nat) (R : PV → Prop) : Prop :=
 (zab (zr1 tc tg tj tf tp M S n f es (-1 : Int) (0 : Int) (0 : Int) true []) ∧ J (-1 : Int) (0 : Int) (0 : Int) true []) ∧ ∀ (x6 x7 x16 : Int) (n_0 : Bool) (s_0 : LL), J x6 x7 x16 n_0 s_0 → if decide (x16 < (↑es.length : Int)) = true
 then zaq es x16 1 ∧ ∃ (n1 : Int), (es.getD x16.toNat []).head? = some (Z3 n1) ∧ PCall Try.prog 45 [PV.ptr [tc, tg, tj, tf, tp, PV.mp M, PV.mp S], Z3 n1] fun (v : PV) ↦ ∃ (n2 : Int), v = Z6 n2 ∧ if (decide (x6 ≥ 0) && (x6 ==
 IntKind.i64.wrap ((↑s_0.length : Int) - 1) || x7 != 0 && decide (x7 < n2))) = true then zaq s_0 x6 1 ∧ ∃ (n3 : Int), (List.drop 0 (s_0.getD x6.toNat [])).head? = some (Z3 n3) ∧ PCall Try.prog 46 [PV.ptr [tc, tg, tj, tf, tp, PV.mp M, PV.mp
 S], Z3 n3, Z3 n1] fun (v1 : PV) ↦ ∃ (vs : List PV), v1 = PV.tup vs ∧ vs.length = 2 ∧ ∃ (x : PV), vs.head? = some x ∧ ∃ (n4 : Int), x = Z3 n4 ∧ ∃ (x1 : PV), vs.tail.head? = some x1 ∧ ∃ (b : Bool), x1 = Zb b ∧ if b = true then zaq s_0 x6 1
 ∧ (1 = 1 ∧ 1 ≤ (s_0.getD x6.toNat []).length) ∧ zab (zr1 tc tg tj tf tp M S n f es x6 x7 (IntKind.i64.wrap (x16 + 1)) n_0 (s_0.set x6.toNat (Z3 n4 :: List.append._f [] PUnit.unit (List.drop 1 (s_0.getD x6.toNat []))))) ∧ J x6 x7
 (IntKind.i64.wrap (x16 + 1)) n_0 (s_0.set x6.toNat (Z3 n4 :: List.append._f [] PUnit.unit (List.drop 1 (s_0.getD x6.toNat [])))) ∧ μ x6 x7 (IntKind.i64.wrap (x16 + 1)) n_0 (s_0.set x6.toNat (Z3 n4 :: List.append._f [] PUnit.unit (List.drop
 1 (s_0.getD x6.toNat [])))) < μ x6 x7 x16 n_0 s_0 else if (n2 == 0) = true then (szOK [[Z3 n1]] 1 ∧ (s_0.length + 1) * 4 ≤ 140737488355328) ∧ zab (zr1 tc tg tj tf tp M S n f es (↑s_0.length : Int) n2 (IntKind.i64.wrap (x16 + 1)) (n_0 &&
 false) (s_0 ++ [[Z3 n1]])) ∧ J (↑s_0.length : Int) n2 (IntKind.i64.wrap (x16 + 1)) (n_0 && false) (s_0 ++ [[Z3 n1]]) ∧ μ (↑s_0.length : Int) n2 (IntKind.i64.wrap (x16 + 1)) (n_0 && false) (s_0 ++ [[Z3 n1]]) < μ x6 x7 x16 n_0 s_0 else (szOK
 [[Z3 n1]] 1 ∧ (s_0.length + 1) * 4 ≤ 140737488355328) ∧ zab (zr1 tc tg tj tf tp M S n f es x6 n2 (IntKind.i64.wrap (x16 + 1)) (n_0 && false) (s_0 ++ [[Z3 n1]])) ∧ J x6 n2 (IntKind.i64.wrap (x16 + 1)) (n_0 && false) (s_0 ++ [[Z3 n1]]) ∧
 μ x6 n2 (IntKind.i64.wrap (x16 + 1)) (n_0 && false) (s_0 ++ [[Z3 n1]]) < μ x6 x7 x16 n_0 s_0 else if (n2 == 0) = true then (szOK [[Z3 n1]] 1 ∧ (s_0.length + 1) * 4 ≤ 140737488355328) ∧ zab (zr1 tc tg tj tf tp M S n f es (↑s_0.length :
 Int) n2 (IntKind.i64.wrap (x16 + 1)) (n_0 && false) (s_0 ++ [[Z3 n1]])) ∧ J (↑s_0.length : Int) n2 (IntKind.i64.wrap (x16 + 1)) (n_0 && false) (s_0 ++ [[Z3 n1]]) ∧ μ (↑s_0.length : Int) n2 (IntKind.i64.wrap (x16 + 1)) (n_0 && false) (s_0 ++
 [[Z3 n1]]) < μ x6 x7 x16 n_0 s_0 else (szOK [[Z3 n1]] 1 ∧ (s_0.length + 1) * 4 ≤ 140737488355328) ∧ zab (zr1 tc tg tj tf tp M S n f es x6 n2 (IntKind.i64.wrap (x16 + 1)) (n_0 && false) (s_0 ++ [[Z3 n1]])) ∧ J x6 n2 (IntKind.i64.wrap
 (x16 + 1)) (n_0 && false) (s_0 ++ [[Z3 n1]]) ∧ μ x6 n2 (IntKind.i64.wrap (x16 + 1)) (n_0 && false) (s_0 ++ [[Z3 n1]]) < μ x6 x7 x16 n_0 s_0 else R (PV.sl n_0 false s_0)
theorem zj4 (tc tg tj tf tp : PV) (M S : List (PV × PV)) (n f : Bool) (es : LL) (J : Int → Int → Int → Bool → (LL) → Prop) (μ : Int → Int → Int → Bool → (LL) → Nat) {R : PV → Prop} (h : zdf tc tg tj tf tp M S n f es J μ R) : PCall Try.prog 17 [.ptr [tc, tg, tj, tf, tp, .mp M, .mp S], .sl n f es] R :=
  PCall.of Try.func17 (by kernel_rfl) (by kernel_rfl) (Nat.le_of_ble_eq_true (by kernel_rfl)) (Eq.mpr (by kernel_rfl : aFn Try.prog (fun _ => none) Try.f17 [0, 1, 4, 5, 6, 7, 9, 10, 11, 12, 13, 14, 15, 16, 17, 41, 52, 58] (fun zz_ => match zz_ with | 5 => some ⟨Int × Int × Int × Bool × (LL), fun s => zr1 tc tg tj tf tp M S n f es s.1 s.2.1 s.2.2.1 s.2.2.2.1 s.2.2.2.2, fun _ s => J s.1 s.2.1 s.2.2.1 s.2.2.2.1 s.2.2.2.2, fun s => μ s.1 s.2.1 s.2.2.1 s.2.2.2.1 s.2.2.2.2, fun e h => (gI e 6, gI e 7, gI e 16, oN h 0, oS h 0), [(5, 21, 1)], [0, 5, 6, 7, 14, 15, 16], [], fun p => ∀ (x6 : Int) (x7 : Int) (x16 : Int) (n_0 : Bool) (s_0 : LL), p (x6, x7, x16, n_0, s_0), fun p h s => h s.1 s.2.1 s.2.2.1 s.2.2.2.1 s.2.2.2.2⟩ | _ => none) (Try.f17.body.getD .skip) [.ptr [tc, tg, tj, tf, tp, .mp M, .mp S], .sl n f es] R = zdf tc tg tj tf tp M S n f es J μ R) h)

def zfy (tc tg tj tf tp : PV) (M S : List (PV × PV)) (n f : Bool) (es : LL) (R : PV → Prop) : Prop :=
 PCall Try.prog 16 [PV.ptr [tc, tg, tj, tf, tp, PV.mp M, PV.mp S], PV.sl n f es] fun (v : PV) ↦ ∃ (n1 : Bool), ∃ (f1 : Bool), ∃ (es1 : LL), v = PV.sl n1 f1 es1 ∧ PCall Try.prog 17 [PV.ptr [tc, tg, tj, tf, tp, PV.mp M, PV.mp S], PV.sl n1 f1
 es1] fun (v1 : PV) ↦ ∃ (n2 : Bool), ∃ (f2 : Bool), ∃ (es2 : LL), v1 = PV.sl n2 f2 es2 ∧ R (PV.sl n2 f2 es2)
theorem zo8 (tc tg tj tf tp : PV) (M S : List (PV × PV)) (n f : Bool) (es : LL) {R : PV → Prop} (h : zfy tc tg tj tf tp M S n f es R) : PCall Try.prog 13 [.ptr [tc, tg, tj, tf, tp, .mp M, .mp S], .sl n f es] R :=
  PCall.of Try.func13 (by kernel_rfl) (by kernel_rfl) (Nat.le_of_ble_eq_true (by kernel_rfl)) (Eq.mpr (by kernel_rfl : aFn Try.prog (fun _ => none) Try.f13 [0, 1, 4] (fun _ => none) (Try.f13.body.getD .skip) [.ptr [tc, tg, tj, tf, tp, .mp M, .mp S], .sl n f es] R = zfy tc tg tj tf tp M S n f es R) h)

end Go.Eng



namespace Go.Eng
open Go Go.Proofs Go.Eng.Rows Go.Eng.Trie Go.Eng.Srt
def optV : Option Int → PV
  | some r => .tup [.int .i32 r, .bool true]
  | none => .tup [.int .i32 0, .bool false]
theorem z3t {a b : Int} (ha : -2147483648 ≤ a ∧ a ≤ 2147483647) (hb : -2147483648 ≤ b ∧ b ≤ 2147483647) : PCall Try.prog 76 [.int .i32 a, .int .i32 b] fun v => v = optV (zkt a b) := by
  refine zo7 _ _ ?_; unfold zfx
  refine iteD (fun hc => ?_) (fun hc => ?_)
  · simp only [Bool.and_eq_true, decide_eq_true_eq, ge_iff_le] at hc
    have w1 : IntKind.i32.wrap (a - 4352) = a - 4352 := za6 (by omega) (by omega)
    have w2 : IntKind.i32.wrap ((a - 4352) * 21) = (a - 4352) * 21 := za6 (by omega) (by omega)
    have w3 : IntKind.i32.wrap ((a - 4352) * 21 + b) = (a - 4352) * 21 + b := za6 (by omega) (by omega)
    have w4 : IntKind.i32.wrap ((a - 4352) * 21 + b - 4449) = (a - 4352) * 21 + b - 4449 := za6 (by omega) (by omega)
    have w5 : IntKind.i32.wrap (((a - 4352) * 21 + b - 4449) * 28) = ((a - 4352) * 21 + b - 4449) * 28 := za6 (by omega) (by omega)
    have w6 : IntKind.i32.wrap (44032 + ((a - 4352) * 21 + b - 4449) * 28) = 44032 + ((a - 4352) * 21 + b - 4449) * 28 := za6 (by omega) (by omega)
    rw [w1, w2, w3, w4, w5, w6]
    unfold zkt
    rw [if_pos (by omega)]
    simp only [optV]
    rw [show (a - 4352) * 21 + b - 4449 = (a - 4352) * 21 + (b - 4449) by omega]
  · simp only [Bool.and_eq_true, decide_eq_true_eq, ge_iff_le] at hc
    refine (pSyl a).mono ?_
    rintro _ rfl
    refine ⟨_, rfl, ?_⟩
    have hn : ¬ ((4352 ≤ a ∧ a < 4371) ∧ 4449 ≤ b ∧ b < 4470) := by omega
    cases hs : sylB a with
    | false =>
      refine iteF (by simp) ?_
      unfold zkt; rw [if_neg hn, if_neg (by rw [hs]; simp)]; rfl
    | true =>
      have hr := hs
      simp only [sylB, Bool.and_eq_true, decide_eq_true_eq] at hr
      have w1 : IntKind.i32.wrap (a - 44032) = a - 44032 := za6 (by omega) (by omega)
      have e3 : (a - 44032).tmod 28 = (a - 44032) % 28 := Int.tmod_eq_emod_of_nonneg (by omega)
      rw [w1, e3]
      refine iteD (fun h2 => ?_) (fun h2 => ?_)
      · simp only [Bool.and_eq_true, decide_eq_true_eq, gt_iff_lt, beq_iff_eq, Bool.true_and] at h2
        have w2 : IntKind.i32.wrap (a + b) = a + b := za6 (by omega) (by omega)
        have w3 : IntKind.i32.wrap (a + b - 4519) = a + b - 4519 := za6 (by omega) (by omega)
        rw [w2, w3]
        unfold zkt; rw [if_neg hn, if_pos ⟨⟨hs, h2.1.1⟩, h2.1.2, h2.2⟩]
        simp only [optV]
        rw [show a + b - 4519 = a + (b - 4519) by omega]
      · simp only [Bool.and_eq_true, decide_eq_true_eq, gt_iff_lt, beq_iff_eq, Bool.true_and] at h2
        unfold zkt; rw [if_neg hn, if_neg (by omega)]; rfl
section
variable {rows : List Row} {v : PV}
theorem z23 (hp : zar rows) (h1 : zbz rows) (hv : zf1 rows v) {a b : Int} (ha : -2147483648 ≤ a ∧ a ≤ 2147483647) (hb : -2147483648 ≤ b ∧ b ≤ 2147483647) : PCall Try.prog 46 [v, .int .i32 a, .int .i32 b] fun x => x = optV (zku rows a b) := by
  obtain ⟨tc, tg, tj, tf, tp, made, sec, rfl, ht, hm⟩ := hv
  refine zmx _ _ _ _ _ _ _ _ _ ?_; unfold ze0
  refine (z3t ha hb).mono ?_
  rintro _ rfl
  unfold zku
  cases zkt a b with
  | some r =>
    exact ⟨_, rfl, rfl, _, rfl, _, rfl, _, rfl, _, rfl, iteT rfl rfl⟩
  | none =>
    refine ⟨_, rfl, rfl, _, rfl, _, rfl, _, rfl, _, rfl, iteF (by simp) ?_⟩
    refine (zyv _ _ _ _ _ _ made a b).mono ?_
    rintro _ rfl
    rw [← zy3 hp h1 hm a b]
    unfold zyt
    split
    · exact ⟨_, rfl, rfl, _, rfl, _, rfl, _, rfl, _, rfl, rfl⟩
    · cases aget (a, b) made with
      | none => exact ⟨_, rfl, rfl, _, rfl, _, rfl, _, rfl, _, rfl, rfl⟩
      | some r => exact ⟨_, rfl, rfl, _, rfl, _, rfl, _, rfl, _, rfl, rfl⟩
def zeo (st : CSt) : Int := match st.s with | none => -1 | some _ => st.P.length
theorem zy7 {d : List Int} : ∀ m ∈ (zai rows d).M, numG rows 1 m ≠ 0 := by
  induction d using zel with
  | h0 => intro m hm; cases hm
  | h1 d r ih =>
    rw [zav]
    rcases zen rows (zai rows d) r with e | ⟨a, c, hs, hp, _, e⟩
    · rw [e]
      unfold cApp
      split
      · intro m hm; cases hm
      · rename_i h0
        intro m hm
        rcases List.mem_append.1 hm with hm | hm
        · exact ih m hm
        · rw [List.mem_singleton] at hm; subst hm; exact h0
    · rw [e]; exact ih
def JC (rows : List Row) (L : List Int) (x6 x7 i : Int) (s : List (List PV)) : Prop := (0 ≤ i ∧ i ≤ L.length) ∧ s = i32s (zai rows (L.take i.toNat)).out ∧ x6 = zeo (zai rows (L.take i.toNat)) ∧ x7 = zf6 (numG rows 1) (zai rows (L.take i.toNat)).M
theorem JC.next {L : List Int} {i : Int} (h0 : 0 ≤ i) (hi : i.toNat < L.length) {st : CSt} (he : zde rows (zai rows (L.take i.toNat)) L[i.toNat] = st) : JC rows L (zeo st) (zf6 (numG rows 1) st.M) (i + 1) (i32s st.out) := by
  have e : zai rows (L.take (i + 1).toNat) = st := by
    rw [show (i + 1).toNat = i.toNat + 1 by omega, zas hi, zav, he]
  exact ⟨⟨by omega, by omega⟩, by rw [e], by rw [e], by rw [e]⟩
theorem zw3 (hp : zar rows) (h1 : zbz rows) (hv : zf1 rows v) (n f : Bool) (L : List Int) (hr : R32 L) (hL : L.length < 1000000000000) : PCall Try.prog 17 [v, .sl n f (i32s L)] fun x => ∃ n f, x = .sl n f (i32s (zcn rows L)) := by
  have hv' := hv
  obtain ⟨tc, tg, tj, tf, tp, made, sec, rfl, ht, hm⟩ := hv
  refine zj4 _ _ _ _ _ _ _ _ _ _ (fun x6 x7 i _ s => JC rows L x6 x7 i s) (fun _ _ i _ _ => L.length - i.toNat) ?_
  unfold zdf
  refine ⟨⟨rfl, ⟨Int.le_refl _, by omega⟩, rfl, rfl, rfl⟩, ?_⟩
  rintro x6 x7 i n0 _ ⟨⟨i0, i1⟩, rfl, rfl, rfl⟩
  refine iteD (fun hc => ?_) (fun hc => ?_)
  · simp only [decide_eq_true_eq, zaf] at hc
    have hi : i.toNat < L.length := by omega
    obtain ⟨g1, g2⟩ := zhp i0 hi
    have hx := hr _ (List.getElem_mem hi)
    have hw : IntKind.i64.wrap (i + 1) = i + 1 := zaa (by omega) (by omega)
    refine ⟨g1, L[i.toNat], by rw [g2]; rfl, ?_⟩
    refine (zqp _ _ ht hx).mono ?_
    rintro _ rfl
    refine ⟨_, rfl, ?_⟩
    rw [hw]
    have hlen := zmh rows (L.take i.toNat)
    have hrng := zr0 h1 (L.take i.toNat)
    have hnz := zy7 (rows := rows) (d := L.take i.toNat)
    have hnP := ztk (rows := rows) (d := L.take i.toNat)
    rw [List.length_take] at hlen
    unfold zcn at hlen hrng
    have next := fun st => JC.next (rows := rows) (st := st) i0 hi
    generalize zai rows (L.take i.toNat) = st at *
    have hmu : L.length - (i + 1).toNat < L.length - i.toNat := by omega
    have hsz : szOK [[PV.int .i32 L[i.toNat]]] 1 ∧ ((i32s st.out).length + 1) * 4 ≤ 140737488355328 := ⟨zcj [_], by rw [zaf]; omega⟩
    have hout : i32s st.out ++ [[PV.int .i32 L[i.toNat]]] = i32s (st.out ++ [L[i.toNat]]) := by rw [zg9]; rfl
    have hl : ((i32s st.out).length : Int) = st.out.length := by rw [zaf]
    have app0 : zde rows st L[i.toNat] = cApp (numG rows 1) st L[i.toNat] → numG rows 1 L[i.toNat] = 0 → JC rows L (i32s st.out).length (numG rows 1 L[i.toNat]) (i + 1) (i32s st.out ++ [[PV.int .i32 L[i.toNat]]]) := fun he h0 => by
      have := next _ (he.trans (by unfold cApp; rw [if_pos h0]))
      rw [hout, hl, h0]
      simpa [zeo, zf6, CSt.out] using this
    have app1 : zde rows st L[i.toNat] = cApp (numG rows 1) st L[i.toNat] → numG rows 1 L[i.toNat] ≠ 0 → JC rows L (zeo st) (numG rows 1 L[i.toNat]) (i + 1) (i32s st.out ++ [[PV.int .i32 L[i.toNat]]]) := fun he h0 => by
      have := next _ (he.trans (by unfold cApp; rw [if_neg h0]))
      rw [hout]
      simp only [zj3] at this
      have e2 : st.out ++ [L[i.toNat]] = CSt.out ⟨st.P, st.s, st.M ++ [L[i.toNat]]⟩ := by simp [CSt.out]
      rw [e2]
      exact this
    refine iteD (fun hf => ?_) (fun hf => ?_)
    · simp only [Bool.and_eq_true, decide_eq_true_eq, Bool.or_eq_true, beq_iff_eq, bne_iff_ne, ne_eq, ge_iff_le] at hf
      obtain ⟨hf1, hf2⟩ := hf
      cases hs : st.s with
      | none => simp [zeo, hs] at hf1
      | some a =>
        have hsi : zeo st = st.P.length := by simp [zeo, hs]
        have hol : st.out.length = st.P.length + 1 + st.M.length := by simp [CSt.out, hs]; omega
        have hw2 : IntKind.i64.wrap ((i32s st.out).length - 1) = st.out.length - 1 := by rw [hl]; exact zaa (by omega) (by omega)
        have hfree : st.M = [] ∨ zf6 (numG rows 1) st.M < numG rows 1 L[i.toNat] := by
          rcases hf2 with h | h
          · rw [hw2, hsi] at h
            exact .inl (List.eq_nil_of_length_eq_zero (by omega))
          · exact .inr h.2
        have hat : st.out[st.P.length]'(by omega) = a := by simp [CSt.out, hs]
        obtain ⟨k1, k2⟩ := zhp (l := st.out) (i := zeo st) (by omega) (by omega)
        have hta : (zeo st).toNat = st.P.length := by omega
        have k3 : (i32s st.out).getD (zeo st).toNat [] = [PV.int .i32 a] := by
          rw [k2]; simp only [hta, hat]
        have ha : -2147483648 ≤ a ∧ a ≤ 2147483647 := by
          rcases hrng a (by simp [CSt.out, hs]) with h | h
          · exact hr a (List.mem_of_mem_take h)
          · omega
        refine ⟨k1, a, by rw [k3]; rfl, ?_⟩
        refine (z23 hp h1 hv' ha hx).mono ?_
        rintro _ rfl
        cases hpc : zku rows a L[i.toNat] with
        | some c =>
          refine ⟨_, rfl, rfl, _, rfl, _, rfl, _, rfl, _, rfl, iteT rfl ⟨k1, ⟨rfl, by rw [k3]; exact Nat.le_refl _⟩, rfl, ?_, by dsimp only; omega⟩⟩
          rw [k3, hta]
          have he : zde rows st L[i.toNat] = ⟨st.P, some c, st.M⟩ := by
            unfold zde; rw [hs]; simp only; rw [if_pos hfree, hpc]
          have := next _ he
          have e2 : (i32s st.out).set st.P.length [PV.int .i32 c] = i32s (CSt.out ⟨st.P, some c, st.M⟩) := by
            simp [CSt.out, hs, i32s]
          have e3 : zeo ⟨st.P, some c, st.M⟩ = zeo st := by rw [hsi]; rfl
          rw [e3] at this
          show JC rows L (zeo st) (zf6 (numG rows 1) st.M) (i + 1) ((i32s st.out).set st.P.length [PV.int .i32 c])
          rw [e2]
          exact this
        | none =>
          have he : zde rows st L[i.toNat] = cApp (numG rows 1) st L[i.toNat] := by
            unfold zde; rw [hs]; simp only; rw [if_pos hfree, hpc]
          refine ⟨_, rfl, rfl, _, rfl, _, rfl, _, rfl, _, rfl, iteF (by simp) (iteD (fun h0 => ?_) (fun h0 => ?_))⟩
          · exact ⟨hsz, rfl, app0 he (by simpa using h0), by dsimp only; omega⟩
          · exact ⟨hsz, rfl, app1 he (by simpa using h0), by dsimp only; omega⟩
    · simp only [Bool.and_eq_true, decide_eq_true_eq, Bool.or_eq_true, beq_iff_eq, bne_iff_ne, ne_eq, ge_iff_le] at hf
      have he : zde rows st L[i.toNat] = cApp (numG rows 1) st L[i.toNat] := by
        rcases zen rows st L[i.toNat] with e | ⟨a, c, hs, hpc, hfree, e⟩
        · exact e
        · have hsi : zeo st = st.P.length := by simp [zeo, hs]
          have hol : st.out.length = st.P.length + 1 + st.M.length := by simp [CSt.out, hs]; omega
          have hw2 : IntKind.i64.wrap ((i32s st.out).length - 1) = st.out.length - 1 := by rw [hl]; exact zaa (by omega) (by omega)
          refine absurd ⟨by omega, ?_⟩ hf
          by_cases hM : st.M = []
          · left; rw [hw2, hsi, hol, hM]; simp
          · right
            obtain ⟨m, hm, e⟩ := zmj (key := numG rows 1) hM
            exact ⟨by rw [e]; exact hnz m hm, hfree.elim (fun e => absurd e hM) id⟩
      refine iteD (fun h0 => ?_) (fun h0 => ?_)
      · exact ⟨hsz, rfl, app0 he (by simpa using h0), by dsimp only; omega⟩
      · exact ⟨hsz, rfl, app1 he (by simpa using h0), by dsimp only; omega⟩
  · simp only [decide_eq_true_eq, zaf] at hc
    rw [List.take_of_length_le (by omega)]
    exact ⟨_, _, rfl⟩
theorem qNFC (hp : zar rows) (h1 : zbz rows) (hk : zgz rows) (hv : zf1 rows v) (n f : Bool) (L : List Int) (hr : R32 L) (hL : L.length < 1000000) : PCall Try.prog 13 [v, .sl n f (i32s L)] fun x => ∃ n f, x = .sl n f (i32s (nfcL rows L)) := by
  have hv' := hv
  obtain ⟨tc, tg, tj, tf, tp, made, sec, rfl, ht, hm⟩ := hv
  refine zo8 _ _ _ _ _ _ _ _ _ _ ?_; unfold zfy
  refine (qNFD hp hk hv' n f L hr hL).mono ?_
  rintro _ ⟨n1, f1, rfl⟩
  refine ⟨_, _, _, rfl, ?_⟩
  refine (zw3 hp h1 hv' _ _ _ (z1n hk hp hr) (z21 hk hL)).mono ?_
  rintro _ ⟨n2, f2, rfl⟩
  exact ⟨_, _, _, rfl, _, _, rfl⟩
theorem zw4 (hk : zgz rows) (l : List Int) : (nfcL rows l).length ≤ 768 * l.length := Nat.le_trans (zmh rows _) (zwy hk l)
end
end Go.Eng



namespace Go.Eng
open Go Go.Proofs Go.Eng.Rows Go.Eng.Trie Go.Eng.Srt
theorem v22 : Try.prog.underlying 22 = some (.slice 21) := by kernel_rfl
theorem v21 : Try.prog.underlying 21 = some (.int .i32) := by kernel_rfl
theorem zqy {v : PV} (h : zls Try.prog 8 22 v) : ∃ nl l, v = .sl nl false (i32s l) ∧ R32 l := by
  obtain ⟨nl, l, e, hl, _, hr⟩ := zt9 v22 v21 (zkh (by kernel_rfl) h)
  cases e
  exact ⟨nl, l, rfl, hr⟩
end Go.Eng



namespace Go.Eng.Rows
open Go Go.Eng Go.Eng.Trie Go.Eng.Srt
def subL (L : List Int) (a b : Nat) : List Int := (L.take b).drop a
def hitB (rows : List Row) (L want : List Int) (a b : Nat) : Bool := decide (nfdL rows (subL L a b) = want)
def fTo (p : Nat → Bool) (b : Nat) : Nat → Option Nat
  | 0 => none
  | k + 1 => if p b then some b else fTo p (b + 1) k
def fOut (rows : List Row) (L want : List Int) (a : Nat) : Nat → Option (Nat × Nat)
  | 0 => none
  | k + 1 => match fTo (hitB rows L want a) a (L.length + 1 - a) with
    | some b => some (a, b)
    | none => fOut rows L want (a + 1) k
def findL (rows : List Row) (L want : List Int) : Option (Nat × Nat) := fOut rows L want 0 (L.length + 1)
end Go.Eng.Rows



namespace Go.Eng
open Go Go.Proofs
end Go.Eng



namespace Go.Eng
open Go Go.Proofs Go.Eng.Rows Go.Eng.Trie Go.Eng.Srt
theorem z1o (n f n2 f2 : Bool) (a b : List Int) (hl : a.length < 1000000000000) : PCall Try.prog 15 [.sl n f (i32s a), .sl n2 f2 (i32s b)] fun x => x = .bool (decide (a = b)) := z3r n f n2 f2 a b hl
theorem zw5 (l : List Int) (k : Nat) : (l.take k).length ≤ k := by rw [List.length_take]; omega
theorem z24 {len : Nat} {i j : Int} (h0 : 0 ≤ i) (h1 : i ≤ j) (h2 : j ≤ len) : slOK len (some i) (some j) none := ⟨h0, h1, h2, trivial⟩
theorem zw6 (L : List Int) (i j : Nat) : List.drop i (List.take j (i32s L)) = i32s (subL L i j) := by simp [i32s, subL]
theorem R32.sub {L : List Int} (h : R32 L) (i j : Nat) : R32 (subL L i j) := fun x hx => h x (List.mem_of_mem_take (List.mem_of_mem_drop hx))
theorem zk2 (L : List Int) (i j : Nat) : (subL L i j).length ≤ L.length := by unfold subL; rw [List.length_drop, List.length_take]; omega
theorem w3 : Try.prog.underlying 3 = some (.int .i64) := by kernel_rfl
theorem zqz {v : PV} (h : zls Try.prog 8 3 v) : ∃ n : Int, v = .int .i64 n := by
  obtain ⟨m, e, _⟩ := zp7 w3 (zkh (by kernel_rfl) h)
  cases e
  exact ⟨m, rfl⟩
end Go.Eng



namespace Go.Eng.Srt
open Go Go.Eng
section
variable {key : Int → Int} (hk : ∀ x, 0 ≤ key x)
include hk
end
end Go.Eng.Srt
namespace Go.Eng.Rows
open Go Go.Eng Go.Eng.Trie Go.Eng.Srt
section
variable {rows : List Row}
def CSt.pre (Q : List Int) (st : CSt) : CSt := ⟨Q ++ st.P, st.s, st.M⟩
end
end Go.Eng.Rows



namespace Go.Eng.Rows
open Go Go.Eng Go.Eng.Trie Go.Eng.Srt
def zcv (rows : List Row) (L : List Int) : Nat → Nat
  | 0 => 0
  | k + 1 => if k = 0 ∨ zfc rows (L.getD k 0) = true then k else zcv rows L k
def onN (rows : List Row) (L : List Int) (k : Nat) : Nat → Nat
  | 0 => k
  | n + 1 => if zfc rows (L.getD k 0) = true then k else onN rows L (k + 1) n
theorem zr2 (rows : List Row) (L : List Int) : ∀ k, zcv rows L k ≤ k ∧ (0 < k → zcv rows L k < k) ∧ (zcv rows L k = 0 ∨ zfc rows (L.getD (zcv rows L k) 0) = true)
  | 0 => ⟨Nat.le_refl _, fun h => by omega, .inl rfl⟩
  | k + 1 => by
    rw [zcv]
    split
    · rename_i h; exact ⟨by omega, fun _ => by omega, h⟩
    · obtain ⟨h1, h2, h3⟩ := zr2 rows L k; exact ⟨by omega, fun _ => by omega, h3⟩
theorem z1p (rows : List Row) (L : List Int) : ∀ n k, k ≤ onN rows L k n ∧ onN rows L k n ≤ k + n ∧ (onN rows L k n = k + n ∨ zfc rows (L.getD (onN rows L k n) 0) = true)
  | 0, k => ⟨Nat.le_refl _, Nat.le_refl _, .inl rfl⟩
  | n + 1, k => by
    rw [onN]
    split
    · rename_i h; exact ⟨Nat.le_refl _, by omega, .inr h⟩
    · obtain ⟨h1, h2, h3⟩ := z1p rows L n (k + 1)
      exact ⟨by omega, by omega, h3.imp (fun e => by omega) id⟩
def midL (rows : List Row) (L : List Int) (i j : Nat) (ins : List Int) : List Int := subL L (zcv rows L i) i ++ (ins ++ subL L j (onN rows L j (L.length - j)))
def zid (rows : List Row) (L : List Int) (i j : Nat) (ins : List Int) : List Int := L.take (zcv rows L i) ++ (nfcL rows (midL rows L i j ins) ++ L.drop (onN rows L j (L.length - j)))
theorem drop_cons {L : List Int} {b : Nat} (h : b < L.length) : L.drop b = L.getD b 0 :: L.drop (b + 1) := by
  rw [List.drop_eq_getElem_cons h]
  simp only [List.getD, List.getElem?_eq_getElem h, Option.getD_some]
section
variable {rows : List Row}
end
end Go.Eng.Rows



namespace Go.Eng
open Go Go.Proofs
def zep (r : Int) (R : PV → Prop) : Prop :=
 R (Zb (decide (r ≥ 4449) && decide (r < 4470) || decide (r > 4519) && decide (r < 4547)))
theorem zmk (r : Int) {R : PV → Prop} (h : zep r R) : PCall Try.prog 81 [.int .i32 r] R :=
  PCall.of Try.func81 (by kernel_rfl) (by kernel_rfl) (Nat.le_of_ble_eq_true (by kernel_rfl)) (Eq.mpr (by kernel_rfl : aFn Try.prog (fun _ => none) Try.f81 [0, 2] (fun _ => none) (Try.f81.body.getD .skip) [.int .i32 r] R = zep r R) h)

def zj5 (tc tg tj tf tp : PV) (M S : List (PV × PV)) (r : Int) (R : PV → Prop) : Prop :=
 PCall Try.prog 34 [PV.ptr [tc, tg, tj, tf, tp, PV.mp M, PV.mp S], Z3 r] fun (v : PV) ↦ ∃ (b : Bool), v = Zb b ∧ if b = true then R (Z6 1) else PCall Try.prog 80 [PV.ptr [tc, tg, tj, tf, tp, PV.mp M, PV.mp S], Z3 r] fun (v1 : PV) ↦ ∃ (b1 :
 Bool), v1 = Zb b1 ∧ if b1 = true then if b1 = true then R (Z6 2) else R (Z6 0) else PCall Try.prog 81 [Z3 r] fun (v2 : PV) ↦ ∃ (b2 : Bool), v2 = Zb b2 ∧ if b2 = true then R (Z6 2) else R (Z6 0)
theorem zup (tc tg tj tf tp : PV) (M S : List (PV × PV)) (r : Int) {R : PV → Prop} (h : zj5 tc tg tj tf tp M S r R) : PCall Try.prog 50 [.ptr [tc, tg, tj, tf, tp, .mp M, .mp S], .int .i32 r] R :=
  PCall.of Try.func50 (by kernel_rfl) (by kernel_rfl) (Nat.le_of_ble_eq_true (by kernel_rfl)) (Eq.mpr (by kernel_rfl : aFn Try.prog (fun _ => none) Try.f50 [0, 1, 4, 5, 9] (fun _ => none) (Try.f50.body.getD .skip) [.ptr [tc, tg, tj, tf, tp, .mp M, .mp S], .int .i32 r] R = zj5 tc tg tj tf tp M S r R) h)

def z1q (tc tg tj tf tp : PV) (M S : List (PV × PV)) (r : Int) (x13_0 : Int) (x13_1 : Int) (x14 : Int) : Env × Hp := ([(0, LV.pv (PV.ptr [tc, tg, tj, tf, tp, PV.mp M, PV.mp S])), (13, .pv (.agg [.int IntKind.i32 x13_0, .int IntKind.i32 x13_1])), (14, .pv (.int IntKind.i64 x14))], [])
def ze1 (tc tg tj tf tp : PV) (M S : List (PV × PV)) (r : Int) (J : Int → Int → Int → Prop) (μ : Int → Int → Int → Nat) (R : PV → Prop) : Prop :=
 PCall Try.prog 47 [PV.ptr [tc, tg, tj, tf, tp, PV.mp M, PV.mp S], Z3 r] fun (v : PV) ↦ ∃ (n : Bool), ∃ (f : Bool), ∃ (es : LL), v = PV.sl n f es ∧ zaq es (0 : Int) 1 ∧ ∃ (n1 : Int), (es.getD 0 []).head? = some (Z3 n1) ∧ (zab (z1q tc
 tg tj tf tp M S r r n1 (0 : Int)) ∧ J r n1 (0 : Int)) ∧ ∀ (x13_0 x13_1 x14 : Int), J x13_0 x13_1 x14 → if decide (x14 < 2) = true then ((0 : Int) ≤ x14 ∧ x14 < (↑2 : Int) ∧ x14.toNat * 1 + 1 ≤ 2) ∧ ∃ (n2 : Int), [Z3 x13_0, Z3 x13_1].getD
 x14.toNat PV.unit = Z3 n2 ∧ PCall Try.prog 45 [PV.ptr [tc, tg, tj, tf, tp, PV.mp M, PV.mp S], Z3 n2] fun (v1 : PV) ↦ ∃ (n3 : Int), v1 = Z6 n3 ∧ if (n3 != 0) = true then R (Zb false) else PCall Try.prog 50 [PV.ptr [tc, tg, tj, tf, tp, PV.mp
 M, PV.mp S], Z3 n2] fun (v2 : PV) ↦ ∃ (n4 : Int), v2 = Z6 n4 ∧ if (n4 != 0) = true then R (Zb false) else zab (z1q tc tg tj tf tp M S r x13_0 x13_1 (IntKind.i64.wrap (x14 + 1))) ∧ J x13_0 x13_1 (IntKind.i64.wrap (x14 + 1)) ∧ μ x13_0
 x13_1 (IntKind.i64.wrap (x14 + 1)) < μ x13_0 x13_1 x14 else R (Zb true)
theorem zmy (tc tg tj tf tp : PV) (M S : List (PV × PV)) (r : Int) (J : Int → Int → Int → Prop) (μ : Int → Int → Int → Nat) {R : PV → Prop} (h : ze1 tc tg tj tf tp M S r J μ R) : PCall Try.prog 24 [.ptr [tc, tg, tj, tf, tp, .mp M, .mp S], .int .i32 r] R :=
  PCall.of Try.func24 (by kernel_rfl) (by kernel_rfl) (Nat.le_of_ble_eq_true (by kernel_rfl)) (Eq.mpr (by kernel_rfl : aFn Try.prog (fun _ => none) Try.f24 [0, 1, 4, 6, 13, 14, 15, 26] (fun zz_ => match zz_ with | 2 => some ⟨Int × Int × Int, fun s => z1q tc tg tj tf tp M S r s.1 s.2.1 s.2.2, fun _ s => J s.1 s.2.1 s.2.2, fun s => μ s.1 s.2.1 s.2.2, fun e h => (gC e 13 0, gC e 13 1, gI e 14), [], [0, 13, 14], [], fun p => ∀ (x13_0 : Int) (x13_1 : Int) (x14 : Int), p (x13_0, x13_1, x14), fun p h s => h s.1 s.2.1 s.2.2⟩ | _ => none) (Try.f24.body.getD .skip) [.ptr [tc, tg, tj, tf, tp, .mp M, .mp S], .int .i32 r] R = ze1 tc tg tj tf tp M S r J μ R) h)

end Go.Eng



namespace Go.Eng
open Go Go.Proofs
def zcq (tc tg tj tf tp : PV) (M S : List (PV × PV)) (r : Int) (R : PV → Prop) : Prop :=
 (∃ (kvs : List (PV × PV)), some (PV.mp S) = some (PV.mp kvs) ∧ zco .i32 kvs ∧ (∀ (v : PV), zax (Z3 r) kvs = some v → ∃ (b : Bool), v = Zb b ∧ R (Zb b)) ∧ (zax (Z3 r) kvs = none → R (Zb false))) ∨ some (PV.mp S) = some PV.nilm ∧
 zco .i32 [] ∧ (∀ (v : PV), zax (Z3 r) [] = some v → ∃ (b : Bool), v = Zb b ∧ R (Zb b)) ∧ (zax (Z3 r) [] = none → R (Zb false))
theorem zie (tc tg tj tf tp : PV) (M S : List (PV × PV)) (r : Int) {R : PV → Prop} (h : zcq tc tg tj tf tp M S r R) : PCall Try.prog 80 [.ptr [tc, tg, tj, tf, tp, .mp M, .mp S], .int .i32 r] R :=
  PCall.of Try.func80 (by kernel_rfl) (by kernel_rfl) (Nat.le_of_ble_eq_true (by kernel_rfl)) (Eq.mpr (by kernel_rfl : aFn Try.prog (fun _ => none) Try.f80 [0, 1, 4] (fun _ => none) (Try.f80.body.getD .skip) [.ptr [tc, tg, tj, tf, tp, .mp M, .mp S], .int .i32 r] R = zcq tc tg tj tf tp M S r R) h)

end Go.Eng



namespace Go.Eng
open Go Go.Proofs Go.Eng.Rows Go.Eng.Trie
theorem z1r (tc tg tj tf tp : PV) (M : List (PV × PV)) (sec : List (Int × Bool)) (r : Int) : PCall Try.prog 80 [.ptr [tc, tg, tj, tf, tp, .mp M, .mp (zdv sec)], .int .i32 r] fun v => v = .bool (secB sec r) := by
  refine zie _ _ _ _ _ _ _ _ ?_
  unfold zcq
  have hg := zcs (ek := fun n => PV.int .i32 n) (ev := fun b => PV.bool b) (ze8 .i32) r sec
  refine .inl ⟨_, rfl, zb9 sec, fun v hv => ?_, fun hv => ?_⟩
  · rw [hg] at hv
    cases h : aget r sec with
    | none => rw [h] at hv; cases hv
    | some b => rw [h] at hv; cases hv; exact ⟨b, rfl, by simp [secB, h]⟩
  · rw [hg] at hv
    cases h : aget r sec with
    | none => simp [secB, h]
    | some b => rw [h] at hv; cases hv
end Go.Eng



namespace Go.Eng
open Go Go.Proofs Go.Eng.Rows Go.Eng.Trie
theorem pSec (r : Int) : PCall Try.prog 81 [.int .i32 r] fun v => v = .bool (hsec r) := by
  refine zmk _ ?_; unfold zep
  unfold hsec
  by_cases h1 : 4449 ≤ r <;> by_cases h2 : r ≤ 4469 <;> by_cases h3 : 4520 ≤ r <;> by_cases h4 : r ≤ 4546 <;> simp [h1, h2, h3, h4] <;> omega
section
variable {rows : List Row}
end
end Go.Eng



namespace Go.Eng
open Go Go.Proofs Go.Eng.Rows Go.Eng.Trie
section
variable {rows : List Row} {v : PV}
theorem qOf (hp : zar rows) (h1 : zbz rows) (hv : zf1 rows v) {r : Int} (hr : -2147483648 ≤ r ∧ r ≤ 2147483647) : PCall Try.prog 50 [v, .int .i32 r] fun x => x = .int .i64 (ofQ rows r) := by
  obtain ⟨tc, tg, tj, tf, tp, made, sec, rfl, ht, hm⟩ := hv
  refine zup _ _ _ _ _ _ _ _ ?_; unfold zj5
  refine (pOut _ _ hp ht hr).mono ?_
  rintro _ rfl
  refine ⟨_, rfl, ?_⟩
  refine iteD (fun ho => ?_) (fun ho => ?_)
  · unfold ofQ; rw [if_pos ho]
  · refine (z1r tc tg tj tf tp _ sec r).mono ?_
    rintro _ rfl
    have hs : secB sec r = sec4 rows r := z09 hp h1 hm r
    rw [hs]
    refine ⟨_, rfl, ?_⟩
    refine iteD (fun h2 => ?_) (fun h2 => ?_)
    · refine iteT h2 ?_
      unfold ofQ; rw [if_neg ho, if_pos (by simp [h2])]
    · refine (pSec r).mono ?_
      rintro _ rfl
      refine ⟨_, rfl, ?_⟩
      refine iteD (fun h3 => ?_) (fun h3 => ?_)
      · unfold ofQ; rw [if_neg ho, if_pos (by simp [h3])]
      · unfold ofQ; rw [if_neg ho, if_neg (by simp only [Bool.not_eq_true] at h2 h3; simp [h2, h3])]
theorem zw7 (hp : zar rows) {r : Int} (hr : -2147483648 ≤ r ∧ r ≤ 2147483647) : -2147483648 ≤ zd2 rows r ∧ zd2 rows r ≤ 2147483647 := by
  rcases zgx hp 8 r _ (zwj rows r) with h | h
  · rw [h]; exact hr
  · omega
theorem zy8 {l : List Int} (h : 0 < l.length) : l[0] = l.headD 0 := by
  cases l with
  | nil => simp at h
  | cons a l => rfl
theorem zw8 (rows : List Row) (r : Int) : zaq (i32s (zat rows 8 r)) 0 1 ∧ (i32s (zat rows 8 r)).getD 0 [] = [.int .i32 (zd2 rows r)] := by
  have hne := zo3 rows 8 r
  have hlen : 0 < (zat rows 8 r).length := List.length_pos_iff.2 hne
  obtain ⟨h1, h2⟩ := zhp (l := zat rows 8 r) (i := 0) (Int.le_refl _) (by simpa using hlen)
  refine ⟨h1, h2.trans ?_⟩
  have : (zat rows 8 r)[(0 : Int).toNat]'(by simpa using hlen) = zd2 rows r := zy8 hlen
  rw [this]
theorem zw9 (hp : zar rows) (h1 : zbz rows) (hv : zf1 rows v) {r : Int} (hr : -2147483648 ≤ r ∧ r ≤ 2147483647) : PCall Try.prog 24 [v, .int .i32 r] fun x => x = .bool (zfc rows r) := by
  have hv' := hv
  obtain ⟨tc, tg, tj, tf, tp, made, sec, rfl, ht, hm⟩ := hv
  have hh := zw7 hp hr
  refine zmy _ _ _ _ _ _ _ _ (fun a b i => r = a ∧ zd2 rows r = b ∧ 0 ≤ i ∧ i ≤ 2 ∧ (1 ≤ i → numG rows 1 r = 0 ∧ ofQ rows r = 0) ∧ (2 ≤ i → numG rows 1 (zd2 rows r) = 0 ∧ ofQ rows (zd2 rows r) = 0)) (fun _ _ i => (2 - i).toNat) ?_
  unfold ze1
  refine (z3i _ _ hp ht hr).mono ?_
  rintro _ ⟨nl, rfl⟩
  obtain ⟨f1, f2⟩ := zw8 rows r
  refine ⟨_, _, _, rfl, f1, zd2 rows r, by rw [f2]; rfl, ⟨rfl, rfl, rfl, Int.le_refl _, by omega, fun h => absurd h (by omega), fun h => absurd h (by omega)⟩, ?_⟩
  rintro _ _ i ⟨rfl, rfl, i0, i1, k1, k2⟩
  refine iteD (fun hc => ?_) (fun hc => ?_)
  · simp only [decide_eq_true_eq] at hc
    have hw : IntKind.i64.wrap (i + 1) = i + 1 := zaa (by omega) (by omega)
    have key : ∀ (x : Int), (-2147483648 ≤ x ∧ x ≤ 2147483647) → [PV.int .i32 r, .int .i32 (zd2 rows r)].getD i.toNat .unit = .int .i32 x →
        ((numG rows 1 x = 0 ∧ ofQ rows x = 0) → (1 ≤ i + 1 → numG rows 1 r = 0 ∧ ofQ rows r = 0) ∧ (2 ≤ i + 1 → numG rows 1 (zd2 rows r) = 0 ∧ ofQ rows (zd2 rows r) = 0)) → (¬ (numG rows 1 x = 0 ∧ ofQ rows x = 0) → zfc rows r = false) →
        ∃ n2 : Int, [PV.int .i32 r, .int .i32 (zd2 rows r)].getD i.toNat .unit = .int .i32 n2 ∧ PCall Try.prog 45 [.ptr [tc, tg, tj, tf, tp, .mp (zbi made), .mp (zdv sec)], .int .i32 n2] fun v1 => ∃ n3 : Int, v1 = .int .i64 n3 ∧
          if (n3 != 0) = true then PV.bool false = PV.bool (zfc rows r) else PCall Try.prog 50 [.ptr [tc, tg, tj, tf, tp, .mp (zbi made), .mp (zdv sec)], .int .i32 n2] fun v2 => ∃ n4 : Int, v2 = .int .i64 n4 ∧
            if (n4 != 0) = true then PV.bool false = PV.bool (zfc rows r) else (1 ≤ i + 1 → numG rows 1 r = 0 ∧ ofQ rows r = 0) ∧ (2 ≤ i + 1 → numG rows 1 (zd2 rows r) = 0 ∧ ofQ rows (zd2 rows r) = 0) := fun x hx hg hyes hno => by
      refine ⟨x, hg, ?_⟩
      refine (zqp _ _ ht hx).mono ?_
      rintro _ rfl
      refine ⟨_, rfl, ?_⟩
      refine iteD (fun h4 => ?_) (fun h4 => ?_)
      · simp only [bne_iff_ne, ne_eq] at h4
        rw [hno fun h => h4 h.1]
      · simp only [bne_iff_ne, ne_eq, Decidable.not_not] at h4
        refine (qOf hp h1 hv' hx).mono ?_
        rintro _ rfl
        refine ⟨_, rfl, ?_⟩
        refine iteD (fun h5 => ?_) (fun h5 => ?_)
        · simp only [bne_iff_ne, ne_eq] at h5
          rw [hno fun h => h5 h.2]
        · simp only [bne_iff_ne, ne_eq, Decidable.not_not] at h5
          exact hyes ⟨h4, h5⟩
    have hi : i = 0 ∨ i = 1 := by omega
    have hmu : (2 - (i + 1)).toNat < (2 - i).toNat := by omega
    have key2 : ∃ n2 : Int, [PV.int .i32 r, .int .i32 (zd2 rows r)].getD i.toNat .unit = .int .i32 n2 ∧ PCall Try.prog 45 [.ptr [tc, tg, tj, tf, tp, .mp (zbi made), .mp (zdv sec)], .int .i32 n2] fun v1 => ∃ n3 : Int, v1 = .int .i64 n3 ∧
          if (n3 != 0) = true then PV.bool false = PV.bool (zfc rows r) else PCall Try.prog 50 [.ptr [tc, tg, tj, tf, tp, .mp (zbi made), .mp (zdv sec)], .int .i32 n2] fun v2 => ∃ n4 : Int, v2 = .int .i64 n4 ∧
            if (n4 != 0) = true then PV.bool false = PV.bool (zfc rows r) else (1 ≤ i + 1 → numG rows 1 r = 0 ∧ ofQ rows r = 0) ∧ (2 ≤ i + 1 → numG rows 1 (zd2 rows r) = 0 ∧ ofQ rows (zd2 rows r) = 0) := by
      rcases hi with rfl | rfl
      · refine key r hr rfl (fun h => ⟨fun _ => h, fun h2 => absurd h2 (by omega)⟩) fun h => ?_
        unfold zfc
        by_cases e1 : numG rows 1 r = 0
        · have e2 : ofQ rows r ≠ 0 := fun e2 => h ⟨e1, e2⟩
          simp [e2]
        · simp [e1]
      · refine key (zd2 rows r) hh rfl (fun h => ⟨fun _ => k1 (by omega), fun _ => h⟩) fun h => ?_
        unfold zfc
        by_cases e1 : numG rows 1 (zd2 rows r) = 0
        · have e2 : ofQ rows (zd2 rows r) ≠ 0 := fun e2 => h ⟨e1, e2⟩
          simp [e2]
        · simp [e1]
    obtain ⟨n2, g1, g2⟩ := key2
    refine ⟨⟨i0, hc, by simp; omega⟩, n2, g1, g2.mono ?_⟩
    rintro v1 ⟨n3, rfl, hk⟩
    refine ⟨n3, rfl, iteD (fun h => by rw [if_pos h] at hk; exact hk) (fun h => ?_)⟩
    rw [if_neg h] at hk
    refine hk.mono ?_
    rintro v2 ⟨n4, rfl, hk2⟩
    refine ⟨n4, rfl, iteD (fun h => by rw [if_pos h] at hk2; exact hk2) (fun h => ?_)⟩
    rw [if_neg h] at hk2
    rw [hw]
    exact ⟨rfl, ⟨rfl, rfl, by omega, by omega, hk2⟩, hmu⟩
  · simp only [decide_eq_true_eq] at hc
    obtain ⟨a1, a2⟩ := k1 (by omega)
    obtain ⟨a3, a4⟩ := k2 (by omega)
    unfold zfc; simp [a1, a2, a3, a4]
end
end Go.Eng



namespace Go.Eng
open Go Go.Proofs Go.Eng.Rows Go.Eng.Trie
section
variable {rows : List Row} {v : PV}
end
end Go.Eng



namespace Go.Eng
open Go Go.Proofs Go.Shelf
theorem zmz (z : Array Value) (n : Nat) : (Builtin.zeroCells z n).size = n * z.size := by simp [Builtin.zeroCells]
theorem z1s {P : Program} {ρ : Go.Shelf.Ren} (L : Lays8.n4 P ρ) (hcal : zg2 P (ρ.f 4)) (el : TypeId) (hel : ρ.t 25 = el) (i0 : TypeInfo) (z : Value) (hi0 : P.info? el = some i0) (hz0 : i0.zero = some z) (hs0 : 0 < i0.size) (hzs : z.cells.size = i0.size)
    (n : Nat) (hbig : n * i0.bytes ≤ 140737488355328) (h63 : n ≤ 4611686018427387904) :
    ACall P (ρ.f 4) [.pv (.sl true true []), .pv (.int .i64 n)] [] fun r h' => ∃ nl, r = .own 0 ∧ h' = [.sl (el, i0.size) false nl []] := by
  subst hel
  refine ⟨hcal, fun w I G cargs hh hsz hrel => ?_⟩
  simp only [List.length_cons, List.length_nil] at hsz
  have h0 := hrel 0 _ rfl
  have h1 := hrel 1 _ rfl
  obtain ⟨v0, v1, rfl⟩ : ∃ v0 v1, cargs = #[v0, v1] := by
    obtain ⟨c⟩ := cargs
    match c, hsz with
    | [a, b], _ => exact ⟨a, b, rfl⟩
  have e0 : (#[v0, v1] : Array Value).getD 0 undef = v0 := rfl
  have e1 : (#[v0, v1] : Array Value).getD 1 undef = v1 := rfl
  rw [e0] at h0
  rw [e1] at h1
  have hv0 : v0 = .slice none 0 0 := by
    cases h0 with
    | pv _ _ h => cases h; rfl
  have hv1 : v1 = .int .i64 n := by
    cases h1 with
    | pv _ _ h => cases h; rfl
  subst hv0 hv1
  by_cases hn : n = 0
  · subst hn
    refine (Any8.slices_Grow_room L none 0 0 0 w (Nat.le_refl _) (by omega) (by omega) (Nat.le_refl _)).mono fun e w' ⟨he, hw⟩ => ?_
    subst hw
    have hna : ¬ (Ob.sl (ρ.t 25, i0.size) false true []).alive ⟨0, 0, 0, 0⟩ := fun h => by cases h.1
    exact ⟨_, .own 0, _, I, _, he, ⟨true, rfl, rfl⟩, hh.add _ ⟨0, 0, 0, 0⟩ hna rfl, .ownNil 0 _ _ _ rfl, TrH.add _ _ hna⟩
  · refine (Any8.slices_Grow_grow L i0 z hi0 hz0 hs0 none 0 0 n [] w (Nat.le_refl _) (by omega) (by rw [Nat.zero_add]; exact hbig) (by omega) (by simp) (fun _ => rfl) (fun a ha => by cases ha)).mono fun e w' ⟨he, hw⟩ => ?_
    subst hw
    rw [Nat.zero_add] at he ⊢
    have hG := grownCap_ge w n 0 (ρ.t 25)
    have hG2 := grownCap_le_maxLen w n 0 (ρ.t 25) (by unfold maxLen; omega)
    generalize grownCap w n 0 (ρ.t 25) = c at *
    have hp := hh.drew.push (.cells ((([] : List Value).toArray ++ Builtin.zeroCells z.cells (n - 0)) ++ Builtin.zeroCells z.cells (c - n)) (ρ.t 25)) (.sl (ρ.t 25, i0.size) false false []) ⟨w.drew.heap.size, 0, c, i0.size⟩ rfl
      ⟨Nat.zero_le _, hG2, fun _ => rfl, rfl, fun i e he => by simp at he, fun _ => ⟨_, zbc _ _, by
        simp only [Array.size_append, zmz, List.size_toArray, List.length_nil, hzs, Nat.zero_add]
        rw [← Nat.add_mul]; congr 1; omega, fun i e he => by simp at he⟩⟩
    refine ⟨_, .own 0, _, I, _, he, ⟨false, rfl, rfl⟩, hp, ?_, TrH.trans TrH.drew (TrH.push _ _ _ rfl)⟩
    have := LRel.own (w := w.drew.alloc (.cells ((([] : List Value).toArray ++ Builtin.zeroCells z.cells (n - 0)) ++ Builtin.zeroCells z.cells (c - n)) (ρ.t 25))) (I := I) (G := zao G ([] : Hp).length ⟨w.drew.heap.size, 0, c, i0.size⟩) (h := ([] : Hp) ++ [.sl (ρ.t 25, i0.size) false false []]) 0 (ρ.t 25, i0.size) false [] ⟨w.heap.size, 0, none⟩ (fun _ => by simp [zao]) (by simp)
    simpa [zao] using this
end Go.Eng

namespace Go.Proofs
open Go.Shelf
def Try.growRune_ren : Go.Shelf.Ren := ⟨fun | 4 => 82 | n => n, fun | 22 => 22 | 25 => 21 | 3 => 3 | 4 => 4 | 9 => 9 | 20 => 20 | 0 => 0 | n => n, fun | n => n⟩
theorem Try.growRune : Go.Proofs.Lays8.n4 Try.prog Try.growRune_ren := {
  mixed := by kernel_rfl
  f4 := ⟨Try.f82.name, by decide, Try.func82.trans (congrArg some (by kernel_rfl))⟩
  t0 := Try.underlying0
  a0 := Try.isAgg0
  z0 := Try.sizeOf0
  v0 := Try.zeroValue0
  t3 := Try.underlying3
  a3 := Try.isAgg3
  z3 := Try.sizeOf3
  v3 := Try.zeroValue3
  t4 := Try.underlying4
  a4 := Try.isAgg4
  z4 := Try.sizeOf4
  v4 := Try.zeroValue4
  t9 := Try.underlying9
  a9 := Try.isAgg9
  z9 := Try.sizeOf9
  v9 := Try.zeroValue9
  t20 := Try.underlying20
  a20 := Try.isAgg20
  z20 := Try.sizeOf20
  v20 := Try.zeroValue20
  t22 := Try.underlying22
  a22 := Try.isAgg22
  z22 := Try.sizeOf22
  v22 := Try.zeroValue22 }
end Go.Proofs



namespace Go.Eng
open Go Go.Proofs
def z1t (n f : Bool) (es : LL) (x3 : Int) (x11 : Int) : Env × Hp := ([(0, LV.pv (PV.sl n f es)), (3, .pv (.int IntKind.i64 x3)), (9, LV.pv (PV.sl n f es)), (10, LV.pv (PV.int IntKind.i64 ↑es.length)), (11, .pv (.int IntKind.i64 x11))], [])
def zxa (n f : Bool) (es : LL) (x27 : Int) (n_0 : Bool) (s_0 : LL) : Env × Hp := ([(6, LV.own 0), (25, LV.pv (PV.sl n f es)), (26, LV.pv (PV.int IntKind.i64 ↑es.length)), (27, .pv (.int IntKind.i64 x27))], [.sl (21, 1) true n_0 s_0])
def zbo (n f : Bool) (es : LL) (J : Int → Int → Prop) (μ : Int → Int → Nat) (J2 : Int → Bool → (LL) → Prop) (μ2 : Int → Bool → (LL) → Nat) (R : PV → Prop) : Prop :=
 (zab (z1t n f es (0 : Int) (0 : Int)) ∧ J (0 : Int) (0 : Int)) ∧ ∀ (x3 x11 : Int), J x3 x11 → if decide (x11 < (↑es.length : Int)) = true then zaq es x11 1 ∧ ∃ (n1 : Bool), ∃ (f1 : Bool), ∃ (es1 : LL), (es.getD x11.toNat []).head? =
 some (PV.sl n1 f1 es1) ∧ if decide (IntKind.i64.wrap (x3 + (↑es1.length : Int)) < 0) = true then zac 815 else zab (z1t n f es (IntKind.i64.wrap (x3 + (↑es1.length : Int))) (IntKind.i64.wrap (x11 + 1))) ∧ J (IntKind.i64.wrap (x3 +
 (↑es1.length : Int))) (IntKind.i64.wrap (x11 + 1)) ∧ μ (IntKind.i64.wrap (x3 + (↑es1.length : Int))) (IntKind.i64.wrap (x11 + 1)) < μ x3 x11 else ACall Try.prog 82 [LV.pv (PV.sl true true []), Y6 x3] [] fun (r : LV) (h' : Hp) ↦ ∃ (t :
 Bool), (r = LV.own 0 ∧ h' = [Ob.sl (21, 1) false t []]) ∧ True ∧ (zab (zxa n f es (0 : Int) t []) ∧ J2 (0 : Int) t []) ∧ ∀ (x27 : Int) (n_0 : Bool) (s_0 : LL), J2 x27 n_0 s_0 → if decide (x27 < (↑es.length : Int)) = true then zaq es
 x27 1 ∧ ∃ (n1 : Bool), ∃ (f1 : Bool), ∃ (es1 : LL), (es.getD x27.toNat []).head? = some (PV.sl n1 f1 es1) ∧ (szOK es1 1 ∧ (s_0.length + es1.length) * 4 ≤ 140737488355328) ∧ zab (zxa n f es (IntKind.i64.wrap (x27 + 1)) (n_0 &&
 es1.isEmpty) (s_0 ++ es1)) ∧ J2 (IntKind.i64.wrap (x27 + 1)) (n_0 && es1.isEmpty) (s_0 ++ es1) ∧ μ2 (IntKind.i64.wrap (x27 + 1)) (n_0 && es1.isEmpty) (s_0 ++ es1) < μ2 x27 n_0 s_0 else R (PV.sl n_0 false s_0)
theorem ze2 (n f : Bool) (es : LL) (J : Int → Int → Prop) (μ : Int → Int → Nat) (J2 : Int → Bool → (LL) → Prop) (μ2 : Int → Bool → (LL) → Nat) {R : PV → Prop} (h : zbo n f es J μ J2 μ2 R) : PCall Try.prog 54 [.sl n f es] R :=
  PCall.of Try.func54 (by kernel_rfl) (by kernel_rfl) (Nat.le_of_ble_eq_true (by kernel_rfl)) (Eq.mpr (by kernel_rfl : aFn Try.prog (fun zz_ => match zz_ with | 82 => some ⟨Bool, fun _ hs t => (.own hs.length, hs ++ [.sl (21, 1) false t []]), none⟩ | _ => none) Try.f54 [0, 2, 3, 5, 6, 8, 9, 10, 11, 12, 20, 25, 26, 27, 28] (fun zz_ => match zz_ with | 3 => some ⟨Int × Int, fun s => z1t n f es s.1 s.2, fun _ s => J s.1 s.2, fun s => μ s.1 s.2, fun e h => (gI e 3, gI e 11), [], [0, 3, 9, 10, 11], [], fun p => ∀ (x3 : Int) (x11 : Int), p (x3, x11), fun p h s => h s.1 s.2⟩ | 11 => some ⟨Int × Bool × (LL), fun s => zxa n f es s.1 s.2.1 s.2.2, fun _ s => J2 s.1 s.2.1 s.2.2, fun s => μ2 s.1 s.2.1 s.2.2, fun e h => (gI e 27, oN h 0, oS h 0), [], [6, 25, 26, 27], [], fun p => ∀ (x27 : Int) (n_0 : Bool) (s_0 : LL), p (x27, n_0, s_0), fun p h s => h s.1 s.2.1 s.2.2⟩ | _ => none) (Try.f54.body.getD .skip) [.sl n f es] R = zbo n f es J μ J2 μ2 R) h)

def ze3 (tc tg tj tf tp : PV) (M S : List (PV × PV)) (n f : Bool) (es : LL) (i j : Int) (n2 f2 : Bool) (ss : LL) (R : PV → Prop) : Prop :=
 if (decide (i < 0) || decide (i > j) || decide (j > (↑es.length : Int))) = true then R (PV.tup [PV.sl true true [], PV.agg [Z6 0, Z6 0, Z6 0], Z6 2]) else PCall Try.prog 52 [PV.ptr [tc, tg, tj, tf, tp, PV.mp M, PV.mp S], PV.sl n f es, Z6 i]
 fun (v : PV) ↦ ∃ (n1 : Int), v = Z6 n1 ∧ PCall Try.prog 53 [PV.ptr [tc, tg, tj, tf, tp, PV.mp M, PV.mp S], PV.sl n f es, Z6 j] fun (v1 : PV) ↦ ∃ (n3 : Int), v1 = Z6 n3 ∧ (slOK es.length (some n1) (some i) none ∧ szOK es 1) ∧ (slOK es.length
 (some j) (some n3) none ∧ szOK es 1) ∧ PCall Try.prog 54 [PV.sl false true [[PV.sl n (f && decide (i = (↑es.length : Int))) (List.drop n1.toNat (List.take i.toNat es))], [PV.sl n2 f2 ss], [PV.sl n (f && decide (n3 = (↑es.length : Int)))
 (List.drop j.toNat (List.take n3.toNat es))]]] fun (v2 : PV) ↦ ∃ (n4 : Bool), ∃ (f1 : Bool), ∃ (es1 : LL), v2 = PV.sl n4 f1 es1 ∧ PCall Try.prog 13 [PV.ptr [tc, tg, tj, tf, tp, PV.mp M, PV.mp S], PV.sl n4 f1 es1] fun (v3 : PV) ↦ ∃ (n5 :
 Bool), ∃ (f3 : Bool), ∃ (es2 : LL), v3 = PV.sl n5 f3 es2 ∧ (slOK es.length none (some n1) none ∧ szOK es 1) ∧ (slOK es.length (some n3) none none ∧ szOK es 1) ∧ PCall Try.prog 54 [PV.sl false true [[PV.sl n (f && decide (n1 = (↑es.length :
 Int))) (List.drop 0 (List.take n1.toNat es))], [PV.sl n5 f3 es2], [PV.sl n (f && decide ((↑es.length : Int) = (↑es.length : Int))) (List.drop n3.toNat (List.take (↑es.length : Int).toNat es))]]] fun (v4 : PV) ↦ ∃ (n6 : Bool), ∃ (f4 : Bool),
 ∃ (es3 : LL), v4 = PV.sl n6 f4 es3 ∧ R (PV.tup [PV.sl n6 f4 es3, PV.agg [Z6 n1, Z6 n3, Z6 (IntKind.i64.wrap (n1 + (↑es2.length : Int)))], Z6 0])
theorem zm0 (tc tg tj tf tp : PV) (M S : List (PV × PV)) (n f : Bool) (es : LL) (i j : Int) (n2 f2 : Bool) (ss : LL) {R : PV → Prop} (h : ze3 tc tg tj tf tp M S n f es i j n2 f2 ss R) : PCall Try.prog 26 [.ptr [tc, tg, tj, tf, tp, .mp M, .mp S], .sl n f es, .int .i64 i, .int .i64 j, .sl n2 f2 ss] R :=
  PCall.of Try.func26 (by kernel_rfl) (by kernel_rfl) (Nat.le_of_ble_eq_true (by kernel_rfl)) (Eq.mpr (by kernel_rfl : aFn Try.prog (fun _ => none) Try.f26 [0, 1, 2, 3, 4, 10, 11, 12, 13, 14, 15, 28] (fun _ => none) (Try.f26.body.getD .skip) [.ptr [tc, tg, tj, tf, tp, .mp M, .mp S], .sl n f es, .int .i64 i, .int .i64 j, .sl n2 f2 ss] R = ze3 tc tg tj tf tp M S n f es i j n2 f2 ss R) h)

def z1u (tc tg tj tf tp : PV) (M S : List (PV × PV)) (n f : Bool) (es : LL) (k : Int) (x2 : Int) : Env × Hp := ([(0, LV.pv (PV.ptr [tc, tg, tj, tf, tp, PV.mp M, PV.mp S])), (1, LV.pv (PV.sl n f es)), (2, .pv (.int IntKind.i64 x2))], [])
def zg0 (tc tg tj tf tp : PV) (M S : List (PV × PV)) (n f : Bool) (es : LL) (k : Int) (J : Int → Prop) (μ : Int → Nat) (R : PV → Prop) : Prop :=
 if (k == 0) = true then R (Z6 0) else (zab (z1u tc tg tj tf tp M S n f es k (IntKind.i64.wrap (k - 1))) ∧ J (IntKind.i64.wrap (k - 1))) ∧ ∀ (x2 : Int), J x2 → if decide (x2 > 0) = true then zaq es x2 1 ∧ ∃ (n1 : Int), (es.getD
 x2.toNat []).head? = some (Z3 n1) ∧ PCall Try.prog 24 [PV.ptr [tc, tg, tj, tf, tp, PV.mp M, PV.mp S], Z3 n1] fun (v : PV) ↦ ∃ (b : Bool), v = Zb b ∧ if (!b) = true then zab (z1u tc tg tj tf tp M S n f es k (IntKind.i64.wrap (x2 - 1))) ∧
 J (IntKind.i64.wrap (x2 - 1)) ∧ μ (IntKind.i64.wrap (x2 - 1)) < μ x2 else R (Z6 x2) else R (Z6 x2)
theorem zq0 (tc tg tj tf tp : PV) (M S : List (PV × PV)) (n f : Bool) (es : LL) (k : Int) (J : Int → Prop) (μ : Int → Nat) {R : PV → Prop} (h : zg0 tc tg tj tf tp M S n f es k J μ R) : PCall Try.prog 52 [.ptr [tc, tg, tj, tf, tp, .mp M, .mp S], .sl n f es, .int .i64 k] R :=
  PCall.of Try.func52 (by kernel_rfl) (by kernel_rfl) (Nat.le_of_ble_eq_true (by kernel_rfl)) (Eq.mpr (by kernel_rfl : aFn Try.prog (fun _ => none) Try.f52 [0, 1, 2, 6, 8, 21] (fun zz_ => match zz_ with | 4 => some ⟨Int × Unit, fun s => z1u tc tg tj tf tp M S n f es k s.1, fun _ s => J s.1, fun s => μ s.1, fun e h => (((gI e 2), ())), [], [0, 1, 2], [], fun p => ∀ (x2 : Int), p (x2, ()), fun p h s => h s.1⟩ | _ => none) (Try.f52.body.getD .skip) [.ptr [tc, tg, tj, tf, tp, .mp M, .mp S], .sl n f es, .int .i64 k] R = zg0 tc tg tj tf tp M S n f es k J μ R) h)

def z1v (tc tg tj tf tp : PV) (M S : List (PV × PV)) (n f : Bool) (es : LL) (k : Int) (x2 : Int) : Env × Hp := ([(0, LV.pv (PV.ptr [tc, tg, tj, tf, tp, PV.mp M, PV.mp S])), (1, LV.pv (PV.sl n f es)), (2, .pv (.int IntKind.i64 x2))], [])
def zj6 (tc tg tj tf tp : PV) (M S : List (PV × PV)) (n f : Bool) (es : LL) (k : Int) (J : Int → Prop) (μ : Int → Nat) (R : PV → Prop) : Prop :=
 (zab (z1v tc tg tj tf tp M S n f es k k) ∧ J k) ∧ ∀ (x2 : Int), J x2 → if decide (x2 < (↑es.length : Int)) = true then zaq es x2 1 ∧ ∃ (n1 : Int), (es.getD x2.toNat []).head? = some (Z3 n1) ∧ PCall Try.prog 24 [PV.ptr [tc, tg, tj, tf,
 tp, PV.mp M, PV.mp S], Z3 n1] fun (v : PV) ↦ ∃ (b : Bool), v = Zb b ∧ if (!b) = true then zab (z1v tc tg tj tf tp M S n f es k (IntKind.i64.wrap (x2 + 1))) ∧ J (IntKind.i64.wrap (x2 + 1)) ∧ μ (IntKind.i64.wrap (x2 + 1)) < μ x2 else R
 (Z6 x2) else R (Z6 x2)
theorem zuq (tc tg tj tf tp : PV) (M S : List (PV × PV)) (n f : Bool) (es : LL) (k : Int) (J : Int → Prop) (μ : Int → Nat) {R : PV → Prop} (h : zj6 tc tg tj tf tp M S n f es k J μ R) : PCall Try.prog 53 [.ptr [tc, tg, tj, tf, tp, .mp M, .mp S], .sl n f es, .int .i64 k] R :=
  PCall.of Try.func53 (by kernel_rfl) (by kernel_rfl) (Nat.le_of_ble_eq_true (by kernel_rfl)) (Eq.mpr (by kernel_rfl : aFn Try.prog (fun _ => none) Try.f53 [0, 1, 2, 6, 19] (fun zz_ => match zz_ with | 1 => some ⟨Int × Unit, fun s => z1v tc tg tj tf tp M S n f es k s.1, fun _ s => J s.1, fun s => μ s.1, fun e h => (((gI e 2), ())), [], [0, 1, 2], [], fun p => ∀ (x2 : Int), p (x2, ()), fun p h s => h s.1⟩ | _ => none) (Try.f53.body.getD .skip) [.ptr [tc, tg, tj, tf, tp, .mp M, .mp S], .sl n f es, .int .i64 k] R = zj6 tc tg tj tf tp M S n f es k J μ R) h)

def z1w (n f : Bool) (es : LL) (n2 f2 : Bool) (ss : LL) (a b c : Int) (h0_0 : Int) (h0_1 : Int) (h0_2 : Int) (h1_0 : Int) (h1_1 : Int) (h1_2 : Int) : Env × Hp := ([(0, LV.pv (PV.sl n f es)), (1, LV.pv (PV.sl n2 f2 ss)), (5, LV.box 0 0), (6, LV.box 1 0)], [.box [.pv (.int IntKind.i64 h0_0), .pv (.int IntKind.i64 h0_1), .pv (.int IntKind.i64 h0_2)], .box [.pv (.int IntKind.i64 h1_0), .pv (.int IntKind.i64 h1_1), .pv (.int IntKind.i64 h1_2)]])
def zr3 (n f : Bool) (es : LL) (n2 f2 : Bool) (ss : LL) (a b c : Int) (h0_0 : Int) (h0_1 : Int) (h0_2 : Int) (h1_0 : Int) (h1_1 : Int) (h1_2 : Int) : Env × Hp := ([(0, LV.pv (PV.sl n f es)), (1, LV.pv (PV.sl n2 f2 ss)), (5, LV.box 0 0), (6, LV.box 1 0)], [.box [.pv (.int IntKind.i64 h0_0), .pv (.int IntKind.i64 h0_1), .pv (.int IntKind.i64 h0_2)], .box [.pv (.int IntKind.i64 h1_0), .pv (.int IntKind.i64 h1_1), .pv (.int IntKind.i64 h1_2)]])
def ze4 (n f : Bool) (es : LL) (n2 f2 : Bool) (ss : LL) (a b c : Int) (J : Int → Int → Int → Int → Int → Int → Prop) (μ : Int → Int → Int → Int → Int → Int → Nat) (J2 : Int → Int → Int → Int → Int → Int → Prop) (μ2 : Int → Int → Int → Int → Int → Int → Nat) (R : PV → Prop) : Prop :=
 (zab (z1w n f es n2 f2 ss a b c a b c (0 : Int) (0 : Int) (0 : Int)) ∧ J a b c (0 : Int) (0 : Int) (0 : Int)) ∧ ∀ (h0_0 h0_1 h0_2 h1_0 h1_1 h1_2 : Int), J h0_0 h0_1 h0_2 h1_0 h1_1 h1_2 → if decide (h0_0 < h0_1) = true then if decide
 (h0_0 < h0_2) = true then zaq es h0_0 1 ∧ ∃ (n1 : Int), (es.getD h0_0.toNat []).head? = some (Z3 n1) ∧ zaq ss h0_0 1 ∧ ∃ (n3 : Int), (ss.getD h0_0.toNat []).head? = some (Z3 n3) ∧ if (n1 == n3) = true then zab (z1w n f es n2 f2 ss a
 b c (IntKind.i64.wrap (h0_0 + 1)) h0_1 h0_2 h1_0 h1_1 h1_2) ∧ J (IntKind.i64.wrap (h0_0 + 1)) h0_1 h0_2 h1_0 h1_1 h1_2 ∧ μ (IntKind.i64.wrap (h0_0 + 1)) h0_1 h0_2 h1_0 h1_1 h1_2 < μ h0_0 h0_1 h0_2 h1_0 h1_1 h1_2 else (zab (zr3 n f es n2
 f2 ss a b c h0_0 h0_1 h0_2 h1_0 h1_1 h1_2) ∧ J2 h0_0 h0_1 h0_2 h1_0 h1_1 h1_2) ∧ ∀ (h0_01 h0_11 h0_21 h1_01 h1_11 h1_21 : Int), J2 h0_01 h0_11 h0_21 h1_01 h1_11 h1_21 → if decide (h0_11 > h0_01) = true then if decide (h0_21 > h0_01) = true
 then zaq es (IntKind.i64.wrap (h0_11 - 1)) 1 ∧ ∃ (n4 : Int), (es.getD (IntKind.i64.wrap (h0_11 - 1)).toNat []).head? = some (Z3 n4) ∧ zaq ss (IntKind.i64.wrap (h0_21 - 1)) 1 ∧ ∃ (n5 : Int), (ss.getD (IntKind.i64.wrap (h0_21 - 1)).toNat
 []).head? = some (Z3 n5) ∧ if (n4 == n5) = true then zab (zr3 n f es n2 f2 ss a b c h0_01 (IntKind.i64.wrap (h0_11 - 1)) (IntKind.i64.wrap (h0_21 - 1)) h1_01 h1_11 h1_21) ∧ J2 h0_01 (IntKind.i64.wrap (h0_11 - 1)) (IntKind.i64.wrap
 (h0_21 - 1)) h1_01 h1_11 h1_21 ∧ μ2 h0_01 (IntKind.i64.wrap (h0_11 - 1)) (IntKind.i64.wrap (h0_21 - 1)) h1_01 h1_11 h1_21 < μ2 h0_01 h0_11 h0_21 h1_01 h1_11 h1_21 else R (PV.agg [Z6 h0_01, Z6 h0_11, Z6 h0_21]) else R (PV.agg [Z6 h0_01, Z6
 h0_11, Z6 h0_21]) else R (PV.agg [Z6 h0_01, Z6 h0_11, Z6 h0_21]) else (zab (zr3 n f es n2 f2 ss a b c h0_0 h0_1 h0_2 h1_0 h1_1 h1_2) ∧ J2 h0_0 h0_1 h0_2 h1_0 h1_1 h1_2) ∧ ∀ (h0_01 h0_11 h0_21 h1_01 h1_11 h1_21 : Int), J2 h0_01 h0_11
 h0_21 h1_01 h1_11 h1_21 → if decide (h0_11 > h0_01) = true then if decide (h0_21 > h0_01) = true then zaq es (IntKind.i64.wrap (h0_11 - 1)) 1 ∧ ∃ (n1 : Int), (es.getD (IntKind.i64.wrap (h0_11 - 1)).toNat []).head? = some (Z3 n1) ∧ zaq
 ss (IntKind.i64.wrap (h0_21 - 1)) 1 ∧ ∃ (n3 : Int), (ss.getD (IntKind.i64.wrap (h0_21 - 1)).toNat []).head? = some (Z3 n3) ∧ if (n1 == n3) = true then zab (zr3 n f es n2 f2 ss a b c h0_01 (IntKind.i64.wrap (h0_11 - 1)) (IntKind.i64.wrap
 (h0_21 - 1)) h1_01 h1_11 h1_21) ∧ J2 h0_01 (IntKind.i64.wrap (h0_11 - 1)) (IntKind.i64.wrap (h0_21 - 1)) h1_01 h1_11 h1_21 ∧ μ2 h0_01 (IntKind.i64.wrap (h0_11 - 1)) (IntKind.i64.wrap (h0_21 - 1)) h1_01 h1_11 h1_21 < μ2 h0_01 h0_11 h0_21
 h1_01 h1_11 h1_21 else R (PV.agg [Z6 h0_01, Z6 h0_11, Z6 h0_21]) else R (PV.agg [Z6 h0_01, Z6 h0_11, Z6 h0_21]) else R (PV.agg [Z6 h0_01, Z6 h0_11, Z6 h0_21]) else (zab (zr3 n f es n2 f2 ss a b c h0_0 h0_1 h0_2 h1_0 h1_1 h1_2) ∧ J2 h0_0
 h0_1 h0_2 h1_0 h1_1 h1_2) ∧ ∀ (h0_01 h0_11 h0_21 h1_01 h1_11 h1_21 : Int), J2 h0_01 h0_11 h0_21 h1_01 h1_11 h1_21 → if decide (h0_11 > h0_01) = true then if decide (h0_21 > h0_01) = true then zaq es (IntKind.i64.wrap (h0_11 - 1)) 1 ∧ ∃
 (n1 : Int), (es.getD (IntKind.i64.wrap (h0_11 - 1)).toNat []).head? = some (Z3 n1) ∧ zaq ss (IntKind.i64.wrap (h0_21 - 1)) 1 ∧ ∃ (n3 : Int), (ss.getD (IntKind.i64.wrap (h0_21 - 1)).toNat []).head? = some (Z3 n3) ∧ if (n1 == n3) = true
 then zab (zr3 n f es n2 f2 ss a b c h0_01 (IntKind.i64.wrap (h0_11 - 1)) (IntKind.i64.wrap (h0_21 - 1)) h1_01 h1_11 h1_21) ∧ J2 h0_01 (IntKind.i64.wrap (h0_11 - 1)) (IntKind.i64.wrap (h0_21 - 1)) h1_01 h1_11 h1_21 ∧ μ2 h0_01
 (IntKind.i64.wrap (h0_11 - 1)) (IntKind.i64.wrap (h0_21 - 1)) h1_01 h1_11 h1_21 < μ2 h0_01 h0_11 h0_21 h1_01 h1_11 h1_21 else R (PV.agg [Z6 h0_01, Z6 h0_11, Z6 h0_21]) else R (PV.agg [Z6 h0_01, Z6 h0_11, Z6 h0_21]) else R (PV.agg [Z6 h0_01,
 Z6 h0_11, Z6 h0_21])
theorem zm1 (n f : Bool) (es : LL) (n2 f2 : Bool) (ss : LL) (a b c : Int) (J : Int → Int → Int → Int → Int → Int → Prop) (μ : Int → Int → Int → Int → Int → Int → Nat) (J2 : Int → Int → Int → Int → Int → Int → Prop) (μ2 : Int → Int → Int → Int → Int → Int → Nat) {R : PV → Prop} (h : ze4 n f es n2 f2 ss a b c J μ J2 μ2 R) : PCall Try.prog 28 [.sl n f es, .sl n2 f2 ss, .agg [.int .i64 a, .int .i64 b, .int .i64 c]] R :=
  PCall.of Try.func28 (by kernel_rfl) (by kernel_rfl) (Nat.le_of_ble_eq_true (by kernel_rfl)) (Eq.mpr (by kernel_rfl : aFn Try.prog (fun _ => none) Try.f28 [0, 1, 2, 5, 6, 31, 62] (fun zz_ => match zz_ with | 1 => some ⟨Int × Int × Int × Int × Int × Int, fun s => z1w n f es n2 f2 ss a b c s.1 s.2.1 s.2.2.1 s.2.2.2.1 s.2.2.2.2.1 s.2.2.2.2.2, fun _ s => J s.1 s.2.1 s.2.2.1 s.2.2.2.1 s.2.2.2.2.1 s.2.2.2.2.2, fun s => μ s.1 s.2.1 s.2.2.1 s.2.2.2.1 s.2.2.2.2.1 s.2.2.2.2.2, fun e h => (hI h 0 0, hI h 0 1, hI h 0 2, hI h 1 0, hI h 1 1, hI h 1 2), [], [0, 1, 5, 6], [], fun p => ∀ (h0_0 : Int) (h0_1 : Int) (h0_2 : Int) (h1_0 : Int) (h1_1 : Int) (h1_2 : Int), p (h0_0, h0_1, h0_2, h1_0, h1_1, h1_2), fun p h s => h s.1 s.2.1 s.2.2.1 s.2.2.2.1 s.2.2.2.2.1 s.2.2.2.2.2⟩ | 3 => some ⟨Int × Int × Int × Int × Int × Int, fun s => zr3 n f es n2 f2 ss a b c s.1 s.2.1 s.2.2.1 s.2.2.2.1 s.2.2.2.2.1 s.2.2.2.2.2, fun _ s => J2 s.1 s.2.1 s.2.2.1 s.2.2.2.1 s.2.2.2.2.1 s.2.2.2.2.2, fun s => μ2 s.1 s.2.1 s.2.2.1 s.2.2.2.1 s.2.2.2.2.1 s.2.2.2.2.2, fun e h => (hI h 0 0, hI h 0 1, hI h 0 2, hI h 1 0, hI h 1 1, hI h 1 2), [], [0, 1, 5, 6], [], fun p => ∀ (h0_0 : Int) (h0_1 : Int) (h0_2 : Int) (h1_0 : Int) (h1_1 : Int) (h1_2 : Int), p (h0_0, h0_1, h0_2, h1_0, h1_1, h1_2), fun p h s => h s.1 s.2.1 s.2.2.1 s.2.2.2.1 s.2.2.2.2.1 s.2.2.2.2.2⟩ | _ => none) (Try.f28.body.getD .skip) [.sl n f es, .sl n2 f2 ss, .agg [.int .i64 a, .int .i64 b, .int .i64 c]] R = ze4 n f es n2 f2 ss a b c J μ J2 μ2 R) h)

def zck  (R : PV → Prop) : Prop :=
 PCall Try.prog 12 [] fun (v : PV) ↦ ∃ (n : Bool), ∃ (f : Bool), ∃ (es : LL), v = PV.sl n f es ∧ PCall Try.prog 11 [PV.sl n f es] fun (v1 : PV) ↦ PCall Try.prog 26 [v1, PV.sl false true [[Z3 97], [Z3 101], [Z3 98]], Z6 2, Z6 2, PV.sl false
 true [[Z3 769]]] fun (v2 : PV) ↦ ∃ (vs : List PV), v2 = PV.tup vs ∧ vs.length = 3 ∧ ∃ (x : PV), vs.head? = some x ∧ ∃ (n1 : Bool), ∃ (f1 : Bool), ∃ (es1 : LL), x = PV.sl n1 f1 es1 ∧ ∃ (x1 : PV), vs.tail.head? = some x1 ∧ ∃ (cs : List PV),
 x1 = PV.agg cs ∧ cs.length = 3 ∧ ∃ (n2 : Int), cs.head? = some (Z6 n2) ∧ ∃ (n3 : Int), cs.tail.head? = some (Z6 n3) ∧ ∃ (n4 : Int), cs.tail.tail.head? = some (Z6 n4) ∧ ∃ (x2 : PV), vs.tail.tail.head? = some x2 ∧ ∃ (n5 : Int), x2 = Z6 n5 ∧
 PCall Try.prog 15 [PV.sl n1 f1 es1, PV.sl false true [[Z3 97], [Z3 233], [Z3 98]]] fun (v3 : PV) ↦ ∃ (b : Bool), v3 = Zb b ∧ if b = true then R (Zb ((bif true then n2 == 1 && (n3 == 2 && (n4 == 2 && true)) else !(n2 == 1 && (n3 == 2 && (n4
 == 2 && true)))) && n5 == 0)) else R (Zb false)
theorem zhg  {R : PV → Prop} (h : zck  R) : PCall Try.prog 27 [] R :=
  PCall.of Try.func27 (by kernel_rfl) (by kernel_rfl) (Nat.le_of_ble_eq_true (by kernel_rfl)) (Eq.mpr (by kernel_rfl : aFn Try.prog (fun _ => none) Try.f27 [0, 1, 2, 3] (fun _ => none) (Try.f27.body.getD .skip) [] R = zck  R) h)

def zbj (n f : Bool) (es : LL) (i j : Int) (n2 f2 : Bool) (ss : LL) (R : PV → Prop) : Prop :=
 PCall Try.prog 10 [PV.sl n f es, Z6 80] fun (v : PV) ↦ ∃ (n1 : Bool), ∃ (f1 : Bool), ∃ (es1 : LL), v = PV.sl n1 f1 es1 ∧ PCall Try.prog 10 [PV.sl n2 f2 ss, Z6 40] fun (v1 : PV) ↦ ∃ (n3 : Bool), ∃ (f3 : Bool), ∃ (es2 : LL), v1 = PV.sl n3 f3
 es2 ∧ PCall Try.prog 12 [] fun (v2 : PV) ↦ ∃ (n4 : Bool), ∃ (f4 : Bool), ∃ (es3 : LL), v2 = PV.sl n4 f4 es3 ∧ PCall Try.prog 11 [PV.sl n4 f4 es3] fun (v3 : PV) ↦ PCall Try.prog 26 [v3, PV.sl n1 f1 es1, Z6 i, Z6 j, PV.sl n3 f3 es2] fun (v4 :
 PV) ↦ ∃ (vs : List PV), v4 = PV.tup vs ∧ vs.length = 3 ∧ ∃ (x : PV), vs.head? = some x ∧ ∃ (n5 : Bool), ∃ (f5 : Bool), ∃ (es4 : LL), x = PV.sl n5 f5 es4 ∧ ∃ (x1 : PV), vs.tail.head? = some x1 ∧ ∃ (cs : List PV), x1 = PV.agg cs ∧ cs.length =
 3 ∧ ∃ (n6 : Int), cs.head? = some (Z6 n6) ∧ ∃ (n7 : Int), cs.tail.head? = some (Z6 n7) ∧ ∃ (n8 : Int), cs.tail.tail.head? = some (Z6 n8) ∧ ∃ (x2 : PV), vs.tail.tail.head? = some x2 ∧ ∃ (n9 : Int), x2 = Z6 n9 ∧ if (n9 != 0) = true then PCall
 Try.prog 27 [] fun (v5 : PV) ↦ ∃ (b : Bool), v5 = Zb b ∧ R (Zb b) else PCall Try.prog 28 [PV.sl n1 f1 es1, PV.sl n5 f5 es4, PV.agg [Z6 n6, Z6 n7, Z6 n8]] fun (v5 : PV) ↦ ∃ (cs1 : List PV), v5 = PV.agg cs1 ∧ cs1.length = 3 ∧ ∃ (n10 : Int),
 cs1.head? = some (Z6 n10) ∧ ∃ (n11 : Int), cs1.tail.head? = some (Z6 n11) ∧ ∃ (n12 : Int), cs1.tail.tail.head? = some (Z6 n12) ∧ if decide (n10 < n6) = true then R (Zb false) else if decide (n11 > n7) = true then R (Zb false) else if decide
 (n12 > n8) = true then R (Zb false) else if decide (n10 > n11) = true then R (Zb false) else if decide (n10 > n12) = true then R (Zb false) else if (IntKind.i64.wrap (n7 - n11) != IntKind.i64.wrap (n8 - n12)) = true then R (Zb false) else
 (slOK es1.length none (some n10) none ∧ szOK es1 1) ∧ (slOK es4.length none (some n10) none ∧ szOK es4 1) ∧ PCall Try.prog 15 [PV.sl n1 (f1 && decide (n10 = (↑es1.length : Int))) (List.drop 0 (List.take n10.toNat es1)), PV.sl n5 (f5 &&
 decide (n10 = (↑es4.length : Int))) (List.drop 0 (List.take n10.toNat es4))] fun (v6 : PV) ↦ ∃ (b : Bool), v6 = Zb b ∧ if (!b) = true then R (Zb false) else (slOK es1.length (some n11) none none ∧ szOK es1 1) ∧ (slOK es4.length (some n12)
 none none ∧ szOK es4 1) ∧ PCall Try.prog 15 [PV.sl n1 (f1 && decide ((↑es1.length : Int) = (↑es1.length : Int))) (List.drop n11.toNat (List.take (↑es1.length : Int).toNat es1)), PV.sl n5 (f5 && decide ((↑es4.length : Int) = (↑es4.length :
 Int))) (List.drop n12.toNat (List.take (↑es4.length : Int).toNat es4))] fun (v7 : PV) ↦ ∃ (b1 : Bool), v7 = Zb b1 ∧ if (!b1) = true then R (Zb false) else if decide (n10 < n11) = true then if decide (n10 < n12) = true then zaq es1 n10 1 ∧
 ∃ (n13 : Int), (es1.getD n10.toNat []).head? = some (Z3 n13) ∧ zaq es4 n10 1 ∧ ∃ (n14 : Int), (es4.getD n10.toNat []).head? = some (Z3 n14) ∧ if (n13 == n14) = true then R (Zb false) else zaq es1 (IntKind.i64.wrap (n11 - 1)) 1 ∧ ∃ (n15
 : Int), (es1.getD (IntKind.i64.wrap (n11 - 1)).toNat []).head? = some (Z3 n15) ∧ zaq es4 (IntKind.i64.wrap (n12 - 1)) 1 ∧ ∃ (n16 : Int), (es4.getD (IntKind.i64.wrap (n12 - 1)).toNat []).head? = some (Z3 n16) ∧ if (n15 == n16) = true then
 R (Zb false) else PCall Try.prog 27 [] fun (v8 : PV) ↦ ∃ (b2 : Bool), v8 = Zb b2 ∧ R (Zb b2) else PCall Try.prog 27 [] fun (v8 : PV) ↦ ∃ (b2 : Bool), v8 = Zb b2 ∧ R (Zb b2) else PCall Try.prog 27 [] fun (v8 : PV) ↦ ∃ (b2 : Bool), v8 = Zb b2
 ∧ R (Zb b2)
theorem zeq (n f : Bool) (es : LL) (i j : Int) (n2 f2 : Bool) (ss : LL) {R : PV → Prop} (h : zbj n f es i j n2 f2 ss R) : PCall Try.prog 9 [.sl n f es, .int .i64 i, .int .i64 j, .sl n2 f2 ss] R :=
  PCall.of Try.func9 (by kernel_rfl) (by kernel_rfl) (Nat.le_of_ble_eq_true (by kernel_rfl)) (Eq.mpr (by kernel_rfl : aFn Try.prog (fun _ => none) Try.f9 [0, 1, 2, 3, 8, 9, 10, 11, 12, 29, 80, 102, 142] (fun _ => none) (Try.f9.body.getD .skip) [.sl n f es, .int .i64 i, .int .i64 j, .sl n2 f2 ss] R = zbj n f es i j n2 f2 ss R) h)

end Go.Eng



namespace Go.Eng
open Go Go.Proofs Go.Eng.Rows Go.Eng.Trie Go.Eng.Srt
theorem z3u {n : Int} (h0 : 0 ≤ n) (h1 : n ≤ 1000000000000) : ACall Try.prog 82 [.pv (.sl true true []), .pv (.int .i64 n)] [] fun r h' => ∃ nl, r = .own 0 ∧ h' = [.sl (21, 1) false nl []] := by
  have hc : (match Try.prog.info? 21 with | some ti => (match ti.zero with | some z => (Nat.beq ti.size 1 && (Nat.beq ti.bytes 4 && Nat.beq z.cells.size 1)) | none => false) | none => false) = true := by kernel_rfl
  have hz : ∃ ti z, Try.prog.info? 21 = some ti ∧ ti.zero = some z ∧ ti.size = 1 ∧ ti.bytes = 4 ∧ z.cells.size = 1 := by
    split at hc
    · rename_i ti hti
      split at hc
      · rename_i z hz
        simp only [Bool.and_eq_true] at hc
        exact ⟨ti, z, hti, hz, Nat.eq_of_beq_eq_true hc.1, Nat.eq_of_beq_eq_true hc.2.1, Nat.eq_of_beq_eq_true hc.2.2⟩
      · cases hc
    · cases hc
  obtain ⟨ti, z, k1, k2, k3, k4, k5⟩ := hz
  have := z1s Try.growRune ⟨_, Try.func82, by kernel_rfl, by kernel_rfl⟩ 21 (by kernel_rfl) ti z k1 k2 (by omega) (by omega) n.toNat (by rw [k4]; omega) (by omega)
  rw [k3, show ((n.toNat : Nat) : Int) = n by omega] at this
  exact this
def slE (p : Bool × Bool × List Int) : List PV := [.sl p.1 p.2.1 (i32s p.2.2)]
def sumL (ls : List (Bool × Bool × List Int)) : Nat := (ls.map fun p => p.2.2.length).sum
theorem ztl {ls : List (Bool × Bool × List Int)} {i : Nat} (h : i < ls.length) : sumL (ls.take (i + 1)) = sumL (ls.take i) + ls[i].2.2.length := by
  unfold sumL; rw [zas h, List.map_append, List.sum_append]; simp only [List.map_cons, List.map_nil, List.sum_cons, List.sum_nil, Nat.add_zero]
theorem zxb {ls : List (Bool × Bool × List Int)} (i : Nat) : sumL (ls.take i) ≤ sumL ls := by
  have h : sumL ls = sumL (ls.take i) + sumL (ls.drop i) := by
    unfold sumL; rw [← List.sum_append, ← List.map_append, List.take_append_drop]
  omega
theorem zxc (ls : List (Bool × Bool × List Int)) : (ls.flatMap fun p => p.2.2).length = sumL ls := by
  unfold sumL; rw [List.length_flatMap]
theorem z1x (n f : Bool) (ls : List (Bool × Bool × List Int)) (hn : ls.length < 1000) (hs : sumL ls ≤ 1000000000) : PCall Try.prog 54 [.sl n f (ls.map slE)] fun x => ∃ n f, x = .sl n f (i32s (ls.flatMap fun p => p.2.2)) := by
  refine ze2 _ _ _ (fun s i => (0 ≤ i ∧ i ≤ ls.length) ∧ s = (sumL (ls.take i.toNat) : Nat)) (fun _ i => ls.length - i.toNat) (fun i _ s => (0 ≤ i ∧ i ≤ ls.length) ∧ s = i32s ((ls.take i.toNat).flatMap fun p => p.2.2)) (fun i _ _ => ls.length - i.toNat) ?_
  unfold zbo
  have hl : ((ls.map slE).length : Int) = ls.length := by rw [List.length_map]
  rw [hl]
  refine ⟨⟨rfl, ⟨Int.le_refl _, by omega⟩, rfl⟩, ?_⟩
  rintro _ i ⟨⟨i0, i1⟩, rfl⟩
  have hle := zxb (ls := ls) i.toNat
  refine iteD (fun hc => ?_) (fun hc => ?_)
  · simp only [decide_eq_true_eq] at hc
    have hi : i.toNat < ls.length := by omega
    have hix : zaq (ls.map slE) i 1 := zak (enc := slE) (fun _ => rfl) i0 (by omega)
    have hg : (ls.map slE).getD i.toNat [] = slE ls[i.toNat] := zap hi
    have hw : IntKind.i64.wrap (i + 1) = i + 1 := zaa (by omega) (by omega)
    have hst := ztl hi
    have hle2 := zxb (ls := ls) (i.toNat + 1)
    refine ⟨hix, _, _, _, by rw [hg]; rfl, ?_⟩
    rw [zaf]
    have hw2 : IntKind.i64.wrap ((sumL (ls.take i.toNat) : Nat) + (ls[i.toNat].2.2.length : Int)) = (sumL (ls.take (i.toNat + 1)) : Nat) := by
      rw [hst, zaa (by omega) (by omega)]; omega
    rw [hw2, hw]
    exact iteF (by simp) ⟨rfl, ⟨⟨by omega, by omega⟩, by rw [show (i + 1).toNat = i.toNat + 1 by omega]⟩, by dsimp only; omega⟩
  · refine (z3u (by omega) (by omega)).mono ?_
    rintro r h' ⟨nl, rfl, rfl⟩
    refine ⟨nl, ⟨rfl, rfl⟩, trivial, ⟨rfl, ⟨Int.le_refl _, by omega⟩, rfl⟩, ?_⟩
    clear hc hle i0 i1 i
    rintro i n0 _ ⟨⟨i0, i1⟩, rfl⟩
    refine iteD (fun hc => ?_) (fun hc => ?_)
    · simp only [decide_eq_true_eq] at hc
      have hi : i.toNat < ls.length := by omega
      have hix : zaq (ls.map slE) i 1 := zak (enc := slE) (fun _ => rfl) i0 (by omega)
      have hg : (ls.map slE).getD i.toNat [] = slE ls[i.toNat] := zap hi
      have hw : IntKind.i64.wrap (i + 1) = i + 1 := zaa (by omega) (by omega)
      have hst := ztl hi
      have hle2 := zxb (ls := ls) (i.toNat + 1)
      have hfl := zxc (ls.take i.toNat)
      refine ⟨hix, _, _, _, by rw [hg]; rfl, ⟨zcj _, by rw [zaf, zaf]; omega⟩, ?_⟩
      rw [hw]
      refine ⟨rfl, ⟨⟨by omega, by omega⟩, ?_⟩, by dsimp only; omega⟩
      rw [show (i + 1).toNat = i.toNat + 1 by omega, zas hi, List.flatMap_append, zg9]; simp
    · simp only [decide_eq_true_eq] at hc
      rw [List.take_of_length_le (by omega)]
      exact ⟨_, _, rfl⟩
theorem ztm (n1 f1 n2 f2 n3 f3 : Bool) (a b c : List Int) (h : a.length + b.length + c.length ≤ 1000000000) : PCall Try.prog 54 [.sl false true [[.sl n1 f1 (i32s a)], [.sl n2 f2 (i32s b)], [.sl n3 f3 (i32s c)]]] fun x => ∃ n f, x = .sl n f (i32s (a ++ (b ++ c))) := by
  have := z1x false true [(n1, f1, a), (n2, f2, b), (n3, f3, c)] (by simp) (by simp [sumL]; omega)
  simpa [slE] using this
section
variable {rows : List Row} {v : PV}
theorem zjf {L : List Int} {i : Nat} (h : i < L.length) : L.getD i 0 = L[i] := by simp [List.getD, h]
theorem z3v (hp : zar rows) (h1 : zbz rows) (hv : zf1 rows v) (n f : Bool) (L : List Int) (hr : R32 L) (hL : L.length < 1000000) (k : Int) (k0 : 0 ≤ k) (k1 : k ≤ L.length) : PCall Try.prog 52 [v, .sl n f (i32s L), .int .i64 k] fun x => x = .int .i64 (zcv rows L k.toNat : Nat) := by
  have hv' := hv
  obtain ⟨tc, tg, tj, tf, tp, made, sec, rfl, ht, hm⟩ := hv
  refine zq0 _ _ _ _ _ _ _ _ _ _ _ (fun x => (0 ≤ x ∧ x < k) ∧ zcv rows L k.toNat = zcv rows L (x.toNat + 1)) (fun x => x.toNat) ?_
  unfold zg0
  refine iteD (fun hc => ?_) (fun hc => ?_)
  · simp only [beq_iff_eq] at hc; subst hc; rfl
  simp only [beq_iff_eq] at hc
  have hw : IntKind.i64.wrap (k - 1) = k - 1 := zaa (by omega) (by omega)
  rw [hw]
  refine ⟨⟨rfl, ⟨by omega, by omega⟩, by rw [show (k - 1).toNat + 1 = k.toNat by omega]⟩, ?_⟩
  rintro x ⟨⟨x0, x1⟩, hb⟩
  have hwx : IntKind.i64.wrap (x - 1) = x - 1 := zaa (by omega) (by omega)
  rw [hwx]
  have hi : x.toNat < L.length := by omega
  refine iteD (fun hc2 => ?_) (fun hc2 => ?_)
  · simp only [decide_eq_true_eq, gt_iff_lt] at hc2
    obtain ⟨g1, g2⟩ := zhp x0 hi
    refine ⟨g1, L[x.toNat], by rw [g2]; rfl, ?_⟩
    refine (zw9 hp h1 hv' (hr _ (List.getElem_mem hi))).mono ?_
    rintro _ rfl
    refine ⟨_, rfl, ?_⟩
    have hstep : zcv rows L (x.toNat + 1) = if zfc rows L[x.toNat] = true then x.toNat else zcv rows L x.toNat := by
      rw [zcv, zjf hi]
      simp [show x.toNat ≠ 0 by omega]
    cases hst : zfc rows L[x.toNat] with
    | true =>
      refine iteF (by simp) ?_
      rw [hb, hstep, hst, if_pos rfl, show ((x.toNat : Nat) : Int) = x by omega]
    | false =>
      refine iteT (by simp) ⟨rfl, ⟨⟨by omega, by omega⟩, ?_⟩, by dsimp only; omega⟩
      rw [hb, hstep, hst, if_neg (by simp), show (x - 1).toNat + 1 = x.toNat by omega]
  · simp only [decide_eq_true_eq, gt_iff_lt] at hc2
    have : x = 0 := by omega
    subst this
    rw [hb]
    simp [zcv]
theorem qOn (hp : zar rows) (h1 : zbz rows) (hv : zf1 rows v) (n f : Bool) (L : List Int) (hr : R32 L) (hL : L.length < 1000000) (k : Int) (k0 : 0 ≤ k) (k1 : k ≤ L.length) : PCall Try.prog 53 [v, .sl n f (i32s L), .int .i64 k] fun x => x = .int .i64 (onN rows L k.toNat (L.length - k.toNat) : Nat) := by
  have hv' := hv
  obtain ⟨tc, tg, tj, tf, tp, made, sec, rfl, ht, hm⟩ := hv
  refine zuq _ _ _ _ _ _ _ _ _ _ _ (fun x => (0 ≤ x ∧ x ≤ L.length) ∧ onN rows L k.toNat (L.length - k.toNat) = onN rows L x.toNat (L.length - x.toNat)) (fun x => L.length - x.toNat) ?_
  unfold zj6
  refine ⟨⟨rfl, ⟨k0, k1⟩, rfl⟩, ?_⟩
  rintro x ⟨⟨x0, x1⟩, hb⟩
  have hw : IntKind.i64.wrap (x + 1) = x + 1 := zaa (by omega) (by omega)
  rw [hw]
  refine iteD (fun hc2 => ?_) (fun hc2 => ?_)
  · simp only [decide_eq_true_eq, zaf] at hc2
    have hi : x.toNat < L.length := by omega
    obtain ⟨g1, g2⟩ := zhp x0 hi
    refine ⟨g1, L[x.toNat], by rw [g2]; rfl, ?_⟩
    refine (zw9 hp h1 hv' (hr _ (List.getElem_mem hi))).mono ?_
    rintro _ rfl
    refine ⟨_, rfl, ?_⟩
    have hstep : onN rows L x.toNat (L.length - x.toNat) = if zfc rows L[x.toNat] = true then x.toNat else onN rows L (x.toNat + 1) (L.length - (x.toNat + 1)) := by
      rw [show L.length - x.toNat = (L.length - (x.toNat + 1)) + 1 by omega, onN, zjf hi]
    cases hst : zfc rows L[x.toNat] with
    | true =>
      refine iteF (by simp) ?_
      rw [hb, hstep, hst, if_pos rfl, show ((x.toNat : Nat) : Int) = x by omega]
    | false =>
      refine iteT (by simp) ⟨rfl, ⟨⟨by omega, by omega⟩, ?_⟩, by dsimp only; omega⟩
      rw [hb, hstep, hst, if_neg (by simp), show (x + 1).toNat = x.toNat + 1 by omega]
  · simp only [decide_eq_true_eq, zaf] at hc2
    have : x.toNat = L.length := by omega
    rw [hb, this, Nat.sub_self]
    show _ = PV.int .i64 ((L.length : Nat) : Int)
    rw [show (L.length : Int) = x by omega]
theorem zj7 (L : List Int) (k : Nat) : List.drop 0 (List.take k (i32s L)) = i32s (L.take k) := by simp [i32s]
theorem ztn (L : List Int) (k : Nat) : List.drop k (List.take ((i32s L).length : Int).toNat (i32s L)) = i32s (L.drop k) := by
  rw [Int.toNat_natCast, List.take_length]; simp [i32s]
theorem z1y {len : Nat} {j : Int} (h0 : 0 ≤ j) (h2 : j ≤ len) : slOK len none (some j) none := ⟨Int.le_refl _, h0, h2, trivial⟩
theorem z1z {len : Nat} {i : Int} (h0 : 0 ≤ i) (h2 : i ≤ len) : slOK len (some i) none none := ⟨h0, h2, Int.le_refl _, trivial⟩
def z10 (rows : List Row) (L : List Int) (i j : Nat) (ins : List Int) (n f : Bool) : PV := .tup [.sl n f (i32s (zid rows L i j ins)), .agg [.int .i64 (zcv rows L i : Nat), .int .i64 (onN rows L j (L.length - j) : Nat), .int .i64 ((zcv rows L i + (nfcL rows (midL rows L i j ins)).length : Nat) : Int)], .int .i64 0]
theorem zxd (rows : List Row) (L : List Int) (i j : Nat) (ins : List Int) : (midL rows L i j ins).length ≤ L.length + ins.length + L.length := by
  unfold midL
  have h1 := zk2 L (zcv rows L i) i
  have h2 := zk2 L j (onN rows L j (L.length - j))
  rw [List.length_append, List.length_append]; omega
theorem zxe (hp : zar rows) (h1 : zbz rows) (hk : zgz rows) (hv : zf1 rows v) (n f n2 f2 : Bool) (L ins : List Int) (hr : R32 L) (hL : L.length < 100000) (hr2 : R32 ins) (hL2 : ins.length < 100000) (i j : Int) :
    PCall Try.prog 26 [v, .sl n f (i32s L), .int .i64 i, .int .i64 j, .sl n2 f2 (i32s ins)] fun x => if (0 ≤ i ∧ i ≤ j) ∧ j ≤ L.length then ∃ n f, x = z10 rows L i.toNat j.toNat ins n f else x = .tup [.sl true true [], .agg [.int .i64 0, .int .i64 0, .int .i64 0], .int .i64 2] := by
  have hv' := hv
  obtain ⟨tc, tg, tj, tf, tp, made, sec, rfl, ht, hm⟩ := hv
  refine zm0 _ _ _ _ _ _ _ _ _ _ _ _ _ _ _ ?_; unfold ze3
  have hl : ((i32s L).length : Int) = L.length := by rw [zaf]
  refine iteD (fun hc => ?_) (fun hc => ?_)
  · simp only [Bool.or_eq_true, decide_eq_true_eq, gt_iff_lt, hl] at hc
    dsimp only
    rw [if_neg (by omega)]
  · simp only [Bool.or_eq_true, decide_eq_true_eq, gt_iff_lt, hl] at hc
    have hcond : (0 ≤ i ∧ i ≤ j) ∧ j ≤ (L.length : Int) := by omega
    refine (z3v hp h1 hv' n f L hr (by omega) i (by omega) (by omega)).mono ?_
    rintro _ rfl
    refine ⟨_, rfl, ?_⟩
    refine (qOn hp h1 hv' n f L hr (by omega) j (by omega) (by omega)).mono ?_
    rintro _ rfl
    refine ⟨_, rfl, ?_⟩
    obtain ⟨a1, a2, a3⟩ := zr2 rows L i.toNat
    obtain ⟨b1, b2, b3⟩ := z1p rows L (L.length - j.toNat) j.toNat
    have hmid := zxd rows L i.toNat j.toNat ins
    have hnl := zw4 hk (midL rows L i.toNat j.toNat ins)
    have hs1 := zk2 L (zcv rows L i.toNat) i.toNat
    have hs2 := zk2 L j.toNat (onN rows L j.toNat (L.length - j.toNat))
    have hmr : R32 (midL rows L i.toNat j.toNat ins) := fun x hx => by
      unfold midL at hx
      rcases List.mem_append.1 hx with hx | hx
      · exact (hr.sub _ _) x hx
      · rcases List.mem_append.1 hx with hx | hx
        · exact hr2 x hx
        · exact (hr.sub _ _) x hx
    have key : ∀ (a b : Nat), a = zcv rows L i.toNat → b = onN rows L j.toNat (L.length - j.toNat) → True := fun _ _ _ _ => trivial
    simp only [Int.toNat_natCast]
    refine ⟨⟨z24 (by omega) (by omega) (by rw [hl]; omega), zcj _⟩, ⟨z24 (by omega) (by omega) (by rw [hl]; omega), zcj _⟩, ?_⟩
    rw [zw6, zw6]
    refine (ztm _ _ _ _ _ _ _ _ _ (by omega)).mono ?_
    rintro _ ⟨n3, f3, rfl⟩
    refine ⟨_, _, _, rfl, ?_⟩
    refine (qNFC hp h1 hk hv' _ _ (midL rows L i.toNat j.toNat ins) hmr (by omega)).mono ?_
    rintro _ ⟨n4, f4, rfl⟩
    refine ⟨_, _, _, rfl, ⟨z1y (by omega) (by rw [hl]; omega), zcj _⟩, ⟨z1z (by omega) (by rw [hl]; omega), zcj _⟩, ?_⟩
    rw [zj7, ← Int.toNat_natCast (i32s L).length, Int.toNat_natCast, List.take_length]
    have hdr : List.drop (onN rows L j.toNat (L.length - j.toNat)) (i32s L) = i32s (L.drop (onN rows L j.toNat (L.length - j.toNat))) := by simp [i32s]
    rw [hdr]
    refine (ztm _ _ _ _ _ _ _ _ _ (by rw [List.length_take, List.length_drop]; omega)).mono ?_
    rintro _ ⟨n5, f5, rfl⟩
    refine ⟨_, _, _, rfl, ?_⟩
    rw [if_pos hcond]
    refine ⟨n5, f5, ?_⟩
    have hw : IntKind.i64.wrap (((zcv rows L i.toNat : Nat) : Int) + ((i32s (nfcL rows (midL rows L i.toNat j.toNat ins))).length : Int)) = ((zcv rows L i.toNat + (nfcL rows (midL rows L i.toNat j.toNat ins)).length : Nat) : Int) := by
      rw [zaf, zaa (by omega) (by omega)]; omega
    rw [hw]; rfl
end
end Go.Eng



namespace Go.Eng
open Go Go.Proofs Go.Eng.Rows Go.Eng.Trie Go.Eng.Srt
structure zy9 (L S : List Int) (a b c x y z : Nat) : Prop where
  ax : a ≤ x
  xy : x ≤ y
  yb : y ≤ b
  xz : x ≤ z
  zc : z ≤ c
  d : b - y = c - z
  t : L.take x = S.take x
  r : L.drop y = S.drop z
  f : x < y → x < z → L.getD x 0 ≠ S.getD x 0 ∧ L.getD (y - 1) 0 ≠ S.getD (z - 1) 0
theorem zq1 {L : List Int} {x : Nat} (h : x < L.length) : L.take (x + 1) = L.take x ++ [L.getD x 0] := by rw [zas h, zjf h]
theorem z11 (n f n2 f2 : Bool) (L S : List Int) (hL : L.length < 1000000) (hS : S.length < 100000000) (a b c : Nat) (h1 : a ≤ b) (h2 : b ≤ L.length) (h3 : a ≤ c) (h4 : c ≤ S.length) (ht : L.take a = S.take a) (hd : L.drop b = S.drop c) :
    PCall Try.prog 28 [.sl n f (i32s L), .sl n2 f2 (i32s S), .agg [.int .i64 a, .int .i64 b, .int .i64 c]] fun v => ∃ x y z : Nat, v = .agg [.int .i64 x, .int .i64 y, .int .i64 z] ∧ zy9 L S a b c x y z := by
  refine zm1 _ _ _ _ _ _ _ _ _ (fun p q r _ _ _ => ∃ x : Nat, p = x ∧ q = b ∧ r = c ∧ (a ≤ x ∧ x ≤ b ∧ x ≤ c) ∧ L.take x = S.take x) (fun p _ _ _ _ _ => b - p.toNat)
    (fun p q r _ _ _ => ∃ x y z : Nat, p = x ∧ q = y ∧ r = z ∧ (a ≤ x ∧ x ≤ y ∧ y ≤ b ∧ x ≤ z ∧ z ≤ c ∧ b - y = c - z) ∧ L.take x = S.take x ∧ L.drop y = S.drop z ∧ (x < b → x < c → L.getD x 0 ≠ S.getD x 0)) (fun _ q _ _ _ _ => q.toNat) ?_
  unfold ze4
  refine ⟨⟨rfl, a, rfl, rfl, rfl, ⟨Nat.le_refl _, h1, h3⟩, ht⟩, ?_⟩
  rintro _ _ _ k0 k1 k2 ⟨x, rfl, rfl, rfl, ⟨q1, q2, q3⟩, hx⟩
  have at1 : ∀ {M : List Int} {i : Nat}, i < M.length → zaq (i32s M) (i : Int) 1 ∧ (i32s M).getD (i : Int).toNat [] = [.int .i32 (M.getD i 0)] := fun {M i} hi => by
    obtain ⟨g1, g2⟩ := zhp (l := M) (i := (i : Int)) (by omega) (by omega)
    refine ⟨g1, ?_⟩
    rw [g2, zjf hi]; simp
  have hw : IntKind.i64.wrap ((x : Int) + 1) = ((x + 1 : Nat) : Int) := by rw [zaa (by omega) (by omega)]; omega
  have ex : (x < b → x < c → L.getD x 0 ≠ S.getD x 0) → ∃ x' y z : Nat, (x : Int) = x' ∧ (b : Int) = y ∧ (c : Int) = z ∧ (a ≤ x' ∧ x' ≤ y ∧ y ≤ b ∧ x' ≤ z ∧ z ≤ c ∧ b - y = c - z) ∧ L.take x' = S.take x' ∧ L.drop y = S.drop z ∧ (x' < b → x' < c → L.getD x' 0 ≠ S.getD x' 0) := fun h =>
    ⟨x, b, c, rfl, rfl, rfl, ⟨q1, q2, Nat.le_refl _, q3, Nat.le_refl _, by omega⟩, hx, hd, h⟩
  refine iteD (fun hc => ?_) (fun hc => ⟨⟨rfl, ex fun h _ => ?_⟩, ?_⟩)
  · simp only [decide_eq_true_eq] at hc
    refine iteD (fun hc2 => ?_) (fun hc2 => ⟨⟨rfl, ex fun _ h => ?_⟩, ?_⟩)
    · simp only [decide_eq_true_eq] at hc2
      obtain ⟨g1, g2⟩ := at1 (M := L) (i := x) (by omega)
      obtain ⟨g3, g4⟩ := at1 (M := S) (i := x) (by omega)
      refine ⟨g1, L.getD x 0, by rw [g2]; rfl, g3, S.getD x 0, by rw [g4]; rfl, ?_⟩
      rw [hw]
      refine iteD (fun he => ?_) (fun he => ⟨⟨rfl, ex fun _ _ => ?_⟩, ?_⟩)
      · simp only [beq_iff_eq] at he
        refine ⟨rfl, ⟨x + 1, rfl, rfl, rfl, ⟨by omega, by omega, by omega⟩, ?_⟩, by dsimp only; omega⟩
        rw [zq1 (by omega), zq1 (by omega), hx, he]
      · simpa using he
      · rintro _ _ _ l0 l1 l2 ⟨w, y, z, rfl, rfl, rfl, ⟨p1, p2, p3, p4, p5, p6⟩, t1, t2, t3⟩
        refine iteD (fun c1 => ?_) (fun c1 => ?_)
        · simp only [gt_iff_lt, decide_eq_true_eq] at c1
          refine iteD (fun c2 => ?_) (fun c2 => ?_)
          · simp only [gt_iff_lt, decide_eq_true_eq] at c2
            have hwy : IntKind.i64.wrap ((y : Int) - 1) = ((y - 1 : Nat) : Int) := by rw [zaa (by omega) (by omega)]; omega
            have hwz : IntKind.i64.wrap ((z : Int) - 1) = ((z - 1 : Nat) : Int) := by rw [zaa (by omega) (by omega)]; omega
            rw [hwy, hwz]
            obtain ⟨g1, g2⟩ := at1 (M := L) (i := y - 1) (by omega)
            obtain ⟨g3, g4⟩ := at1 (M := S) (i := z - 1) (by omega)
            refine ⟨g1, L.getD (y - 1) 0, by rw [g2]; rfl, g3, S.getD (z - 1) 0, by rw [g4]; rfl, ?_⟩
            refine iteD (fun he => ?_) (fun he => ?_)
            · simp only [beq_iff_eq] at he
              refine ⟨rfl, ⟨w, y - 1, z - 1, rfl, rfl, rfl, ⟨p1, by omega, by omega, by omega, by omega, by omega⟩, t1, ?_, t3⟩, by dsimp only; omega⟩
              rw [Rows.drop_cons (show y - 1 < L.length by omega), Rows.drop_cons (show z - 1 < S.length by omega), he, show y - 1 + 1 = y by omega, show z - 1 + 1 = z by omega, t2]
            · exact ⟨w, y, z, rfl, p1, p2, p3, p4, p5, p6, t1, t2, fun h h' => ⟨t3 (by omega) (by omega), by simpa using he⟩⟩
          · simp only [gt_iff_lt, decide_eq_true_eq] at c2
            exact ⟨w, y, z, rfl, p1, p2, p3, p4, p5, p6, t1, t2, fun h h' => by omega⟩
        · simp only [gt_iff_lt, decide_eq_true_eq] at c1
          exact ⟨w, y, z, rfl, p1, p2, p3, p4, p5, p6, t1, t2, fun h h' => by omega⟩
    · simp only [decide_eq_true_eq] at hc2; omega
    · rintro _ _ _ l0 l1 l2 ⟨w, y, z, rfl, rfl, rfl, ⟨p1, p2, p3, p4, p5, p6⟩, t1, t2, t3⟩
      refine iteD (fun c1 => ?_) (fun c1 => ?_)
      · simp only [gt_iff_lt, decide_eq_true_eq] at c1
        refine iteD (fun c2 => ?_) (fun c2 => ?_)
        · simp only [gt_iff_lt, decide_eq_true_eq] at c2
          have hwy : IntKind.i64.wrap ((y : Int) - 1) = ((y - 1 : Nat) : Int) := by rw [zaa (by omega) (by omega)]; omega
          have hwz : IntKind.i64.wrap ((z : Int) - 1) = ((z - 1 : Nat) : Int) := by rw [zaa (by omega) (by omega)]; omega
          rw [hwy, hwz]
          obtain ⟨g1, g2⟩ := at1 (M := L) (i := y - 1) (by omega)
          obtain ⟨g3, g4⟩ := at1 (M := S) (i := z - 1) (by omega)
          refine ⟨g1, L.getD (y - 1) 0, by rw [g2]; rfl, g3, S.getD (z - 1) 0, by rw [g4]; rfl, ?_⟩
          refine iteD (fun he => ?_) (fun he => ?_)
          · simp only [beq_iff_eq] at he
            refine ⟨rfl, ⟨w, y - 1, z - 1, rfl, rfl, rfl, ⟨p1, by omega, by omega, by omega, by omega, by omega⟩, t1, ?_, t3⟩, by dsimp only; omega⟩
            rw [Rows.drop_cons (show y - 1 < L.length by omega), Rows.drop_cons (show z - 1 < S.length by omega), he, show y - 1 + 1 = y by omega, show z - 1 + 1 = z by omega, t2]
          · exact ⟨w, y, z, rfl, p1, p2, p3, p4, p5, p6, t1, t2, fun h h' => ⟨t3 (by omega) (by omega), by simpa using he⟩⟩
        · simp only [gt_iff_lt, decide_eq_true_eq] at c2
          exact ⟨w, y, z, rfl, p1, p2, p3, p4, p5, p6, t1, t2, fun h h' => by omega⟩
      · simp only [gt_iff_lt, decide_eq_true_eq] at c1
        exact ⟨w, y, z, rfl, p1, p2, p3, p4, p5, p6, t1, t2, fun h h' => by omega⟩
  · simp only [decide_eq_true_eq] at hc; omega
  · rintro _ _ _ l0 l1 l2 ⟨w, y, z, rfl, rfl, rfl, ⟨p1, p2, p3, p4, p5, p6⟩, t1, t2, t3⟩
    refine iteD (fun c1 => ?_) (fun c1 => ?_)
    · simp only [gt_iff_lt, decide_eq_true_eq] at c1
      refine iteD (fun c2 => ?_) (fun c2 => ?_)
      · simp only [gt_iff_lt, decide_eq_true_eq] at c2
        have hwy : IntKind.i64.wrap ((y : Int) - 1) = ((y - 1 : Nat) : Int) := by rw [zaa (by omega) (by omega)]; omega
        have hwz : IntKind.i64.wrap ((z : Int) - 1) = ((z - 1 : Nat) : Int) := by rw [zaa (by omega) (by omega)]; omega
        rw [hwy, hwz]
        obtain ⟨g1, g2⟩ := at1 (M := L) (i := y - 1) (by omega)
        obtain ⟨g3, g4⟩ := at1 (M := S) (i := z - 1) (by omega)
        refine ⟨g1, L.getD (y - 1) 0, by rw [g2]; rfl, g3, S.getD (z - 1) 0, by rw [g4]; rfl, ?_⟩
        refine iteD (fun he => ?_) (fun he => ?_)
        · simp only [beq_iff_eq] at he
          refine ⟨rfl, ⟨w, y - 1, z - 1, rfl, rfl, rfl, ⟨p1, by omega, by omega, by omega, by omega, by omega⟩, t1, ?_, t3⟩, by dsimp only; omega⟩
          rw [Rows.drop_cons (show y - 1 < L.length by omega), Rows.drop_cons (show z - 1 < S.length by omega), he, show y - 1 + 1 = y by omega, show z - 1 + 1 = z by omega, t2]
        · exact ⟨w, y, z, rfl, p1, p2, p3, p4, p5, p6, t1, t2, fun h h' => ⟨t3 (by omega) (by omega), by simpa using he⟩⟩
      · simp only [gt_iff_lt, decide_eq_true_eq] at c2
        exact ⟨w, y, z, rfl, p1, p2, p3, p4, p5, p6, t1, t2, fun h h' => by omega⟩
    · simp only [gt_iff_lt, decide_eq_true_eq] at c1
      exact ⟨w, y, z, rfl, p1, p2, p3, p4, p5, p6, t1, t2, fun h h' => by omega⟩
theorem l1' : zid tab [97, 101, 98] 2 2 [769] = [97, 233, 98] := by kernel_rfl
theorem l2' : zcv tab [97, 101, 98] 2 = 1 := by kernel_rfl
theorem l3' : onN tab [97, 101, 98] 2 1 = 2 := by kernel_rfl
theorem l4' : nfcL tab (midL tab [97, 101, 98] 2 2 [769]) = [233] := by kernel_rfl
theorem awake9 : PCall Try.prog 27 [] fun v => v = .bool true := by
  refine zhg ?_; unfold zck
  refine p42.mono ?_
  rintro _ ⟨n, f, rfl⟩
  refine ⟨_, _, _, rfl, ?_⟩
  refine (zzo n f).mono fun t ht => ?_
  have := zxe zmg zww zrz ht false true false true [97, 101, 98] [769] (fun x hx => by simp at hx; omega) (by simp) (fun x hx => by simp at hx; omega) (by simp) 2 2
  refine this.mono ?_
  intro x hx
  rw [if_pos (by simp)] at hx
  obtain ⟨n1, f1, rfl⟩ := hx
  refine ⟨_, rfl, rfl, _, rfl, _, _, _, rfl, _, rfl, _, rfl, rfl, _, rfl, _, rfl, _, rfl, _, rfl, _, rfl, ?_⟩
  rw [show (2 : Int).toNat = 2 from rfl, l1']
  refine (z1o _ _ _ _ [97, 233, 98] [97, 233, 98] (by simp)).mono ?_
  rintro _ rfl
  refine ⟨_, rfl, iteT (by simp) ?_⟩
  rw [show ([97, 101, 98] : List Int).length - 2 = 1 from rfl, l2', l3', l4']
  rfl
end Go.Eng



namespace Go.Eng
open Go Go.Proofs Go.Eng.Rows Go.Eng.Trie Go.Eng.Srt
theorem zq2 (rows : List Row) (L : List Int) {i j : Nat} (ins : List Int) (hij : i ≤ j) (hj : j ≤ L.length) :
    zcv rows L i ≤ i ∧ j ≤ onN rows L j (L.length - j) ∧ onN rows L j (L.length - j) ≤ L.length ∧ (zid rows L i j ins).length = zcv rows L i + (nfcL rows (midL rows L i j ins)).length + (L.length - onN rows L j (L.length - j)) ∧
    (zid rows L i j ins).take (zcv rows L i) = L.take (zcv rows L i) ∧ (zid rows L i j ins).drop (zcv rows L i + (nfcL rows (midL rows L i j ins)).length) = L.drop (onN rows L j (L.length - j)) := by
  obtain ⟨a1, a2, a3⟩ := zr2 rows L i
  obtain ⟨b1, b2, b3⟩ := z1p rows L (L.length - j) j
  unfold zid
  generalize nfcL rows (midL rows L i j ins) = m
  generalize zcv rows L i = a at *
  generalize onN rows L j (L.length - j) = b at *
  have hla : (L.take a).length = a := by rw [List.length_take]; omega
  refine ⟨a1, b1, by omega, ?_, ?_, ?_⟩
  · rw [List.length_append, List.length_append, hla, List.length_drop]; omega
  · rw [List.take_append_of_le_length (by omega), List.take_of_length_le (by omega)]
  · rw [List.drop_append, hla, List.drop_of_length_le (by omega), List.nil_append, show a + m.length - a = m.length by omega, List.drop_append, List.drop_of_length_le (Nat.le_refl _), Nat.sub_self]; rfl
end Go.Eng



namespace Go.Eng
open Go Go.Proofs Go.Eng.Rows Go.Eng.Trie Go.Eng.Srt
theorem zo9 (n f : Bool) (l : List Int) (hr : R32 l) (i j : Int) (n2 f2 : Bool) (ins : List Int) (hr2 : R32 ins) : PCall Try.prog 9 [.sl n f (i32s l), .int .i64 i, .int .i64 j, .sl n2 f2 (i32s ins)] fun v => v = .bool true := by
  refine zeq _ _ _ _ _ _ _ _ ?_; unfold zbj
  refine (pFew n f l 80 (by omega)).mono ?_
  rintro _ ⟨n1, f1, rfl⟩
  refine ⟨_, _, _, rfl, ?_⟩
  refine (pFew n2 f2 ins 40 (by omega)).mono ?_
  rintro _ ⟨n3, f3, rfl⟩
  refine ⟨_, _, _, rfl, ?_⟩
  refine p42.mono ?_
  rintro _ ⟨n4, f4, rfl⟩
  refine ⟨_, _, _, rfl, ?_⟩
  refine (zzo n4 f4).mono fun t ht => ?_
  have ll := zw5 l 80
  have li := zw5 ins 40
  have rl := hr.take 80
  have ri := hr2.take 40
  generalize l.take 80 = l at *
  generalize ins.take 40 = ins at *
  refine (zxe zmg zww zrz ht _ _ _ _ l ins rl (by omega) ri (by omega) i j).mono ?_
  intro x hx
  by_cases hv : (0 ≤ i ∧ i ≤ j) ∧ j ≤ (l.length : Int)
  · rw [if_pos hv] at hx
    obtain ⟨n5, f5, rfl⟩ := hx
    obtain ⟨s1, s2, s3, s4, s5, s6⟩ := zq2 tab l (i := i.toNat) (j := j.toNat) ins (by omega) (by omega)
    have hml := zxd tab l i.toNat j.toNat ins
    have hnl := zw4 zrz (midL tab l i.toNat j.toNat ins)
    refine ⟨_, rfl, rfl, _, rfl, _, _, _, rfl, _, rfl, _, rfl, rfl, _, rfl, _, rfl, _, rfl, _, rfl, _, rfl, iteF (by simp) ?_⟩
    generalize hS : zid tab l i.toNat j.toNat ins = S at *
    generalize hm : (nfcL tab (midL tab l i.toNat j.toNat ins)).length = m at *
    generalize zcv tab l i.toNat = a at *
    generalize onN tab l j.toNat (l.length - j.toNat) = b at *
    refine (z11 _ _ _ _ l S (by omega) (by omega) a b (a + m) (by omega) s3 (by omega) (by omega) s5.symm s6.symm).mono ?_
    rintro _ ⟨x, y, z, rfl, ⟨q1, q2, q3, q4, q5, q6, q7, q8, q9⟩⟩
    have w1 : IntKind.i64.wrap ((b : Int) - (y : Int)) = (b : Int) - y := zaa (by omega) (by omega)
    have w2 : IntKind.i64.wrap (((a + m : Nat) : Int) - (z : Int)) = (b : Int) - y := by rw [zaa (by omega) (by omega)]; omega
    refine ⟨_, rfl, rfl, _, rfl, _, rfl, _, rfl, ?_⟩
    rw [w1, w2]
    refine iteF (by simp only [gt_iff_lt, decide_eq_true_eq]; omega) (iteF (by simp only [gt_iff_lt, decide_eq_true_eq]; omega) (iteF (by simp only [gt_iff_lt, decide_eq_true_eq]; omega) (iteF (by simp only [gt_iff_lt, decide_eq_true_eq]; omega) (iteF (by simp only [gt_iff_lt, decide_eq_true_eq]; omega) (iteF (by simp) ⟨⟨z1y (by omega) (by rw [zaf]; omega), zcj _⟩, ⟨z1y (by omega) (by rw [zaf]; omega), zcj _⟩, ?_⟩)))))
    rw [zj7, zj7, Int.toNat_natCast, q7]
    refine (z1o _ _ _ _ _ _ (by rw [List.length_take]; omega)).mono ?_
    rintro _ rfl
    refine ⟨_, rfl, iteF (by simp) ⟨⟨z1z (by omega) (by rw [zaf]; omega), zcj _⟩, ⟨z1z (by omega) (by rw [zaf]; omega), zcj _⟩, ?_⟩⟩
    rw [ztn, ztn, Int.toNat_natCast, Int.toNat_natCast, q8]
    refine (z1o _ _ _ _ _ _ (by rw [List.length_drop]; omega)).mono ?_
    rintro _ rfl
    have at1 : ∀ {M : List Int} {k : Nat}, k < M.length → zaq (i32s M) (k : Int) 1 ∧ (i32s M).getD (k : Int).toNat [] = [.int .i32 (M.getD k 0)] := fun {M k} hk => by
      obtain ⟨g1, g2⟩ := zhp (l := M) (i := (k : Int)) (by omega) (by omega)
      refine ⟨g1, ?_⟩
      rw [g2, zjf hk]; simp
    refine ⟨_, rfl, iteF (by simp) (iteD (fun c1 => iteD (fun c2 => ?_) (fun c2 => ?_)) (fun c1 => ?_))⟩
    · simp only [decide_eq_true_eq] at c1 c2
      obtain ⟨d1, d2⟩ := q9 (by omega) (by omega)
      obtain ⟨g1, g2⟩ := at1 (M := l) (k := x) (by omega)
      obtain ⟨g3, g4⟩ := at1 (M := S) (k := x) (by omega)
      rw [Int.toNat_natCast] at g2 g4
      refine ⟨g1, l.getD x 0, by rw [g2]; rfl, g3, S.getD x 0, by rw [g4]; rfl, iteF (by simpa using d1) ?_⟩
      have hwy : IntKind.i64.wrap ((y : Int) - 1) = ((y - 1 : Nat) : Int) := by rw [zaa (by omega) (by omega)]; omega
      have hwz : IntKind.i64.wrap ((z : Int) - 1) = ((z - 1 : Nat) : Int) := by rw [zaa (by omega) (by omega)]; omega
      rw [hwy, hwz]
      obtain ⟨g5, g6⟩ := at1 (M := l) (k := y - 1) (by omega)
      obtain ⟨g7, g8⟩ := at1 (M := S) (k := z - 1) (by omega)
      refine ⟨g5, l.getD (y - 1) 0, by rw [g6]; rfl, g7, S.getD (z - 1) 0, by rw [g8]; rfl, iteF (by simpa using d2) ?_⟩
      refine awake9.mono ?_
      rintro _ rfl
      exact ⟨_, rfl, rfl⟩
    · refine awake9.mono ?_
      rintro _ rfl
      exact ⟨_, rfl, rfl⟩
    · refine awake9.mono ?_
      rintro _ rfl
      exact ⟨_, rfl, rfl⟩
  · rw [if_neg hv] at hx
    subst hx
    refine ⟨_, rfl, rfl, _, rfl, _, _, _, rfl, _, rfl, _, rfl, rfl, _, rfl, _, rfl, _, rfl, _, rfl, _, rfl, iteT rfl ?_⟩
    refine awake9.mono ?_
    rintro _ rfl
    exact ⟨_, rfl, rfl⟩
theorem lawLocalNarrows {pvs : List PV} (h : zix Try.prog 8 Try.f9.params.toList pvs) : PCall Try.prog 9 pvs fun v => v = .bool true := by
  obtain ⟨v0, r0, rfl, h0, v1, r1, rfl, h1, v2, r2, rfl, h2, v3, r3, rfl, h3, rfl⟩ : zix Try.prog 8 [22, 3, 3, 22] pvs := h
  obtain ⟨nl, l, rfl, hr⟩ := zqy h0
  obtain ⟨i, rfl⟩ := zqz h1
  obtain ⟨j, rfl⟩ := zqz h2
  obtain ⟨nl2, l2, rfl, hr2⟩ := zqy h3
  exact zo9 _ _ l hr i j _ _ l2 hr2
end Go.Eng


