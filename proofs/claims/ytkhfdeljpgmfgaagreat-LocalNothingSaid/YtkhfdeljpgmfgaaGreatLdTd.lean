/- Abstract states run over the code; what each function gives, printed by program and checked by the kernel; and what follows of it. -/
import Derived.Test.YtkhfdeljpgmfgaaGreatLdTc
open Go.IntKind (i64 i32)
set_option linter.unusedVariables false
set_option linter.unusedSimpArgs false
set_option maxRecDepth 100000
set_option linter.constructorNameAsVariable false
namespace Go.Eng
open Go Go.Proofs Go.Eng.Rows Go.Eng.Trie Go.Eng.Srt
theorem zss {r : Int} (hs : bD r = false) : ACall Tryz.prog 73 [.pv (.int .i32 r)] [] fun r1 h' => r1 = .pv (.sl true true []) ∧ h' = [] := by
 refine zdk _ ?_; unfold wS
 refine (pIs r).mono ?_
 rintro _ rfl
 refine ⟨_, rfl, ?_⟩
 rw [hs]
 exact bC rfl ⟨rfl, rfl⟩
theorem zst {a b : Int} (ha : -2147483648 ≤ a ∧ a ≤ 2147483647) (hb : -2147483648 ≤ b ∧ b ≤ 2147483647) : PCall Tryz.prog 103 [.int .i32 a, .int .i32 b] fun v => v = iU (dS a b) := by
 refine zsl _ _ ?_; unfold zh4
 have wa : i64.wrap a = a := aD (by omega) (by omega)
 have wb : i64.wrap b = b := aD (by omega) (by omega)
 rw [wa, wb]
 refine aF (fun hc => ?_) (fun hc => ?_)
 ·simp only [Bool.and_eq_true, decide_eq_true_eq, ge_iff_le] at hc
  have w1 : i64.wrap (a - 4352) = a - 4352 := aD (by omega) (by omega)
  have w2 : i64.wrap ((a - 4352) * 588) = (a - 4352) * 588 := aD (by omega) (by omega)
  have w3 : i64.wrap (44032 + (a - 4352) * 588) = 44032 + (a - 4352) * 588 := aD (by omega) (by omega)
  have w4 : i64.wrap (b - 4449) = b - 4449 := aD (by omega) (by omega)
  have w5 : i64.wrap ((b - 4449) * 28) = (b - 4449) * 28 := aD (by omega) (by omega)
  rw [w1, w2, w3, w4, w5]
  have w6 : i64.wrap (44032 + (a - 4352) * 588 + (b - 4449) * 28) = 44032 + (a - 4352) * 588 + (b - 4449) * 28 := aD (by omega) (by omega)
  rw [w6]
  have w7 : i32.wrap (44032 + (a - 4352) * 588 + (b - 4449) * 28) = 44032 + (a - 4352) * 588 + (b - 4449) * 28 := cN (by omega) (by omega)
  rw [w7]
  unfold dS
  rw [if_pos (by omega)]
  simp only [iU]
  rw [show 44032 + (a - 4352) * 588 + (b - 4449) * 28 = 44032 + ((a - 4352) * 21 + (b - 4449)) * 28 by omega]
 ·simp only [Bool.and_eq_true, decide_eq_true_eq, ge_iff_le] at hc
  have hn : ¬ ((4352 ≤ a ∧ a < 4371) ∧ 4449 ≤ b ∧ b < 4470) := by omega
  have fin : ∀ (l : List (List PV)), (((l.length : Int) = 2 ↔ (bD a = true ∧ (a - 44032) % 28 = 0))) → (if (((l.length : Int)) == 2 && decide (b ≥ 4520) && decide (b ≤ 4546)) = true then (PV.tup [.int .i32 (i32.wrap (a + i32.wrap (b - 4519))), .bool true] : PV) = iU (dS a b) else (PV.tup [.int .i32 0, .bool false] : PV) = iU (dS a b)) := fun l hl => by
   refine aF (fun h2 => ?_) (fun h2 => ?_)
   ·simp only [Bool.and_eq_true, decide_eq_true_eq, beq_iff_eq, ge_iff_le] at h2
    have hs := hl.1 h2.1.1
    have hr := hs.1
    simp only [bD, Bool.and_eq_true, decide_eq_true_eq] at hr
    have w1 : i32.wrap (b - 4519) = b - 4519 := cN (by omega) (by omega)
    have w2 : i32.wrap (a + (b - 4519)) = a + (b - 4519) := cN (by omega) (by omega)
    rw [w1, w2]
    unfold dS; rw [if_neg hn, if_pos ⟨hs, by omega, by omega⟩]; rfl
   ·simp only [Bool.and_eq_true, decide_eq_true_eq, beq_iff_eq, ge_iff_le] at h2
    unfold dS; rw [if_neg hn, if_neg (fun h => h2 ⟨⟨hl.2 h.1, by omega⟩, by omega⟩)]; rfl
  cases hs : bD a with
  | false =>
    refine (zss hs).mono ?_
    rintro _ _ ⟨rfl, rfl⟩
    exact .inr ⟨(true, []), ⟨rfl, rfl⟩, trivial, fin [] (by rw [hs]; simp)⟩
  | true =>
    have hl : ((aA (dJ a)).length : Int) = 2 ↔ (bD a = true ∧ (a - 44032) % 28 = 0) := by
     rw [bL, hs]
     unfold dJ
     split <;> simp [*]
    refine (yZ hs).mono ?_
    rintro r1 h' (⟨nl, rfl, rfl⟩ | ⟨rfl, rfl⟩)
    ·exact .inl ⟨(nl, _), ⟨rfl, rfl⟩, trivial, fin _ hl⟩
    ·exact .inr ⟨(false, _), ⟨rfl, rfl⟩, trivial, fin _ hl⟩
section
variable {rows : List Row}
def nP (o : Option Int) : Int := o.getD 0
theorem zsu (hp : bW rows) (h1 : cS rows) (n f : Bool) {a b : Int} (hl : rows.length < 1000000) (ha : -2147483648 ≤ a ∧ a ≤ 2147483647) (hb : -2147483648 ≤ b ∧ b ≤ 2147483647) :
 PCall Tryz.prog 104 [.sl n f (bB rows), .int .i32 a, .int .i32 b] fun v => v = iU (kT rows a b) := by
 refine zsm _ _ _ _ _ (fun x8 x9 i => (0 ≤ i ∧ i ≤ rows.length) ∧ x8 = nP ((rows.take i.toNat).foldl (Rows.cmpS rows a b) none) ∧ x9 = ((rows.take i.toNat).foldl (Rows.cmpS rows a b) none).isSome) (fun _ _ i => rows.length - i.toNat) ?_
 unfold zh5
 refine ⟨⟨rfl, ⟨Int.le_refl _, by omega⟩, rfl, rfl⟩, ?_⟩
 rintro x8 x9 i ⟨⟨i0, i1⟩, h8, h9⟩
 have wa : i64.wrap a = a := aD (by omega) (by omega)
 have wb : i64.wrap b = b := aD (by omega) (by omega)
 rw [wa, wb]
 refine aF (fun hc => ?_) (fun hc => ?_)
 ·simp only [decide_eq_true_eq, gL] at hc
  have hi : i.toNat < rows.length := by omega
  have hw : i64.wrap (i + 1) = i + 1 := aD (by omega) (by omega)
  have hg : (bB rows).getD i.toNat [] = lV rows[i.toNat] := cH hi
  have hix : aJ (bB rows) i 5 := bO nF i0 (by omega)
  have hmem := List.getElem_mem hi
  have hst : (rows.take (i + 1).toNat).foldl (Rows.cmpS rows a b) none = Rows.cmpS rows a b ((rows.take i.toNat).foldl (Rows.cmpS rows a b) none) rows[i.toNat] := by
   rw [show (i + 1).toNat = i.toNat + 1 by omega, cY hi, List.foldl_append]; rfl
  rw [hw]
  generalize (rows.take i.toNat).foldl (Rows.cmpS rows a b) none = o at *
  generalize rows[i.toNat] = x at *
  have skip : dL rows a b x = false → (0 ≤ i + 1 ∧ i + 1 ≤ rows.length) ∧ x8 = nP ((rows.take (i + 1).toNat).foldl (Rows.cmpS rows a b) none) ∧ x9 = ((rows.take (i + 1).toNat).foldl (Rows.cmpS rows a b) none).isSome := fun h => by
   rw [hst]; unfold Rows.cmpS; rw [h]; exact ⟨⟨by omega, by omega⟩, h8, h9⟩
  have hmu : rows.length - (i + 1).toNat < rows.length - i.toNat := by omega
  refine ⟨hix, x.kind, by rw [hg]; rfl, aF (fun c1 => ?_) (fun c1 => ?_)⟩
  ·simp only [bne_iff_ne, ne_eq] at c1
   exact ⟨rfl, skip (by simp [dL, c1]), hmu⟩
  simp only [bne_iff_ne, ne_eq, Decidable.not_not] at c1
  refine ⟨hix, x.a, by rw [hg]; rfl, aF (fun c2 => ?_) (fun c2 => ?_)⟩
  ·simp only [bne_iff_ne, ne_eq] at c2
   exact ⟨rfl, skip (by simp [dL, c2]), hmu⟩
  simp only [bne_iff_ne, ne_eq, Decidable.not_not] at c2
  refine ⟨hix, x.b, by rw [hg]; rfl, aF (fun c3 => ?_) (fun c3 => ?_)⟩
  ·simp only [Bool.or_eq_true, bne_iff_ne, ne_eq, beq_iff_eq] at c3
   refine ⟨rfl, skip ?_, hmu⟩
   rcases c3 with c3 | c3
   ·simp [dL, c3]
   ·simp [dL, c3]
  simp only [Bool.or_eq_true, bne_iff_ne, ne_eq, beq_iff_eq, not_or, Decidable.not_not] at c3
  obtain ⟨hpx, hfr⟩ := t8 h1 hmem c1
  have wf : i32.wrap x.fr = x.fr := cN (by omega) (by omega)
  refine ⟨hix, x.fr, by rw [hg]; rfl, ?_⟩
  rw [wf]
  refine (tM hp n f x.fr hl (by omega)).mono ?_
  rintro _ rfl
  rw [hpx, c2, c3.1]
  refine ⟨_, rfl, rfl, _, rfl, _, rfl, _, rfl, _, rfl, _, rfl, _, rfl, bC (by simp [c3.2]) ?_⟩
  refine (zru hp n f x.fr hl (by omega)).mono ?_
  rintro _ rfl
  refine ⟨_, rfl, ?_⟩
  cases ho : dG rows x.fr with
  | true => exact bF (by simp) ⟨rfl, skip (by simp [dL, ho]), hmu⟩
  | false =>
    have hcb : dL rows a b x = true := by simp [dL, c1, c2, c3.1, c3.2, ho]
    cases o with
    | none =>
      simp only [Option.isSome] at h9
      refine bC (by rw [h9]; rfl) ⟨rfl, ⟨⟨by omega, by omega⟩, ?_, ?_⟩, hmu⟩
      ·rw [hst]; simp [Rows.cmpS, hcb, nP]
      ·rw [hst]; simp [Rows.cmpS, hcb]
    | some r =>
      simp only [Option.isSome] at h9
      simp only [nP, Option.getD] at h8
      refine aF (fun c4 => ?_) (fun c4 => ?_)
      ·rw [h9, h8] at c4
       simp at c4
       refine ⟨rfl, ⟨⟨by omega, by omega⟩, ?_, ?_⟩, hmu⟩
       ·rw [hst]; simp [Rows.cmpS, hcb, nP, c4]
       ·rw [hst]; simp [Rows.cmpS, hcb, c4]
      ·rw [h9, h8] at c4
       simp at c4
       refine ⟨rfl, ⟨⟨by omega, by omega⟩, ?_, ?_⟩, hmu⟩
       ·have hlt : ¬ x.fr < r := by omega
        rw [hst, h8]; simp [Rows.cmpS, hcb, nP, hlt]
       ·rw [hst, h9]; simp [Rows.cmpS, hcb]; split <;> rfl
 ·simp only [decide_eq_true_eq, gL] at hc
  rw [List.take_of_length_le (by omega)] at h8 h9
  unfold kT
  rw [h8, h9]
  cases rows.foldl (Rows.cmpS rows a b) none <;> rfl
theorem zsv (hp : bW rows) (h1 : cS rows) (n f : Bool) {a b : Int} (hl : rows.length < 1000000) (ha : -2147483648 ≤ a ∧ a ≤ 2147483647) (hb : -2147483648 ≤ b ∧ b ≤ 2147483647) :
 PCall Tryz.prog 78 [.sl n f (bB rows), .int .i32 a, .int .i32 b] fun v => v = iU (d9 rows a b) := by
 refine zsn _ _ _ _ _ ?_; unfold zh6
 refine (zst ha hb).mono ?_
 rintro _ rfl
 unfold d9
 cases dS a b with
 | some r => exact ⟨_, rfl, rfl, _, rfl, _, rfl, _, rfl, _, rfl, bC rfl rfl⟩
 | none =>
   refine ⟨_, rfl, rfl, _, rfl, _, rfl, _, rfl, _, rfl, bF (by simp) ?_⟩
   refine (zsu hp h1 n f hl ha hb).mono ?_
   rintro _ rfl
   cases kT rows a b with
   | none => exact ⟨_, rfl, rfl, _, rfl, _, rfl, _, rfl, _, rfl, rfl⟩
   | some r => exact ⟨_, rfl, rfl, _, rfl, _, rfl, _, rfl, _, rfl, rfl⟩
theorem zsw {st : CSt} (h0 : st.s = none → st.P = []) (h1 : ∀ a, st.s = some a → aC rows 1 a = 0) (h2 : ∀ m ∈ st.M, aC rows 1 m ≠ 0) :
 (cO st = -1 ∧ ∀ k (h : k < st.out.length), aC rows 1 st.out[k] ≠ 0) ∨ (∃ k : Nat, cO st = (k : Int) ∧ ∃ h : k < st.out.length, aC rows 1 st.out[k] = 0 ∧ ∀ j (hj : j < st.out.length), k < j → aC rows 1 st.out[j] ≠ 0) := by
 cases hs : st.s with
 | none =>
   have hP := h0 hs
   have ho : st.out = st.M := by simp [CSt.out, hs, hP]
   refine .inl ⟨by simp [cO, hs], fun k hk => h2 _ ?_⟩
   have := List.getElem_mem hk
   rw [← ho]; exact this
 | some a =>
   have ho : st.out = st.P ++ a :: st.M := by simp [CSt.out, hs]
   refine .inr ⟨st.P.length, by simp [cO, hs], by rw [ho]; simp, ?_, fun j hj hlt => h2 _ ?_⟩
   ·simp only [ho, List.getElem_append_right (Nat.le_refl _), Nat.sub_self, List.getElem_cons_zero]; exact h1 a hs
   ·simp only [ho]
    rw [List.getElem_append_right (by omega), List.getElem_cons]
    rw [dif_neg (by omega)]
    exact List.getElem_mem _
theorem zsx (n f n2 f2 : Bool) (hl : rows.length < 1000000) (L : List Int) (hr : R32 L) (hL : L.length < 1000000000000) :
 PCall Tryz.prog 76 [.sl n f (bB rows), .sl n2 f2 (aA L)] fun v => ∃ x : Int, v = .int .i64 x ∧ ((x = -1 ∧ ∀ k (h : k < L.length), aC rows 1 L[k] ≠ 0) ∨ (∃ k : Nat, x = (k : Int) ∧ ∃ h : k < L.length, aC rows 1 L[k] = 0 ∧ ∀ j (hj : j < L.length), k < j → aC rows 1 L[j] ≠ 0)) := by
 refine zso _ _ _ _ _ _ (fun x => (-1 ≤ x ∧ x < L.length) ∧ ∀ j (hj : j < L.length), x < j → aC rows 1 L[j] ≠ 0) (fun x => (x + 1).toNat) ?_
 unfold zh7
 have hw : i64.wrap ((aA L).length - 1) = L.length - 1 := by rw [bL]; exact aD (by omega) (by omega)
 rw [hw]
 refine ⟨⟨rfl, ⟨by omega, by omega⟩, fun j hj h => by omega⟩, ?_⟩
 rintro x ⟨⟨x0, x1⟩, hx⟩
 refine aF (fun hc => ?_) (fun hc => ?_)
 ·simp only [decide_eq_true_eq, ge_iff_le] at hc
  have hi : x.toNat < L.length := by omega
  obtain ⟨g1, g2⟩ := e8 hc hi
  have hw1 : i64.wrap (x - 1) = x - 1 := aD (by omega) (by omega)
  refine ⟨g1, L[x.toNat], by rw [g2]; rfl, ?_⟩
  refine (tL n f _ hl (hr _ (List.getElem_mem hi))).mono ?_
  rintro _ rfl
  refine ⟨_, rfl, ?_⟩
  rw [hw1]
  refine aF (fun h0 => ?_) (fun h0 => ?_)
  ·simp only [beq_iff_eq] at h0
   exact ⟨x, rfl, .inr ⟨x.toNat, by omega, hi, h0, fun j hj hlt => hx j hj (by omega)⟩⟩
  ·simp only [beq_iff_eq] at h0
   refine ⟨rfl, ⟨⟨by omega, by omega⟩, fun j hj hlt => ?_⟩, by dsimp only; omega⟩
   by_cases he : j = x.toNat
   ·subst he; exact h0
   ·exact hx j hj (by omega)
 ·simp only [decide_eq_true_eq, ge_iff_le] at hc
  exact ⟨-1, rfl, .inl ⟨rfl, fun k hk => hx k hk (by omega)⟩⟩
theorem zsy (n f n2 f2 : Bool) (hl : rows.length < 1000000) (L : List Int) (hr : R32 L) (hL : L.length < 1000000000000) (h0 : 0 < L.length) (k : Int) {r : Int} (hx : -2147483648 ≤ r ∧ r ≤ 2147483647) :
 PCall Tryz.prog 77 [.sl n f (bB rows), .sl n2 f2 (aA L), .int .i64 k, .int .i32 r] fun v => v = .bool (decide (k = L.length - 1) || decide (c5 (aC rows 1) L < aC rows 1 r)) := by
 refine zsp _ _ _ _ _ _ _ _ ?_; unfold zh8
 have hw : i64.wrap ((aA L).length - 1) = L.length - 1 := by rw [bL]; exact aD (by omega) (by omega)
 rw [hw]
 refine aF (fun hc => ?_) (fun hc => ?_)
 ·simp only [beq_iff_eq] at hc; simp [hc]
 ·simp only [beq_iff_eq] at hc
  have hi : ((L.length : Int) - 1).toNat < L.length := by omega
  obtain ⟨g1, g2⟩ := e8 (l := L) (i := (L.length : Int) - 1) (by omega) hi
  refine ⟨g1, L[((L.length : Int) - 1).toNat], by rw [g2]; rfl, ?_⟩
  refine (tL n f _ hl (hr _ (List.getElem_mem hi))).mono ?_
  rintro _ rfl
  refine ⟨_, rfl, ?_⟩
  refine (tL n f _ hl hx).mono ?_
  rintro _ rfl
  refine ⟨_, rfl, ?_⟩
  have : c5 (aC rows 1) L = aC rows 1 L[((L.length : Int) - 1).toNat] := by
   unfold c5
   rw [List.getLast?_eq_getElem?, List.getElem?_eq_getElem (by omega)]
   simp only
   congr 2
   omega
  rw [this]; simp [hc]
theorem zsz (hp : bW rows) (h1 : cS rows) (hs0 : ∀ (d : List Int) a, (bA rows d).s = some a → aC rows 1 a = 0) (n f n2 f2 : Bool) (hl : rows.length < 1000000) (L : List Int) (hr : R32 L) (hL : L.length < 1000000000000) :
 PCall Tryz.prog 44 [.sl n f (bB rows), .sl n2 f2 (aA L)] fun x => ∃ n f, x = .sl n f (aA (eA rows L)) := by
 refine zsq _ _ _ _ _ _ (fun i _ s => (0 ≤ i ∧ i ≤ L.length) ∧ s = aA (bA rows (L.take i.toNat)).out) (fun i _ _ => L.length - i.toNat) ?_
 unfold zh9
 refine ⟨⟨rfl, ⟨Int.le_refl _, by omega⟩, rfl⟩, ?_⟩
 rintro i n0 _ ⟨⟨i0, i1⟩, rfl⟩
 refine aF (fun hc => ?_) (fun hc => ?_)
 ·simp only [decide_eq_true_eq, bL] at hc
  have hi : i.toNat < L.length := by omega
  obtain ⟨g1, g2⟩ := e8 i0 hi
  have hx := hr _ (List.getElem_mem hi)
  have hw : i64.wrap (i + 1) = i + 1 := aD (by omega) (by omega)
  rw [hw]
  have hlen := zS rows (L.take i.toNat)
  have hrng := zT h1 (L.take i.toNat)
  have hnz := zhg (rows := rows) (d := L.take i.toNat)
  have hnP := qE (rows := rows) (d := L.take i.toNat)
  have hsk := hs0 (L.take i.toNat)
  rw [List.length_take] at hlen
  unfold eA at hlen hrng
  have next : ∀ st2, bR rows (bA rows (L.take i.toNat)) L[i.toNat] = st2 → (0 ≤ i + 1 ∧ i + 1 ≤ L.length) ∧ aA st2.out = aA (bA rows (L.take (i + 1).toNat)).out := fun st2 he => by
   rw [show (i + 1).toNat = i.toNat + 1 by omega, cY hi, fF, he]; exact ⟨⟨by omega, by omega⟩, rfl⟩
  generalize bA rows (L.take i.toNat) = st at *
  have hmu : L.length - (i + 1).toNat < L.length - i.toNat := by omega
  have hr2 : R32 st.out := fun y hy => by
   rcases hrng y hy with h | h
   ·exact hr y (List.mem_of_mem_take h)
   ·omega
  have hsz : aP [[PV.int .i32 L[i.toNat]]] 1 ∧ ((aA st.out).length + 1) * 4 ≤ 140737488355328 := ⟨dH [_], by rw [bL]; omega⟩
  have app : bR rows st L[i.toNat] = bZ (aC rows 1) st L[i.toNat] → (0 ≤ i + 1 ∧ i + 1 ≤ L.length) ∧ aA st.out ++ [[PV.int .i32 L[i.toNat]]] = aA (bA rows (L.take (i + 1).toNat)).out := fun he => by
   obtain ⟨k1, k2⟩ := next _ he
   rw [kU, gT] at k2
   exact ⟨k1, k2⟩
  refine (zsx n f n0 false hl st.out hr2 (by omega)).mono ?_
  rintro _ ⟨x, rfl, hst⟩
  have hxs : x = cO st := by
   rcases zsw hnP hsk hnz with ⟨e, h⟩ | ⟨k, e, hk, h, h'⟩
   ·rcases hst with ⟨e2, _⟩ | ⟨k2, e2, hk2, q, _⟩
    ·omega
    ·exact absurd q (h k2 hk2)
   ·rcases hst with ⟨e2, q⟩ | ⟨k2, e2, hk2, q, q'⟩
    ·exact absurd h (q k hk)
    ·rcases Nat.lt_trichotomy k k2 with hlt | rfl | hlt
     ·exact absurd q (h' k2 hk2 hlt)
     ·omega
     ·exact absurd h (q' k hk hlt)
  clear hst
  subst hxs
  refine ⟨_, rfl, rfl, aF (fun hf => ?_) (fun hf => ?_)⟩
  ·simp only [decide_eq_true_eq, ge_iff_le] at hf
   cases hs : st.s with
   | none => simp [cO, hs] at hf
   | some a =>
     have hsi : cO st = st.P.length := by simp [cO, hs]
     have hol : st.out.length = st.P.length + 1 + st.M.length := by simp [CSt.out, hs]; omega
     refine ⟨g1, L[i.toNat], by rw [g2]; rfl, ?_⟩
     refine (zsy n f n0 false hl st.out hr2 (by omega) (by omega) (cO st) hx).mono ?_
     rintro _ rfl
     have hfree : (decide (cO st = st.out.length - 1) || decide (c5 (aC rows 1) st.out < aC rows 1 L[i.toNat])) = true ↔ (st.M = [] ∨ c5 (aC rows 1) st.M < aC rows 1 L[i.toNat]) := by
      simp only [Bool.or_eq_true, decide_eq_true_eq]
      by_cases hM : st.M = []
      ·refine ⟨fun _ => .inl hM, fun _ => .inl ?_⟩
       rw [hsi, hol, hM]; simp
      ·obtain ⟨D, m, hDm⟩ := (List.eq_nil_or_concat _).resolve_left hM
       have e : c5 (aC rows 1) st.out = c5 (aC rows 1) st.M := by
        have e2 : st.out = (st.P ++ a :: D) ++ [m] := by simp [CSt.out, hDm, hs]
        rw [e2, hDm, List.concat_eq_append, qD, qD]
       rw [e]
       refine or_congr ⟨fun h => ?_, fun h => absurd h hM⟩ Iff.rfl
       rw [hsi, hol] at h
       exact List.eq_nil_of_length_eq_zero (by omega)
     refine ⟨_, rfl, rfl, aF (fun hfr => ?_) (fun hfr => ?_)⟩
     ·have hfr := hfree.1 hfr
      have hat : st.out[st.P.length]'(by omega) = a := by simp [CSt.out, hs]
      obtain ⟨k1, k2⟩ := e8 (l := st.out) (i := cO st) (by omega) (by omega)
      have hta : (cO st).toNat = st.P.length := by omega
      have k3 : (aA st.out).getD (cO st).toNat [] = [PV.int .i32 a] := by
       rw [k2]; simp only [hta, hat]
      have ha : -2147483648 ≤ a ∧ a ≤ 2147483647 := hr2 a (by simp [CSt.out, hs])
      refine ⟨k1, a, by rw [k3]; rfl, g1, L[i.toNat], by rw [g2]; rfl, ?_⟩
      refine (zsv hp h1 n f hl ha hx).mono ?_
      rintro _ rfl
      cases hpc : d9 rows a L[i.toNat] with
      | some c =>
        refine ⟨_, rfl, rfl, _, rfl, _, rfl, _, rfl, _, rfl, bC rfl ⟨k1, ⟨rfl, by rw [k3]; exact Nat.le_refl _⟩, rfl, ?_, by dsimp only; omega⟩⟩
        rw [k3, hta]
        have he : bR rows st L[i.toNat] = ⟨st.P, some c, st.M⟩ := by
         unfold bR; rw [hs]; simp only; rw [if_pos hfr, hpc]
        have e2 : (aA st.out).set st.P.length [PV.int .i32 c] = aA (CSt.out ⟨st.P, some c, st.M⟩) := by
         simp [CSt.out, hs, aA]
        obtain ⟨q1, q2⟩ := next _ he
        exact ⟨q1, e2.trans q2⟩
      | none =>
        have he : bR rows st L[i.toNat] = bZ (aC rows 1) st L[i.toNat] := by
         unfold bR; rw [hs]; simp only; rw [if_pos hfr, hpc]
        exact ⟨_, rfl, rfl, _, rfl, _, rfl, _, rfl, _, rfl, bF (by simp) ⟨g1, L[i.toNat], by rw [g2]; rfl, hsz, rfl, app he, by dsimp only; omega⟩⟩
     ·have hfr := fun h => hfr (hfree.2 h)
      have he : bR rows st L[i.toNat] = bZ (aC rows 1) st L[i.toNat] := by
       unfold bR; rw [hs]; simp only; rw [if_neg hfr]
      exact ⟨g1, L[i.toNat], by rw [g2]; rfl, hsz, rfl, app he, by dsimp only; omega⟩
  ·simp only [decide_eq_true_eq, ge_iff_le] at hf
   have hs : st.s = none := by
    cases hs : st.s with
    | none => rfl
    | some a => exact absurd (by simp [cO, hs]) hf
   have he : bR rows st L[i.toNat] = bZ (aC rows 1) st L[i.toNat] := by
    unfold bR; rw [hs]
   exact ⟨g1, L[i.toNat], by rw [g2]; rfl, hsz, rfl, app he, by dsimp only; omega⟩
 ·simp only [decide_eq_true_eq, bL] at hc
  rw [List.take_of_length_le (by omega)]
  exact ⟨_, _, rfl⟩
theorem zs0 (hp : bW rows) (h1 : cS rows) (hk : e9 rows) (hs0 : ∀ (d : List Int) a, (bA rows d).s = some a → aC rows 1 a = 0) (n f n2 f2 : Bool) (hl : rows.length < 1000000) (L : List Int) (hr : R32 L) (hL : L.length < 1000000) :
 PCall Tryz.prog 13 [.sl n f (bB rows), .sl n2 f2 (aA L)] fun x => ∃ n f, x = .sl n f (aA (bT rows L)) := by
 refine zsr _ _ _ _ _ _ ?_; unfold zia
 refine (zqv hp hk n f n2 f2 hl L hr hL).mono ?_
 rintro _ ⟨n1, f1, rfl⟩
 refine ⟨_, _, _, rfl, ?_⟩
 refine (zsz hp h1 hs0 n f n1 f1 hl _ (zM hk hp hr) (zg6 hk hL)).mono ?_
 rintro _ ⟨n3, f3, rfl⟩
 exact ⟨_, _, _, rfl, _, _, rfl⟩
end
end Go.Eng



namespace Go.Eng.Rows
open Go Go.Eng Go.Eng.Trie Go.Eng.Srt
def zs1 (rows : List Row) (a b : Int) : Bool := rows.all fun x => !decide (x.kind = 1) || (decide (x.to < a) || decide (b < x.fr))
theorem zs2 {rows : List Row} {a b r : Int} (h : zs1 rows a b = true) (h1 : a ≤ r) (h2 : r ≤ b) : aC rows 1 r = 0 := by
 unfold aC
 cases hf : bI rows 1 r with
 | none => rfl
 | some p =>
   obtain ⟨x, hx, hk, _, _, f1, f2, _⟩ := jM hf
   have := List.all_eq_true.1 h x hx
   simp only [hk, decide_true, Bool.not_true, Bool.false_or, Bool.or_eq_true, decide_eq_true_eq] at this
   omega
end Go.Eng.Rows



namespace Go.Eng
open Go Go.Proofs Go.Eng.Rows Go.Eng.Trie
theorem zs3 : ∀ r, bD r = true → aC tab 1 r = 0 := fun r hs => by
 simp only [bD, Bool.and_eq_true, decide_eq_true_eq] at hs
 exact zs2 (a := 44032) (b := 55203) (by kernel_rfl) hs.1 hs.2
theorem zs4 : ∀ (d : List Int) a, (bA tab d).s = some a → aC tab 1 a = 0 := zsk nL zs3
end Go.Eng



namespace Go.Eng
open Go Go.Proofs Go.Eng.Rows Go.Eng.Trie Go.Eng.Srt
end Go.Eng



namespace Go.Eng
open Go Go.Proofs Go.Eng.Rows Go.Eng.Trie Go.Eng.Srt
theorem zs5 (rows : List Row) (L : List Int) {i j : Nat} (ins : List Int) (hij : i ≤ j) (hj : j ≤ L.length) :
 cD rows L i ≤ i ∧ j ≤ cJ rows L j (L.length - j) ∧ cJ rows L j (L.length - j) ≤ L.length ∧ (kV rows L i j ins).length = cD rows L i + (bT rows (dT rows L i j ins)).length + (L.length - cJ rows L j (L.length - j)) ∧
 (kV rows L i j ins).take (cD rows L i) = L.take (cD rows L i) ∧ (kV rows L i j ins).drop (cD rows L i + (bT rows (dT rows L i j ins)).length) = L.drop (cJ rows L j (L.length - j)) := by
 obtain ⟨a1, a2, a3⟩ := uB rows L i
 obtain ⟨b1, b2, b3⟩ := uC rows L (L.length - j) j
 unfold kV
 generalize bT rows (dT rows L i j ins) = m
 generalize cD rows L i = a at *
 generalize cJ rows L j (L.length - j) = b at *
 have hla : (L.take a).length = a := by rw [List.length_take]; omega
 refine ⟨a1, b1, by omega, ?_, ?_, ?_⟩
 ·rw [List.length_append, List.length_append, hla, List.length_drop]; omega
 ·rw [List.take_append_of_le_length (by omega), List.take_of_length_le (by omega)]
 ·rw [List.drop_append, hla, List.drop_of_length_le (by omega), List.nil_append, show a + m.length - a = m.length by omega, List.drop_append, List.drop_of_length_le (Nat.le_refl _), Nat.sub_self]; rfl
end Go.Eng



namespace Go.Eng
open Go Go.Proofs Go.Eng.Rows Go.Eng.Trie Go.Eng.Srt
theorem zs6 (l : List Int) (h : l.length ≤ 80) : (bT tab l).length ≤ 61440 := by have := zhh nM l; omega
theorem zs7 (n f : Bool) (l : List Int) (hr : R32 l) (i : Int) : PCall Tryz.prog 7 [.sl n f (aA l), .int .i64 i] fun v => v = .bool true := by
 refine zr6 _ _ _ _ ?_; unfold zhz
 refine (zqo n f l 80 (by omega)).mono ?_
 rintro _ ⟨n1, f1, rfl⟩
 refine ⟨_, _, _, rfl, ?_⟩
 refine p42.mono ?_
 rintro _ ⟨n4, f4, rfl⟩
 refine ⟨_, _, _, rfl, ?_⟩
 have ll := zrk l 80
 have rl := hr.take 80
 generalize l.take 80 = l at *
 refine (zs0 qC nL nM zs4 _ _ _ _ zg2 l rl (by omega)).mono ?_
 rintro _ ⟨n5, f5, rfl⟩
 refine ⟨_, _, _, rfl, aF (fun hc => ?_) (fun hc => ?_)⟩
 ·refine awake9.mono ?_
  rintro _ rfl
  exact ⟨_, rfl, rfl⟩
 simp only [Bool.or_eq_true, decide_eq_true_eq, gt_iff_lt, bL] at hc
 refine (zg3 n4 f4).mono fun t ht => ?_
 have hT := zs6 l ll
 have rT := zrj rl
 have hno := zrm zq0 l (i := i.toNat) (by omega)
 generalize bT tab l = T at *
 refine (zh2 qC nL nM ht _ _ true true T [] rT (by omega) (fun x hx => by cases hx) (by simp) i i).mono ?_
 intro x hx
 rw [if_pos (by omega)] at hx
 obtain ⟨n6, f6, rfl⟩ := hx
 obtain ⟨s1, s2, s3, s4, s5, s6⟩ := zs5 tab T (i := i.toNat) (j := i.toNat) [] (Nat.le_refl _) (by omega)
 obtain ⟨m1, m2, m3⟩ := hno
 have hml : (bT tab (dT tab T i.toNat i.toNat [])).length = cJ tab T i.toNat (T.length - i.toNat) - cD tab T i.toNat := by
  rw [m2, m1]; unfold eB; rw [List.length_drop, List.length_take]; omega
 refine ⟨_, rfl, rfl, _, rfl, _, _, _, rfl, _, rfl, _, rfl, rfl, _, rfl, _, rfl, _, rfl, _, rfl, _, rfl, ?_⟩
 rw [m3] at s4 s5 s6 ⊢
 rw [hml] at s4 s6 ⊢
 generalize cD tab T i.toNat = a at *
 generalize cJ tab T i.toNat (T.length - i.toNat) = b at *
 have hab : a + (b - a) = b := by omega
 rw [hab] at s4 s6 ⊢
 refine (zsh _ _ _ _ T T (by omega) (by omega) a b b (by omega) s3 (by omega) (by omega) rfl rfl).mono ?_
 rintro _ ⟨x, y, z, rfl, hN⟩
 have hyz : y = z := by have := hN.d; have := hN.yb; have := hN.zc; omega
 have hxy : x = y := by
  have h1 := hN.xy
  by_cases hlt : x < y
  ·exact absurd rfl (hN.f hlt (by omega)).1
  ·omega
 subst hyz hxy
 refine ⟨_, rfl, rfl, _, rfl, _, rfl, _, rfl, bC rfl ?_⟩
 refine (zhj _ _ _ _ _ _ (by omega)).mono ?_
 rintro _ rfl
 refine ⟨_, rfl, bC (by simp) (bC (by simp) (bC (by simp) ?_))⟩
 refine awake9.mono ?_
 rintro _ rfl
 exact ⟨_, rfl, rfl⟩
theorem lawLocalNothing {pvs : List PV} (h : pL Tryz.prog 8 Tryz.f7.params.toList pvs) : PCall Tryz.prog 7 pvs fun v => v = .bool true := by
 obtain ⟨v0, r0, rfl, h0, v1, r1, rfl, h1, rfl⟩ : pL Tryz.prog 8 [22, 3] pvs := h
 obtain ⟨nl, l, rfl, hr⟩ := zrh h0
 obtain ⟨i, rfl⟩ := zrl h1
 exact zs7 _ _ l hr i
end Go.Eng


