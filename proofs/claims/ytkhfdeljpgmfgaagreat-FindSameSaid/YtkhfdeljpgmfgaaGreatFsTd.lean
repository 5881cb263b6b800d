/- Abstract states run over the code; what each function gives, printed by program and checked by the kernel; and what follows of it. -/
import Derived.Test.YtkhfdeljpgmfgaaGreatFsTc
set_option linter.unusedVariables false
set_option linter.unusedSimpArgs false
set_option maxRecDepth 100000
set_option linter.constructorNameAsVariable false
namespace Go.Eng
open Go Go.Proofs Go.Eng.Rows Go.Eng.Trie Go.Eng.Srt
theorem z0j {r : Int} (hs : sylB r = false) : ACall Tryz.prog 73 [.pv (.int .i32 r)] [] fun r1 h' => r1 = .pv (.sl true true []) ∧ h' = [] := by
  refine zeg _ ?_; unfold zbm
  refine (pIs r).mono ?_
  rintro _ rfl
  refine ⟨_, rfl, ?_⟩
  rw [hs]
  exact iteT rfl ⟨rfl, rfl⟩
theorem z4g {a b : Int} (ha : -2147483648 ≤ a ∧ a ≤ 2147483647) (hb : -2147483648 ≤ b ∧ b ≤ 2147483647) : PCall Tryz.prog 103 [.int .i32 a, .int .i32 b] fun v => v = optV (zkt a b) := by
  refine zix _ _ ?_; unfold zc1
  have wa : IntKind.i64.wrap a = a := zaa (by omega) (by omega)
  have wb : IntKind.i64.wrap b = b := zaa (by omega) (by omega)
  rw [wa, wb]
  refine iteD (fun hc => ?_) (fun hc => ?_)
  · simp only [Bool.and_eq_true, decide_eq_true_eq, ge_iff_le] at hc
    have w1 : IntKind.i64.wrap (a - 4352) = a - 4352 := zaa (by omega) (by omega)
    have w2 : IntKind.i64.wrap ((a - 4352) * 588) = (a - 4352) * 588 := zaa (by omega) (by omega)
    have w3 : IntKind.i64.wrap (44032 + (a - 4352) * 588) = 44032 + (a - 4352) * 588 := zaa (by omega) (by omega)
    have w4 : IntKind.i64.wrap (b - 4449) = b - 4449 := zaa (by omega) (by omega)
    have w5 : IntKind.i64.wrap ((b - 4449) * 28) = (b - 4449) * 28 := zaa (by omega) (by omega)
    rw [w1, w2, w3, w4, w5]
    have w6 : IntKind.i64.wrap (44032 + (a - 4352) * 588 + (b - 4449) * 28) = 44032 + (a - 4352) * 588 + (b - 4449) * 28 := zaa (by omega) (by omega)
    rw [w6]
    have w7 : IntKind.i32.wrap (44032 + (a - 4352) * 588 + (b - 4449) * 28) = 44032 + (a - 4352) * 588 + (b - 4449) * 28 := za6 (by omega) (by omega)
    rw [w7]
    unfold zkt
    rw [if_pos (by omega)]
    simp only [optV]
    rw [show 44032 + (a - 4352) * 588 + (b - 4449) * 28 = 44032 + ((a - 4352) * 21 + (b - 4449)) * 28 by omega]
  · simp only [Bool.and_eq_true, decide_eq_true_eq, ge_iff_le] at hc
    have hn : ¬ ((4352 ≤ a ∧ a < 4371) ∧ 4449 ≤ b ∧ b < 4470) := by omega
    have fin : ∀ (l : List (List PV)), (((l.length : Int) = 2 ↔ (sylB a = true ∧ (a - 44032) % 28 = 0))) → (if (((l.length : Int)) == 2 && decide (b ≥ 4520) && decide (b ≤ 4546)) = true then (PV.tup [.int .i32 (IntKind.i32.wrap (a + IntKind.i32.wrap (b - 4519))), .bool true] : PV) = optV (zkt a b) else (PV.tup [.int .i32 0, .bool false] : PV) = optV (zkt a b)) := fun l hl => by
      refine iteD (fun h2 => ?_) (fun h2 => ?_)
      · simp only [Bool.and_eq_true, decide_eq_true_eq, beq_iff_eq, ge_iff_le] at h2
        have hs := hl.1 h2.1.1
        have hr := hs.1
        simp only [sylB, Bool.and_eq_true, decide_eq_true_eq] at hr
        have w1 : IntKind.i32.wrap (b - 4519) = b - 4519 := za6 (by omega) (by omega)
        have w2 : IntKind.i32.wrap (a + (b - 4519)) = a + (b - 4519) := za6 (by omega) (by omega)
        rw [w1, w2]
        unfold zkt; rw [if_neg hn, if_pos ⟨hs, by omega, by omega⟩]; rfl
      · simp only [Bool.and_eq_true, decide_eq_true_eq, beq_iff_eq, ge_iff_le] at h2
        unfold zkt; rw [if_neg hn, if_neg (fun h => h2 ⟨⟨hl.2 h.1, by omega⟩, by omega⟩)]; rfl
    cases hs : sylB a with
    | false =>
      refine (z0j hs).mono ?_
      rintro _ _ ⟨rfl, rfl⟩
      exact .inr ⟨(true, []), ⟨rfl, rfl⟩, trivial, fin [] (by rw [hs]; simp)⟩
    | true =>
      have hl : ((i32s (zcu a)).length : Int) = 2 ↔ (sylB a = true ∧ (a - 44032) % 28 = 0) := by
        rw [zac, hs]
        unfold zcu
        split <;> simp [*]
      refine (zsp hs).mono ?_
      rintro r1 h' (⟨nl, rfl, rfl⟩ | ⟨rfl, rfl⟩)
      · exact .inl ⟨(nl, _), ⟨rfl, rfl⟩, trivial, fin _ hl⟩
      · exact .inr ⟨(false, _), ⟨rfl, rfl⟩, trivial, fin _ hl⟩
section
variable {rows : List Row}
def zoq (o : Option Int) : Int := o.getD 0
theorem zyg (hp : zat rows) (h1 : zce rows) (n f : Bool) {a b : Int} (hl : rows.length < 1000000) (ha : -2147483648 ≤ a ∧ a ≤ 2147483647) (hb : -2147483648 ≤ b ∧ b ≤ 2147483647) :
    PCall Tryz.prog 104 [.sl n f (rws rows), .int .i32 a, .int .i32 b] fun v => v = optV (cmpG rows a b) := by
  refine zgj _ _ _ _ _ (fun x8 x9 i => (0 ≤ i ∧ i ≤ rows.length) ∧ x8 = zoq ((rows.take i.toNat).foldl (Rows.cmpS rows a b) none) ∧ x9 = ((rows.take i.toNat).foldl (Rows.cmpS rows a b) none).isSome) (fun _ _ i => rows.length - i.toNat) ?_
  unfold zb7
  refine ⟨⟨rfl, ⟨Int.le_refl _, by omega⟩, rfl, rfl⟩, ?_⟩
  rintro x8 x9 i ⟨⟨i0, i1⟩, h8, h9⟩
  have wa : IntKind.i64.wrap a = a := zaa (by omega) (by omega)
  have wb : IntKind.i64.wrap b = b := zaa (by omega) (by omega)
  rw [wa, wb]
  refine iteD (fun hc => ?_) (fun hc => ?_)
  · simp only [decide_eq_true_eq, zec] at hc
    have hi : i.toNat < rows.length := by omega
    have hw : IntKind.i64.wrap (i + 1) = i + 1 := zaa (by omega) (by omega)
    have hg : (rws rows).getD i.toNat [] = encR rows[i.toNat] := zap hi
    have hix : zam (rws rows) i 5 := zaj zhl i0 (by omega)
    have hmem := List.getElem_mem hi
    have hst : (rows.take (i + 1).toNat).foldl (Rows.cmpS rows a b) none = Rows.cmpS rows a b ((rows.take i.toNat).foldl (Rows.cmpS rows a b) none) rows[i.toNat] := by
      rw [show (i + 1).toNat = i.toNat + 1 by omega, zas hi, List.foldl_append]; rfl
    rw [hw]
    generalize (rows.take i.toNat).foldl (Rows.cmpS rows a b) none = o at *
    generalize rows[i.toNat] = x at *
    have skip : cmpB rows a b x = false → (0 ≤ i + 1 ∧ i + 1 ≤ rows.length) ∧ x8 = zoq ((rows.take (i + 1).toNat).foldl (Rows.cmpS rows a b) none) ∧ x9 = ((rows.take (i + 1).toNat).foldl (Rows.cmpS rows a b) none).isSome := fun h => by
      rw [hst]; unfold Rows.cmpS; rw [h]; exact ⟨⟨by omega, by omega⟩, h8, h9⟩
    have hmu : rows.length - (i + 1).toNat < rows.length - i.toNat := by omega
    refine ⟨hix, x.kind, by rw [hg]; rfl, iteD (fun c1 => ?_) (fun c1 => ?_)⟩
    · simp only [bne_iff_ne, ne_eq] at c1
      exact ⟨rfl, skip (by simp [cmpB, c1]), hmu⟩
    simp only [bne_iff_ne, ne_eq, Decidable.not_not] at c1
    refine ⟨hix, x.a, by rw [hg]; rfl, iteD (fun c2 => ?_) (fun c2 => ?_)⟩
    · simp only [bne_iff_ne, ne_eq] at c2
      exact ⟨rfl, skip (by simp [cmpB, c2]), hmu⟩
    simp only [bne_iff_ne, ne_eq, Decidable.not_not] at c2
    refine ⟨hix, x.b, by rw [hg]; rfl, iteD (fun c3 => ?_) (fun c3 => ?_)⟩
    · simp only [Bool.or_eq_true, bne_iff_ne, ne_eq, beq_iff_eq] at c3
      refine ⟨rfl, skip ?_, hmu⟩
      rcases c3 with c3 | c3
      · simp [cmpB, c3]
      · simp [cmpB, c3]
    simp only [Bool.or_eq_true, bne_iff_ne, ne_eq, beq_iff_eq, not_or, Decidable.not_not] at c3
    obtain ⟨hpx, hfr⟩ := zpx h1 hmem c1
    have wf : IntKind.i32.wrap x.fr = x.fr := za6 (by omega) (by omega)
    refine ⟨hix, x.fr, by rw [hg]; rfl, ?_⟩
    rw [wf]
    refine (zt8 hp n f x.fr hl (by omega)).mono ?_
    rintro _ rfl
    rw [hpx, c2, c3.1]
    refine ⟨_, rfl, rfl, _, rfl, _, rfl, _, rfl, _, rfl, _, rfl, _, rfl, iteT (by simp [c3.2]) ?_⟩
    refine (z5e hp n f x.fr hl (by omega)).mono ?_
    rintro _ rfl
    refine ⟨_, rfl, ?_⟩
    cases ho : outG rows x.fr with
    | true => exact iteF (by simp) ⟨rfl, skip (by simp [cmpB, ho]), hmu⟩
    | false =>
      have hcb : cmpB rows a b x = true := by simp [cmpB, c1, c2, c3.1, c3.2, ho]
      cases o with
      | none =>
        simp only [Option.isSome] at h9
        refine iteT (by rw [h9]; rfl) ⟨rfl, ⟨⟨by omega, by omega⟩, ?_, ?_⟩, hmu⟩
        · rw [hst]; simp [Rows.cmpS, hcb, zoq]
        · rw [hst]; simp [Rows.cmpS, hcb]
      | some r =>
        simp only [Option.isSome] at h9
        simp only [zoq, Option.getD] at h8
        refine iteD (fun c4 => ?_) (fun c4 => ?_)
        · rw [h9, h8] at c4
          simp at c4
          refine ⟨rfl, ⟨⟨by omega, by omega⟩, ?_, ?_⟩, hmu⟩
          · rw [hst]; simp [Rows.cmpS, hcb, zoq, c4]
          · rw [hst]; simp [Rows.cmpS, hcb, c4]
        · rw [h9, h8] at c4
          simp at c4
          refine ⟨rfl, ⟨⟨by omega, by omega⟩, ?_, ?_⟩, hmu⟩
          · have hlt : ¬ x.fr < r := by omega
            rw [hst, h8]; simp [Rows.cmpS, hcb, zoq, hlt]
          · rw [hst, h9]; simp [Rows.cmpS, hcb]; split <;> rfl
  · simp only [decide_eq_true_eq, zec] at hc
    rw [List.take_of_length_le (by omega)] at h8 h9
    unfold cmpG
    rw [h8, h9]
    cases rows.foldl (Rows.cmpS rows a b) none <;> rfl
theorem z4h (hp : zat rows) (h1 : zce rows) (n f : Bool) {a b : Int} (hl : rows.length < 1000000) (ha : -2147483648 ≤ a ∧ a ≤ 2147483647) (hb : -2147483648 ≤ b ∧ b ≤ 2147483647) :
    PCall Tryz.prog 78 [.sl n f (rws rows), .int .i32 a, .int .i32 b] fun v => v = optV (zj0 rows a b) := by
  refine ziy _ _ _ _ _ ?_; unfold zc2
  refine (z4g ha hb).mono ?_
  rintro _ rfl
  unfold zj0
  cases zkt a b with
  | some r => exact ⟨_, rfl, rfl, _, rfl, _, rfl, _, rfl, _, rfl, iteT rfl rfl⟩
  | none =>
    refine ⟨_, rfl, rfl, _, rfl, _, rfl, _, rfl, _, rfl, iteF (by simp) ?_⟩
    refine (zyg hp h1 n f hl ha hb).mono ?_
    rintro _ rfl
    cases cmpG rows a b with
    | none => exact ⟨_, rfl, rfl, _, rfl, _, rfl, _, rfl, _, rfl, rfl⟩
    | some r => exact ⟨_, rfl, rfl, _, rfl, _, rfl, _, rfl, _, rfl, rfl⟩
theorem zyh {st : CSt} (h0 : st.s = none → st.P = []) (h1 : ∀ a, st.s = some a → numG rows 1 a = 0) (h2 : ∀ m ∈ st.M, numG rows 1 m ≠ 0) :
    (zei st = -1 ∧ ∀ k (h : k < st.out.length), numG rows 1 st.out[k] ≠ 0) ∨ (∃ k : Nat, zei st = (k : Int) ∧ ∃ h : k < st.out.length, numG rows 1 st.out[k] = 0 ∧ ∀ j (hj : j < st.out.length), k < j → numG rows 1 st.out[j] ≠ 0) := by
  cases hs : st.s with
  | none =>
    have hP := h0 hs
    have ho : st.out = st.M := by simp [CSt.out, hs, hP]
    refine .inl ⟨by simp [zei, hs], fun k hk => h2 _ ?_⟩
    have := List.getElem_mem hk
    rw [← ho]; exact this
  | some a =>
    have ho : st.out = st.P ++ a :: st.M := by simp [CSt.out, hs]
    refine .inr ⟨st.P.length, by simp [zei, hs], by rw [ho]; simp, ?_, fun j hj hlt => h2 _ ?_⟩
    · simp only [ho, List.getElem_append_right (Nat.le_refl _), Nat.sub_self, List.getElem_cons_zero]; exact h1 a hs
    · simp only [ho]
      rw [List.getElem_append_right (by omega), List.getElem_cons]
      rw [dif_neg (by omega)]
      exact List.getElem_mem _
theorem z4i (n f n2 f2 : Bool) (hl : rows.length < 1000000) (L : List Int) (hr : R32 L) (hL : L.length < 1000000000000) :
    PCall Tryz.prog 76 [.sl n f (rws rows), .sl n2 f2 (i32s L)] fun v => ∃ x : Int, v = .int .i64 x ∧ ((x = -1 ∧ ∀ k (h : k < L.length), numG rows 1 L[k] ≠ 0) ∨ (∃ k : Nat, x = (k : Int) ∧ ∃ h : k < L.length, numG rows 1 L[k] = 0 ∧ ∀ j (hj : j < L.length), k < j → numG rows 1 L[j] ≠ 0)) := by
  refine zhw _ _ _ _ _ _ (fun x => (-1 ≤ x ∧ x < L.length) ∧ ∀ j (hj : j < L.length), x < j → numG rows 1 L[j] ≠ 0) (fun x => (x + 1).toNat) ?_
  unfold zcs
  have hw : IntKind.i64.wrap ((i32s L).length - 1) = L.length - 1 := by rw [zac]; exact zaa (by omega) (by omega)
  rw [hw]
  refine ⟨⟨rfl, ⟨by omega, by omega⟩, fun j hj h => by omega⟩, ?_⟩
  rintro x ⟨⟨x0, x1⟩, hx⟩
  refine iteD (fun hc => ?_) (fun hc => ?_)
  · simp only [decide_eq_true_eq, ge_iff_le] at hc
    have hi : x.toNat < L.length := by omega
    obtain ⟨g1, g2⟩ := zh5 hc hi
    have hw1 : IntKind.i64.wrap (x - 1) = x - 1 := zaa (by omega) (by omega)
    refine ⟨g1, L[x.toNat], by rw [g2]; rfl, ?_⟩
    refine (zpt n f _ hl (hr _ (List.getElem_mem hi))).mono ?_
    rintro _ rfl
    refine ⟨_, rfl, ?_⟩
    rw [hw1]
    refine iteD (fun h0 => ?_) (fun h0 => ?_)
    · simp only [beq_iff_eq] at h0
      exact ⟨x, rfl, .inr ⟨x.toNat, by omega, hi, h0, fun j hj hlt => hx j hj (by omega)⟩⟩
    · simp only [beq_iff_eq] at h0
      refine ⟨rfl, ⟨⟨by omega, by omega⟩, fun j hj hlt => ?_⟩, by dsimp only; omega⟩
      by_cases he : j = x.toNat
      · subst he; exact h0
      · exact hx j hj (by omega)
  · simp only [decide_eq_true_eq, ge_iff_le] at hc
    exact ⟨-1, rfl, .inl ⟨rfl, fun k hk => hx k hk (by omega)⟩⟩
theorem z5g (n f n2 f2 : Bool) (hl : rows.length < 1000000) (L : List Int) (hr : R32 L) (hL : L.length < 1000000000000) (h0 : 0 < L.length) (k : Int) {r : Int} (hx : -2147483648 ≤ r ∧ r ≤ 2147483647) :
    PCall Tryz.prog 77 [.sl n f (rws rows), .sl n2 f2 (i32s L), .int .i64 k, .int .i32 r] fun v => v = .bool (decide (k = L.length - 1) || decide (zfa (numG rows 1) L < numG rows 1 r)) := by
  refine ziz _ _ _ _ _ _ _ _ ?_; unfold zc3
  have hw : IntKind.i64.wrap ((i32s L).length - 1) = L.length - 1 := by rw [zac]; exact zaa (by omega) (by omega)
  rw [hw]
  refine iteD (fun hc => ?_) (fun hc => ?_)
  · simp only [beq_iff_eq] at hc; simp [hc]
  · simp only [beq_iff_eq] at hc
    have hi : ((L.length : Int) - 1).toNat < L.length := by omega
    obtain ⟨g1, g2⟩ := zh5 (l := L) (i := (L.length : Int) - 1) (by omega) hi
    refine ⟨g1, L[((L.length : Int) - 1).toNat], by rw [g2]; rfl, ?_⟩
    refine (zpt n f _ hl (hr _ (List.getElem_mem hi))).mono ?_
    rintro _ rfl
    refine ⟨_, rfl, ?_⟩
    refine (zpt n f _ hl hx).mono ?_
    rintro _ rfl
    refine ⟨_, rfl, ?_⟩
    have : zfa (numG rows 1) L = numG rows 1 L[((L.length : Int) - 1).toNat] := by
      unfold zfa
      rw [List.getLast?_eq_getElem?, List.getElem?_eq_getElem (by omega)]
      simp only
      congr 2
      omega
    rw [this]; simp [hc]
theorem zyi (hp : zat rows) (h1 : zce rows) (hs0 : ∀ (d : List Int) a, (zah rows d).s = some a → numG rows 1 a = 0) (n f n2 f2 : Bool) (hl : rows.length < 1000000) (L : List Int) (hr : R32 L) (hL : L.length < 1000000000000) :
    PCall Tryz.prog 44 [.sl n f (rws rows), .sl n2 f2 (i32s L)] fun x => ∃ n f, x = .sl n f (i32s (zci rows L)) := by
  refine zgk _ _ _ _ _ _ (fun i _ s => (0 ≤ i ∧ i ≤ L.length) ∧ s = i32s (zah rows (L.take i.toNat)).out) (fun i _ _ => L.length - i.toNat) ?_
  unfold zb8
  refine ⟨⟨rfl, ⟨Int.le_refl _, by omega⟩, rfl⟩, ?_⟩
  rintro i n0 _ ⟨⟨i0, i1⟩, rfl⟩
  refine iteD (fun hc => ?_) (fun hc => ?_)
  · simp only [decide_eq_true_eq, zac] at hc
    have hi : i.toNat < L.length := by omega
    obtain ⟨g1, g2⟩ := zh5 i0 hi
    have hx := hr _ (List.getElem_mem hi)
    have hw : IntKind.i64.wrap (i + 1) = i + 1 := zaa (by omega) (by omega)
    rw [hw]
    have hlen := zm7 rows (L.take i.toNat)
    have hrng := zm8 h1 (L.take i.toNat)
    have hnz := z0c (rows := rows) (d := L.take i.toNat)
    have hnP := zuf (rows := rows) (d := L.take i.toNat)
    have hsk := hs0 (L.take i.toNat)
    rw [List.length_take] at hlen
    unfold zci at hlen hrng
    have next : ∀ st2, zc6 rows (zah rows (L.take i.toNat)) L[i.toNat] = st2 → (0 ≤ i + 1 ∧ i + 1 ≤ L.length) ∧ i32s st2.out = i32s (zah rows (L.take (i + 1).toNat)).out := fun st2 he => by
      rw [show (i + 1).toNat = i.toNat + 1 by omega, zas hi, zaq, he]; exact ⟨⟨by omega, by omega⟩, rfl⟩
    generalize zah rows (L.take i.toNat) = st at *
    have hmu : L.length - (i + 1).toNat < L.length - i.toNat := by omega
    have hr2 : R32 st.out := fun y hy => by
      rcases hrng y hy with h | h
      · exact hr y (List.mem_of_mem_take h)
      · omega
    have hsz : szOK [[PV.int .i32 L[i.toNat]]] 1 ∧ ((i32s st.out).length + 1) * 4 ≤ 140737488355328 := ⟨zcf [_], by rw [zac]; omega⟩
    have app : zc6 rows st L[i.toNat] = cApp (numG rows 1) st L[i.toNat] → (0 ≤ i + 1 ∧ i + 1 ≤ L.length) ∧ i32s st.out ++ [[PV.int .i32 L[i.toNat]]] = i32s (zah rows (L.take (i + 1).toNat)).out := fun he => by
      obtain ⟨k1, k2⟩ := next _ he
      rw [zfg, zd1] at k2
      exact ⟨k1, k2⟩
    refine (z4i n f n0 false hl st.out hr2 (by omega)).mono ?_
    rintro _ ⟨x, rfl, hst⟩
    have hxs : x = zei st := by
      rcases zyh hnP hsk hnz with ⟨e, h⟩ | ⟨k, e, hk, h, h'⟩
      · rcases hst with ⟨e2, _⟩ | ⟨k2, e2, hk2, q, _⟩
        · omega
        · exact absurd q (h k2 hk2)
      · rcases hst with ⟨e2, q⟩ | ⟨k2, e2, hk2, q, q'⟩
        · exact absurd h (q k hk)
        · rcases Nat.lt_trichotomy k k2 with hlt | rfl | hlt
          · exact absurd q (h' k2 hk2 hlt)
          · omega
          · exact absurd h (q' k hk hlt)
    clear hst
    subst hxs
    refine ⟨_, rfl, rfl, iteD (fun hf => ?_) (fun hf => ?_)⟩
    · simp only [decide_eq_true_eq, ge_iff_le] at hf
      cases hs : st.s with
      | none => simp [zei, hs] at hf
      | some a =>
        have hsi : zei st = st.P.length := by simp [zei, hs]
        have hol : st.out.length = st.P.length + 1 + st.M.length := by simp [CSt.out, hs]; omega
        refine ⟨g1, L[i.toNat], by rw [g2]; rfl, ?_⟩
        refine (z5g n f n0 false hl st.out hr2 (by omega) (by omega) (zei st) hx).mono ?_
        rintro _ rfl
        have hfree : (decide (zei st = st.out.length - 1) || decide (zfa (numG rows 1) st.out < numG rows 1 L[i.toNat])) = true ↔ (st.M = [] ∨ zfa (numG rows 1) st.M < numG rows 1 L[i.toNat]) := by
          simp only [Bool.or_eq_true, decide_eq_true_eq]
          by_cases hM : st.M = []
          · refine ⟨fun _ => .inl hM, fun _ => .inl ?_⟩
            rw [hsi, hol, hM]; simp
          · obtain ⟨D, m, hDm⟩ := (List.eq_nil_or_concat _).resolve_left hM
            have e : zfa (numG rows 1) st.out = zfa (numG rows 1) st.M := by
              have e2 : st.out = (st.P ++ a :: D) ++ [m] := by simp [CSt.out, hDm, hs]
              rw [e2, hDm, List.concat_eq_append, zhm, zhm]
            rw [e]
            refine or_congr ⟨fun h => ?_, fun h => absurd h hM⟩ Iff.rfl
            rw [hsi, hol] at h
            exact List.eq_nil_of_length_eq_zero (by omega)
        refine ⟨_, rfl, rfl, iteD (fun hfr => ?_) (fun hfr => ?_)⟩
        · have hfr := hfree.1 hfr
          have hat : st.out[st.P.length]'(by omega) = a := by simp [CSt.out, hs]
          obtain ⟨k1, k2⟩ := zh5 (l := st.out) (i := zei st) (by omega) (by omega)
          have hta : (zei st).toNat = st.P.length := by omega
          have k3 : (i32s st.out).getD (zei st).toNat [] = [PV.int .i32 a] := by
            rw [k2]; simp only [hta, hat]
          have ha : -2147483648 ≤ a ∧ a ≤ 2147483647 := hr2 a (by simp [CSt.out, hs])
          refine ⟨k1, a, by rw [k3]; rfl, g1, L[i.toNat], by rw [g2]; rfl, ?_⟩
          refine (z4h hp h1 n f hl ha hx).mono ?_
          rintro _ rfl
          cases hpc : zj0 rows a L[i.toNat] with
          | some c =>
            refine ⟨_, rfl, rfl, _, rfl, _, rfl, _, rfl, _, rfl, iteT rfl ⟨k1, ⟨rfl, by rw [k3]; exact Nat.le_refl _⟩, rfl, ?_, by dsimp only; omega⟩⟩
            rw [k3, hta]
            have he : zc6 rows st L[i.toNat] = ⟨st.P, some c, st.M⟩ := by
              unfold zc6; rw [hs]; simp only; rw [if_pos hfr, hpc]
            have e2 : (i32s st.out).set st.P.length [PV.int .i32 c] = i32s (CSt.out ⟨st.P, some c, st.M⟩) := by
              simp [CSt.out, hs, i32s]
            obtain ⟨q1, q2⟩ := next _ he
            exact ⟨q1, e2.trans q2⟩
          | none =>
            have he : zc6 rows st L[i.toNat] = cApp (numG rows 1) st L[i.toNat] := by
              unfold zc6; rw [hs]; simp only; rw [if_pos hfr, hpc]
            exact ⟨_, rfl, rfl, _, rfl, _, rfl, _, rfl, _, rfl, iteF (by simp) ⟨g1, L[i.toNat], by rw [g2]; rfl, hsz, rfl, app he, by dsimp only; omega⟩⟩
        · have hfr := fun h => hfr (hfree.2 h)
          have he : zc6 rows st L[i.toNat] = cApp (numG rows 1) st L[i.toNat] := by
            unfold zc6; rw [hs]; simp only; rw [if_neg hfr]
          exact ⟨g1, L[i.toNat], by rw [g2]; rfl, hsz, rfl, app he, by dsimp only; omega⟩
    · simp only [decide_eq_true_eq, ge_iff_le] at hf
      have hs : st.s = none := by
        cases hs : st.s with
        | none => rfl
        | some a => exact absurd (by simp [zei, hs]) hf
      have he : zc6 rows st L[i.toNat] = cApp (numG rows 1) st L[i.toNat] := by
        unfold zc6; rw [hs]
      exact ⟨g1, L[i.toNat], by rw [g2]; rfl, hsz, rfl, app he, by dsimp only; omega⟩
  · simp only [decide_eq_true_eq, zac] at hc
    rw [List.take_of_length_le (by omega)]
    exact ⟨_, _, rfl⟩
theorem z5h (hp : zat rows) (h1 : zce rows) (hk : zdl rows) (hs0 : ∀ (d : List Int) a, (zah rows d).s = some a → numG rows 1 a = 0) (n f n2 f2 : Bool) (hl : rows.length < 1000000) (L : List Int) (hr : R32 L) (hL : L.length < 1000000) :
    PCall Tryz.prog 13 [.sl n f (rws rows), .sl n2 f2 (i32s L)] fun x => ∃ n f, x = .sl n f (i32s (nfcL rows L)) := by
  refine zj2 _ _ _ _ _ _ ?_; unfold zdj
  refine (z4a hp hk n f n2 f2 hl L hr hL).mono ?_
  rintro _ ⟨n1, f1, rfl⟩
  refine ⟨_, _, _, rfl, ?_⟩
  refine (zyi hp h1 hs0 n f n1 f1 hl _ (zsw hk hp hr) (z4b hk hL)).mono ?_
  rintro _ ⟨n3, f3, rfl⟩
  exact ⟨_, _, _, rfl, _, _, rfl⟩
end
end Go.Eng



namespace Go.Eng.Rows
open Go Go.Eng Go.Eng.Trie Go.Eng.Srt
def z5i (rows : List Row) (a b : Int) : Bool := rows.all fun x => !decide (x.kind = 1) || (decide (x.to < a) || decide (b < x.fr))
theorem away {rows : List Row} {a b r : Int} (h : z5i rows a b = true) (h1 : a ≤ r) (h2 : r ≤ b) : numG rows 1 r = 0 := by
  unfold numG
  cases hf : za0 rows 1 r with
  | none => rfl
  | some p =>
    obtain ⟨x, hx, hk, _, _, f1, f2, _⟩ := zdw hf
    have := List.all_eq_true.1 h x hx
    simp only [hk, decide_true, Bool.not_true, Bool.false_or, Bool.or_eq_true, decide_eq_true_eq] at this
    omega
end Go.Eng.Rows



namespace Go.Eng
open Go Go.Proofs Go.Eng.Rows Go.Eng.Trie
theorem z4j : ∀ r, sylB r = true → numG tab 1 r = 0 := fun r hs => by
  simp only [sylB, Bool.and_eq_true, decide_eq_true_eq] at hs
  exact away (a := 44032) (b := 55203) (by kernel_rfl) hs.1 hs.2
theorem z4k : ∀ (d : List Int) a, (zah tab d).s = some a → numG tab 1 a = 0 := z0i zpv z4j
end Go.Eng



namespace Go.Eng
open Go Go.Proofs Go.Eng.Rows Go.Eng.Trie Go.Eng.Srt
theorem zyj (n f : Bool) (a : List Int) (ha : R32 a) (n2 f2 : Bool) (b : List Int) (hb : R32 b) : PCall Tryz.prog 3 [.sl n f (i32s a), .sl n2 f2 (i32s b)] fun v => v = .bool true := by
  refine zgc _ _ _ _ _ _ ?_; unfold zbz
  refine (pFew n f a 30 (by omega)).mono ?_
  rintro _ ⟨n1, f1, rfl⟩
  refine ⟨_, _, _, rfl, ?_⟩
  refine (pFew n2 f2 b 10 (by omega)).mono ?_
  rintro _ ⟨n3, f3, rfl⟩
  refine ⟨_, _, _, rfl, ?_⟩
  refine p42.mono ?_
  rintro _ ⟨n4, f4, rfl⟩
  refine ⟨_, _, _, rfl, ?_⟩
  refine (z0y n4 f4).mono fun t ht => ?_
  have la := zyd a 30
  have lb := zyd b 10
  have ra := ha.take 30
  have rb := hb.take 10
  generalize a.take 30 = a at *
  generalize b.take 10 = b at *
  have hd := zpw ze8 b
  have hc := z24 ze8 b
  have ff : ∀ (n f n2 f2 : Bool) (P : List Int), R32 P → P.length < 1000000 → nfdL tab P = nfdL tab b → PCall Tryz.prog 11 [t, .sl n f (i32s a), .sl n2 f2 (i32s P)] fun x => x = z0f (Rows.findL tab a (nfdL tab b)) := fun n f n2 f2 P h1 h2 e => by
    rw [← e]; exact z3e zd7 ze8 ht n f n2 f2 a P ra (by omega) h1 h2
  have hv : ∃ (x y : Int) (o : Bool), z0f (Rows.findL tab a (nfdL tab b)) = .tup [.int .i64 x, .int .i64 y, .bool o] := by
    cases Rows.findL tab a (nfdL tab b) with
    | none => exact ⟨_, _, _, rfl⟩
    | some p => exact ⟨_, _, _, rfl⟩
  obtain ⟨x, y, o, hv⟩ := hv
  rw [hv] at ff
  refine (ff _ _ _ _ b rb (by omega) rfl).mono ?_
  rintro _ rfl
  refine ⟨_, rfl, rfl, _, rfl, _, rfl, _, rfl, _, rfl, _, rfl, _, rfl, ?_⟩
  refine (z4a zd7 ze8 _ _ _ _ zx7 b rb (by omega)).mono ?_
  rintro _ ⟨n5, f5, rfl⟩
  refine ⟨_, _, _, rfl, ?_⟩
  refine (ff _ _ _ _ _ (z5c rb) (by omega) (zz5 ze8 zoo b)).mono ?_
  rintro _ rfl
  refine ⟨_, rfl, rfl, _, rfl, _, rfl, _, rfl, _, rfl, _, rfl, _, rfl, ?_⟩
  refine (z5h zd7 zpv ze8 z4k _ _ _ _ zx7 b rb (by omega)).mono ?_
  rintro _ ⟨n6, f6, rfl⟩
  refine ⟨_, _, _, rfl, ?_⟩
  refine (ff _ _ _ _ _ (z5b rb) (by omega) (z21 z5a b)).mono ?_
  rintro _ rfl
  refine ⟨_, rfl, rfl, _, rfl, _, rfl, _, rfl, _, rfl, _, rfl, _, rfl, iteT (by simp) ?_⟩
  refine awake21.mono ?_
  rintro _ rfl
  exact ⟨_, rfl, rfl⟩
theorem lawFindSame {pvs : List PV} (h : zji Tryz.prog 8 Tryz.f3.params.toList pvs) : PCall Tryz.prog 3 pvs fun v => v = .bool true := by
  obtain ⟨v0, r0, rfl, h0, v1, r1, rfl, h1, rfl⟩ : zji Tryz.prog 8 [22, 22] pvs := h
  obtain ⟨nl, l, rfl, hr⟩ := zrw h0
  obtain ⟨nl1, l1, rfl, hr1⟩ := zrw h1
  exact zyj _ _ l hr _ _ l1 hr1
end Go.Eng


