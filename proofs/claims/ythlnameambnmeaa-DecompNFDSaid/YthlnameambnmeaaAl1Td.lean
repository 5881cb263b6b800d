/- Abstract states run over the code; what each function gives, printed by program and checked by the kernel; and what follows of it. -/
import Derived.Test.YthlnameambnmeaaAl1Tc
set_option linter.unusedVariables false
set_option linter.unusedSimpArgs false
set_option maxRecDepth 100000
set_option linter.constructorNameAsVariable false
namespace Go.Eng
open Go Go.Proofs Go.Eng.Rows Go.Eng.Trie Go.Eng.Srt
def optV : Option Int → PV
  | some r => .tup [.int .i32 r, .bool true]
  | none => .tup [.int .i32 0, .bool false]
theorem z4q {a b : Int} (ha : -2147483648 ≤ a ∧ a ≤ 2147483647) (hb : -2147483648 ≤ b ∧ b ≤ 2147483647) : PCall Try.prog 104 [.int .i32 a, .int .i32 b] fun v => v = optV (zlw a b) := by
  refine zp9 _ _ ?_; unfold zgp
  refine iteD (fun hc => ?_) (fun hc => ?_)
  · simp only [Bool.and_eq_true, decide_eq_true_eq, ge_iff_le] at hc
    have w1 : IntKind.i32.wrap (a - 4352) = a - 4352 := zav (by omega) (by omega)
    have w2 : IntKind.i32.wrap ((a - 4352) * 21) = (a - 4352) * 21 := zav (by omega) (by omega)
    have w3 : IntKind.i32.wrap ((a - 4352) * 21 + b) = (a - 4352) * 21 + b := zav (by omega) (by omega)
    have w4 : IntKind.i32.wrap ((a - 4352) * 21 + b - 4449) = (a - 4352) * 21 + b - 4449 := zav (by omega) (by omega)
    have w5 : IntKind.i32.wrap (((a - 4352) * 21 + b - 4449) * 28) = ((a - 4352) * 21 + b - 4449) * 28 := zav (by omega) (by omega)
    have w6 : IntKind.i32.wrap (44032 + ((a - 4352) * 21 + b - 4449) * 28) = 44032 + ((a - 4352) * 21 + b - 4449) * 28 := zav (by omega) (by omega)
    rw [w1, w2, w3, w4, w5, w6]
    unfold zlw
    rw [if_pos (by omega)]
    simp only [optV]
    rw [show (a - 4352) * 21 + b - 4449 = (a - 4352) * 21 + (b - 4449) by omega]
  · simp only [Bool.and_eq_true, decide_eq_true_eq, ge_iff_le] at hc
    refine (pSyl a).mono ?_
    rintro _ rfl
    refine ⟨_, rfl, ?_⟩
    have hn : ¬ ((4352 ≤ a ∧ a < 4371) ∧ 4449 ≤ b ∧ b < 4470) := by omega
    cases hs : sylB a with
    | false =>
      refine iteF (by simp) ?_
      unfold zlw; rw [if_neg hn, if_neg (by rw [hs]; simp)]; rfl
    | true =>
      have hr := hs
      simp only [sylB, Bool.and_eq_true, decide_eq_true_eq] at hr
      have w1 : IntKind.i32.wrap (a - 44032) = a - 44032 := zav (by omega) (by omega)
      have e3 : (a - 44032).tmod 28 = (a - 44032) % 28 := Int.tmod_eq_emod_of_nonneg (by omega)
      rw [w1, e3]
      refine iteD (fun h2 => ?_) (fun h2 => ?_)
      · simp only [Bool.and_eq_true, decide_eq_true_eq, gt_iff_lt, beq_iff_eq, Bool.true_and] at h2
        have w2 : IntKind.i32.wrap (a + b) = a + b := zav (by omega) (by omega)
        have w3 : IntKind.i32.wrap (a + b - 4519) = a + b - 4519 := zav (by omega) (by omega)
        rw [w2, w3]
        unfold zlw; rw [if_neg hn, if_pos ⟨⟨hs, h2.1.1⟩, h2.1.2, h2.2⟩]
        simp only [optV]
        rw [show a + b - 4519 = a + (b - 4519) by omega]
      · simp only [Bool.and_eq_true, decide_eq_true_eq, gt_iff_lt, beq_iff_eq, Bool.true_and] at h2
        unfold zlw; rw [if_neg hn, if_neg (by omega)]; rfl
section
variable {rows : List Row} {v : PV}
theorem z31 (hp : za0 rows) (h1 : zdj rows) (hv : zim rows v) {a b : Int} (ha : -2147483648 ≤ a ∧ a ≤ 2147483647) (hb : -2147483648 ≤ b ∧ b ≤ 2147483647) : PCall Try.prog 90 [v, .int .i32 a, .int .i32 b] fun x => x = optV (zlx rows a b) := by
  obtain ⟨tc, tg, tj, tf, tp, made, sec, rfl, ht, hm⟩ := hv
  refine zn1 _ _ _ _ _ _ _ _ _ ?_; unfold zft
  refine (z4q ha hb).mono ?_
  rintro _ rfl
  unfold zlx
  cases zlw a b with
  | some r =>
    exact ⟨_, rfl, rfl, _, rfl, _, rfl, _, rfl, _, rfl, iteT rfl rfl⟩
  | none =>
    refine ⟨_, rfl, rfl, _, rfl, _, rfl, _, rfl, _, rfl, iteF (by simp) ?_⟩
    refine (zz0 _ _ _ _ _ _ made a b).mono ?_
    rintro _ rfl
    rw [← z0c hp h1 hm a b]
    unfold zzy
    split
    · exact ⟨_, rfl, rfl, _, rfl, _, rfl, _, rfl, _, rfl, rfl⟩
    · cases aget (a, b) made with
      | none => exact ⟨_, rfl, rfl, _, rfl, _, rfl, _, rfl, _, rfl, rfl⟩
      | some r => exact ⟨_, rfl, rfl, _, rfl, _, rfl, _, rfl, _, rfl, rfl⟩
def zfc (st : CSt) : Int := match st.s with | none => -1 | some _ => st.P.length
theorem z0g {d : List Int} : ∀ m ∈ (zaj rows d).M, numG rows 1 m ≠ 0 := by
  induction d using zei with
  | h0 => intro m hm; cases hm
  | h1 d r ih =>
    rw [zaw]
    rcases zfa rows (zaj rows d) r with e | ⟨a, c, hs, hp, _, e⟩
    · rw [e]
      unfold cApp
      split
      · intro m hm; cases hm
      · rename_i h0
        intro m hm
        rcases List.mem_append.1 hm with hm | hm
        · exact ih m hm
        · rw [List.mem_singleton] at hm; subst hm; exact h0
    · rw [e]; exact ih
def JC (rows : List Row) (L : List Int) (x6 x7 i : Int) (s : List (List PV)) : Prop := (0 ≤ i ∧ i ≤ L.length) ∧ s = i32s (zaj rows (L.take i.toNat)).out ∧ x6 = zfc (zaj rows (L.take i.toNat)) ∧ x7 = zgy (numG rows 1) (zaj rows (L.take i.toNat)).M
theorem JC.next {L : List Int} {i : Int} (h0 : 0 ≤ i) (hi : i.toNat < L.length) {st : CSt} (he : zd1 rows (zaj rows (L.take i.toNat)) L[i.toNat] = st) : JC rows L (zfc st) (zgy (numG rows 1) st.M) (i + 1) (i32s st.out) := by
  have e : zaj rows (L.take (i + 1).toNat) = st := by
    rw [show (i + 1).toNat = i.toNat + 1 by omega, zat hi, zaw, he]
  exact ⟨⟨by omega, by omega⟩, by rw [e], by rw [e], by rw [e]⟩
theorem zyj (hp : za0 rows) (h1 : zdj rows) (hv : zim rows v) (n f : Bool) (L : List Int) (hr : R32 L) (hL : L.length < 1000000000000) : PCall Try.prog 68 [v, .sl n f (i32s L)] fun x => ∃ n f, x = .sl n f (i32s (zcp rows L)) := by
  have hv' := hv
  obtain ⟨tc, tg, tj, tf, tp, made, sec, rfl, ht, hm⟩ := hv
  refine zk8 _ _ _ _ _ _ _ _ _ _ (fun x6 x7 i _ s => JC rows L x6 x7 i s) (fun _ _ i _ _ => L.length - i.toNat) ?_
  unfold zd2
  refine ⟨⟨rfl, ⟨Int.le_refl _, by omega⟩, rfl, rfl, rfl⟩, ?_⟩
  rintro x6 x7 i n0 _ ⟨⟨i0, i1⟩, rfl, rfl, rfl⟩
  refine iteD (fun hc => ?_) (fun hc => ?_)
  · simp only [decide_eq_true_eq, zac] at hc
    have hi : i.toNat < L.length := by omega
    obtain ⟨g1, g2⟩ := zgt i0 hi
    have hx := hr _ (List.getElem_mem hi)
    have hw : IntKind.i64.wrap (i + 1) = i + 1 := zaa (by omega) (by omega)
    refine ⟨g1, L[i.toNat], by rw [g2]; rfl, ?_⟩
    refine (zuh _ _ ht hx).mono ?_
    rintro _ rfl
    refine ⟨_, rfl, ?_⟩
    rw [hw]
    have hlen := znm rows (L.take i.toNat)
    have hrng := zta h1 (L.take i.toNat)
    have hnz := z0g (rows := rows) (d := L.take i.toNat)
    have hnP := zuu (rows := rows) (d := L.take i.toNat)
    rw [List.length_take] at hlen
    unfold zcp at hlen hrng
    have next := fun st => JC.next (rows := rows) (st := st) i0 hi
    generalize zaj rows (L.take i.toNat) = st at *
    have hmu : L.length - (i + 1).toNat < L.length - i.toNat := by omega
    have hsz : szOK [[PV.int .i32 L[i.toNat]]] 1 ∧ ((i32s st.out).length + 1) * 4 ≤ 140737488355328 := ⟨zb8 [_], by rw [zac]; omega⟩
    have hout : i32s st.out ++ [[PV.int .i32 L[i.toNat]]] = i32s (st.out ++ [L[i.toNat]]) := by rw [zdk]; rfl
    have hl : ((i32s st.out).length : Int) = st.out.length := by rw [zac]
    have app0 : zd1 rows st L[i.toNat] = cApp (numG rows 1) st L[i.toNat] → numG rows 1 L[i.toNat] = 0 → JC rows L (i32s st.out).length (numG rows 1 L[i.toNat]) (i + 1) (i32s st.out ++ [[PV.int .i32 L[i.toNat]]]) := fun he h0 => by
      have := next _ (he.trans (by unfold cApp; rw [if_pos h0]))
      rw [hout, hl, h0]
      simpa [zfc, zgy, CSt.out] using this
    have app1 : zd1 rows st L[i.toNat] = cApp (numG rows 1) st L[i.toNat] → numG rows 1 L[i.toNat] ≠ 0 → JC rows L (zfc st) (numG rows 1 L[i.toNat]) (i + 1) (i32s st.out ++ [[PV.int .i32 L[i.toNat]]]) := fun he h0 => by
      have := next _ (he.trans (by unfold cApp; rw [if_neg h0]))
      rw [hout]
      simp only [zk7] at this
      have e2 : st.out ++ [L[i.toNat]] = CSt.out ⟨st.P, st.s, st.M ++ [L[i.toNat]]⟩ := by simp [CSt.out]
      rw [e2]
      exact this
    refine iteD (fun hf => ?_) (fun hf => ?_)
    · simp only [Bool.and_eq_true, decide_eq_true_eq, Bool.or_eq_true, beq_iff_eq, bne_iff_ne, ne_eq, ge_iff_le] at hf
      obtain ⟨hf1, hf2⟩ := hf
      cases hs : st.s with
      | none => simp [zfc, hs] at hf1
      | some a =>
        have hsi : zfc st = st.P.length := by simp [zfc, hs]
        have hol : st.out.length = st.P.length + 1 + st.M.length := by simp [CSt.out, hs]; omega
        have hw2 : IntKind.i64.wrap ((i32s st.out).length - 1) = st.out.length - 1 := by rw [hl]; exact zaa (by omega) (by omega)
        have hfree : st.M = [] ∨ zgy (numG rows 1) st.M < numG rows 1 L[i.toNat] := by
          rcases hf2 with h | h
          · rw [hw2, hsi] at h
            exact .inl (List.eq_nil_of_length_eq_zero (by omega))
          · exact .inr h.2
        have hat : st.out[st.P.length]'(by omega) = a := by simp [CSt.out, hs]
        obtain ⟨k1, k2⟩ := zgt (l := st.out) (i := zfc st) (by omega) (by omega)
        have hta : (zfc st).toNat = st.P.length := by omega
        have k3 : (i32s st.out).getD (zfc st).toNat [] = [PV.int .i32 a] := by
          rw [k2]; simp only [hta, hat]
        have ha : -2147483648 ≤ a ∧ a ≤ 2147483647 := by
          rcases hrng a (by simp [CSt.out, hs]) with h | h
          · exact hr a (List.mem_of_mem_take h)
          · omega
        refine ⟨k1, a, by rw [k3]; rfl, ?_⟩
        refine (z31 hp h1 hv' ha hx).mono ?_
        rintro _ rfl
        cases hpc : zlx rows a L[i.toNat] with
        | some c =>
          refine ⟨_, rfl, rfl, _, rfl, _, rfl, _, rfl, _, rfl, iteT rfl ⟨k1, ⟨rfl, by rw [k3]; exact Nat.le_refl _⟩, rfl, ?_, by dsimp only; omega⟩⟩
          rw [k3, hta]
          have he : zd1 rows st L[i.toNat] = ⟨st.P, some c, st.M⟩ := by
            unfold zd1; rw [hs]; simp only; rw [if_pos hfree, hpc]
          have := next _ he
          have e2 : (i32s st.out).set st.P.length [PV.int .i32 c] = i32s (CSt.out ⟨st.P, some c, st.M⟩) := by
            simp [CSt.out, hs, i32s]
          have e3 : zfc ⟨st.P, some c, st.M⟩ = zfc st := by rw [hsi]; rfl
          rw [e3] at this
          show JC rows L (zfc st) (zgy (numG rows 1) st.M) (i + 1) ((i32s st.out).set st.P.length [PV.int .i32 c])
          rw [e2]
          exact this
        | none =>
          have he : zd1 rows st L[i.toNat] = cApp (numG rows 1) st L[i.toNat] := by
            unfold zd1; rw [hs]; simp only; rw [if_pos hfree, hpc]
          refine ⟨_, rfl, rfl, _, rfl, _, rfl, _, rfl, _, rfl, iteF (by simp) (iteD (fun h0 => ?_) (fun h0 => ?_))⟩
          · exact ⟨hsz, rfl, app0 he (by simpa using h0), by dsimp only; omega⟩
          · exact ⟨hsz, rfl, app1 he (by simpa using h0), by dsimp only; omega⟩
    · simp only [Bool.and_eq_true, decide_eq_true_eq, Bool.or_eq_true, beq_iff_eq, bne_iff_ne, ne_eq, ge_iff_le] at hf
      have he : zd1 rows st L[i.toNat] = cApp (numG rows 1) st L[i.toNat] := by
        rcases zfa rows st L[i.toNat] with e | ⟨a, c, hs, hpc, hfree, e⟩
        · exact e
        · have hsi : zfc st = st.P.length := by simp [zfc, hs]
          have hol : st.out.length = st.P.length + 1 + st.M.length := by simp [CSt.out, hs]; omega
          have hw2 : IntKind.i64.wrap ((i32s st.out).length - 1) = st.out.length - 1 := by rw [hl]; exact zaa (by omega) (by omega)
          refine absurd ⟨by omega, ?_⟩ hf
          by_cases hM : st.M = []
          · left; rw [hw2, hsi, hol, hM]; simp
          · right
            obtain ⟨m, hm, e⟩ := zno (key := numG rows 1) hM
            exact ⟨by rw [e]; exact hnz m hm, hfree.elim (fun e => absurd e hM) id⟩
      refine iteD (fun h0 => ?_) (fun h0 => ?_)
      · exact ⟨hsz, rfl, app0 he (by simpa using h0), by dsimp only; omega⟩
      · exact ⟨hsz, rfl, app1 he (by simpa using h0), by dsimp only; omega⟩
  · simp only [decide_eq_true_eq, zac] at hc
    rw [List.take_of_length_le (by omega)]
    exact ⟨_, _, rfl⟩
theorem qNFC (hp : za0 rows) (h1 : zdj rows) (hk : zfl rows) (hv : zim rows v) (n f : Bool) (L : List Int) (hr : R32 L) (hL : L.length < 1000000) : PCall Try.prog 35 [v, .sl n f (i32s L)] fun x => ∃ n f, x = .sl n f (i32s (nfcL rows L)) := by
  have hv' := hv
  obtain ⟨tc, tg, tj, tf, tp, made, sec, rfl, ht, hm⟩ := hv
  refine zqa _ _ _ _ _ _ _ _ _ _ ?_; unfold zgq
  refine (qNFD hp hk hv' n f L hr hL).mono ?_
  rintro _ ⟨n1, f1, rfl⟩
  refine ⟨_, _, _, rfl, ?_⟩
  refine (zyj hp h1 hv' _ _ _ (znk hk hp hr) (zr6 hk hL)).mono ?_
  rintro _ ⟨n2, f2, rfl⟩
  exact ⟨_, _, _, rfl, _, _, rfl⟩
theorem z28 (hk : zfl rows) (l : List Int) : (nfcL rows l).length ≤ 768 * l.length := Nat.le_trans (znm rows _) (zk6 hk l)
end
theorem awake7 : PCall Try.prog 36 [] fun v => v = .bool true := by
  refine zid ?_; unfold zc1
  refine p42.mono ?_
  rintro _ ⟨n, f, rfl⟩
  refine ⟨_, _, _, rfl, ?_⟩
  refine (zkf n f).mono fun t ht => ?_
  have nf : ∀ (l m : List Int), l.length < 10 → R32 l → nfcL tab l = m → PCall Try.prog 35 [t, .sl false true (i32s l)] fun x => ∃ n f, x = .sl n f (i32s m) := fun l m h1 h2 e => by
    subst e; exact qNFC zam zp6 zap ht _ _ l h2 (by omega)
  have sm : ∀ (n f : Bool) (l : List Int), l.length < 10 → PCall Try.prog 24 [.sl n f (i32s l), .sl false true (i32s l)] fun x => x = .bool true := fun n f l h => (zp7 n f false true l l (by omega)).mono fun x hx => by rw [hx]; simp
  refine (nf [115, 775, 803] _ (by simp) (fun x hx => by simp at hx; omega) c1').mono ?_
  rintro _ ⟨n1, f1, rfl⟩
  refine ⟨_, _, _, rfl, ?_⟩
  refine (sm _ _ [7785] (by simp)).mono ?_
  rintro _ rfl
  refine ⟨_, rfl, iteT rfl ?_⟩
  refine (nf [97, 824, 769] _ (by simp) (fun x hx => by simp at hx; omega) c2').mono ?_
  rintro _ ⟨n2, f2, rfl⟩
  refine ⟨_, _, _, rfl, ?_⟩
  refine (sm _ _ [225, 824] (by simp)).mono ?_
  rintro _ rfl
  refine ⟨_, rfl, iteT rfl ?_⟩
  refine (nf [4352, 4449, 4520] _ (by simp) (fun x hx => by simp at hx; omega) c3').mono ?_
  rintro _ ⟨n3, f3, rfl⟩
  refine ⟨_, _, _, rfl, ?_⟩
  refine (sm _ _ [44033] (by simp)).mono ?_
  rintro _ rfl
  exact ⟨_, rfl, rfl⟩
end Go.Eng


namespace Go.Eng
open Go Go.Proofs Go.Eng.Rows Go.Eng.Trie Go.Eng.Srt
theorem v22 : Try.prog.underlying 22 = some (.slice 21) := by kernel_rfl
theorem v21 : Try.prog.underlying 21 = some (.int .i32) := by kernel_rfl
theorem zsb {v : PV} (h : zmw Try.prog 8 22 v) : ∃ nl l, v = .sl nl false (i32s l) ∧ R32 l := by
  obtain ⟨nl, l, e, hl, _, hr⟩ := zoq v22 v21 (zli (by kernel_rfl) h)
  cases e
  exact ⟨nl, l, rfl, hr⟩
theorem zqb (n f n0 f0 : Bool) (a b : List Int) (ha : R32 a) (hb : R32 b) : PCall Try.prog 12 [.sl n f (i32s a), .sl n0 f0 (i32s b)] fun v => v = .bool true := by
  refine zfb _ _ _ _ _ _ ?_; unfold zbl
  refine (pFew n f a 100 (by omega)).mono ?_
  rintro _ ⟨n1, f1, rfl⟩
  refine ⟨_, _, _, rfl, ?_⟩
  refine (pFew n0 f0 b 100 (by omega)).mono ?_
  rintro _ ⟨n2, f2, rfl⟩
  refine ⟨_, _, _, rfl, ?_⟩
  refine p42.mono ?_
  rintro _ ⟨n3, f3, rfl⟩
  refine ⟨_, _, _, rfl, ?_⟩
  refine (zkf n3 f3).mono fun t ht => ?_
  have la : (a.take 100).length ≤ 100 := by rw [List.length_take]; omega
  have lb : (b.take 100).length ≤ 100 := by rw [List.length_take]; omega
  have ra := ha.take 100
  have rb := hb.take 100
  generalize a.take 100 = a at *
  generalize b.take 100 = b at *
  have ln := z28 zap a
  refine (qNFC zam zp6 zap ht _ _ a ra (by omega)).mono ?_
  rintro _ ⟨n4, f4, rfl⟩
  refine ⟨_, _, _, rfl, ?_⟩
  refine (qNFC zam zp6 zap ht _ _ b rb (by omega)).mono ?_
  rintro _ ⟨n5, f5, rfl⟩
  refine ⟨_, _, _, rfl, ?_⟩
  refine (zp7 _ _ _ _ _ _ (by omega)).mono ?_
  rintro _ rfl
  refine ⟨_, rfl, ?_⟩
  refine (zye zam zap _ _ _ _ _ _ zhv a b ra rb (by omega) (by omega)).mono ?_
  rintro _ rfl
  refine ⟨_, rfl, iteT (by simp only [z30 z4p, beq_self_eq_true]) ?_⟩
  refine awake7.mono ?_
  rintro _ rfl
  exact ⟨_, rfl, rfl⟩
theorem lawComposeEqual {pvs : List PV} (h : zbs Try.prog 8 Try.f12.params.toList pvs) : PCall Try.prog 12 pvs fun v => v = .bool true := by
  obtain ⟨v0, r0, rfl, h0, v1, r1, rfl, h1, rfl⟩ : zbs Try.prog 8 [22, 22] pvs := h
  obtain ⟨nl, l, rfl, hr⟩ := zsb h0
  obtain ⟨nl1, l1, rfl, hr1⟩ := zsb h1
  exact zqb _ _ _ _ l l1 hr hr1
end Go.Eng


