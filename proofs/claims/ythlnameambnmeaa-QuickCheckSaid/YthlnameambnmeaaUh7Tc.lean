/- Abstract states run over the code; what each function gives, printed by program and checked by the kernel; and what follows of it. -/
import Derived.Test.YthlnameambnmeaaUh7Tb
set_option linter.unusedVariables false
set_option linter.unusedSimpArgs false
set_option maxRecDepth 100000
set_option linter.constructorNameAsVariable false
namespace Go.Eng
open Go Go.Proofs Go.Eng.Trie
def encF (v : (Bool × Bool × Bool × Bool)) : List PV := [.bool v.1, .bool v.2.1, .bool v.2.2.1, .bool v.2.2.2]
theorem EF : Enc Try.prog [4, 4, 4, 4] encF := ⟨fun a => by
  simp only [encF, keyCs, Bool.and_true]
  rw [show Try.prog.underlying 4 = some (.bool) by kernel_rfl]
  rfl, fun a b => by
  obtain ⟨a0, a1, a2, a3⟩ := a
  obtain ⟨b0, b1, b2, b3⟩ := b
  simp only [encF, eqPVs, eqPV, Bool.and_true]
  rw [Bool.eq_iff_iff]
  simp⟩
def pcF (p : Pc (Bool × Bool × Bool × Bool)) : List PV := [.int .i64 p.fr, .int .i64 p.to] ++ encF p.v
def pcsF (l : List (Pc (Bool × Bool × Bool × Bool))) : List (List PV) := l.map pcF
theorem pcF_len (p : Pc (Bool × Bool × Bool × Bool)) : (pcF p).length = 6 := rfl
theorem pcsF_len (l : List (Pc (Bool × Bool × Bool × Bool))) : (pcsF l).length = l.length := by simp [pcsF]
theorem p142 (n f : Bool) (l : List (Pc (Bool × Bool × Bool × Bool))) (z : (Bool × Bool × Bool × Bool)) (i last : Int) (hl : l.length < 4611686018427387904) (hok : ∀ p ∈ l, -9223372036854775808 ≤ p.fr - 1 ∧ p.fr - 1 ≤ 9223372036854775807) :
    PCall Try.prog 96 [.sl n f (pcsF l), .agg (encF z), .int .i64 i, .int .i64 last] fun v => v = .tup [.agg (encF (findL l z i last).1), .int .i64 (findL l z i last).2] := by
  refine a_trie_find_ucd_flags _ _ _ z.1 z.2.1 z.2.2.1 z.2.2.2 _ _ (fun a k _ _ _ _ => 0 ≤ k ∧ k ≤ l.length ∧ findL l z i last = findL (l.drop k.toNat) z i a) (fun _ k _ _ _ _ => l.length - k.toNat) ?_
  unfold r_trie_find_ucd_flags
  refine ⟨⟨rfl, Int.le_refl _, by omega, rfl⟩, ?_⟩
  rintro a k _ _ _ _ ⟨k0, k1, he⟩
  refine iteD (fun hc => ?_) (fun hc => ?_)
  · simp only [decide_eq_true_eq, pcsF_len] at hc
    have hk : k.toNat < l.length := by omega
    have hw : IntKind.i64.wrap (k + 1) = k + 1 := wrap_i64 (by omega) (by omega)
    have hn : (k + 1).toNat = k.toNat + 1 := by omega
    have hg : (pcsF l).getD k.toNat [] = pcF l[k.toNat] := getD_map hk
    have hix : idxOK (pcsF l) k 6 := idxOK_map pcF_len k0 (by omega)
    have hm := hok _ (List.getElem_mem hk)
    rw [drop_cons hk] at he
    rw [hw]
    dsimp only
    rw [hn]
    have hmu : l.length - (k.toNat + 1) < l.length - k.toNat := by omega
    refine ⟨hix, l[k.toNat].fr, by rw [hg]; rfl, l[k.toNat].to, by rw [hg]; rfl, l[k.toNat].v.1, by rw [hg]; rfl, l[k.toNat].v.2.1, by rw [hg]; rfl, l[k.toNat].v.2.2.1, by rw [hg]; rfl, l[k.toNat].v.2.2.2, by rw [hg]; rfl, ?_⟩
    generalize l[k.toNat] = p at *
    have hw2 : IntKind.i64.wrap (p.fr - 1) = p.fr - 1 := wrap_i64 hm.1 hm.2
    rw [hw2]
    rw [findL_cons] at he
    by_cases h1 : p.fr ≤ i
    · refine iteT (by simpa using h1) ?_
      by_cases h2 : i ≤ p.to
      · refine iteT (by simpa using h2) ?_
        rw [if_pos ⟨h1, h2⟩] at he
        rw [he]
        repeat' (first | rfl | apply And.intro)
      · refine iteF (by simpa using h2) ?_
        rw [if_neg (by omega), if_neg (by omega)] at he
        refine iteF (by simp; omega) ?_
        exact ⟨rfl, ⟨by omega, by omega, he⟩, hmu⟩
    · refine iteF (by simpa using h1) ?_
      rw [if_neg (by omega)] at he
      refine iteT (by simp; omega) ?_
      by_cases h3 : p.fr ≤ a
      · refine iteT (by simpa using h3) ?_
        rw [if_pos (by omega)] at he
        exact ⟨rfl, ⟨by omega, by omega, he⟩, hmu⟩
      · refine iteF (by simpa using h3) ?_
        rw [if_neg (by omega)] at he
        exact ⟨rfl, ⟨by omega, by omega, he⟩, hmu⟩
  · simp only [decide_eq_true_eq, pcsF_len] at hc
    rw [List.drop_of_length_le (by omega)] at he
    rw [he]; rfl
/-- A trie. -/
def TrieF (sz : Int) (F : Int → (Bool × Bool × Bool × Bool)) (v : PV) : Prop := ∃ n f n2 f2 idx blk, v = .ptr [.int .i64 sz, .sl n f (ixs idx), .sl n2 f2 (bks encF blk)] ∧ TOK sz F idx blk
theorem p111 {sz : Int} {F : Int → (Bool × Bool × Bool × Bool)} {t : PV} (ht : TrieF sz F t) (i : Int) (h1 : sz ≤ 1114112) : PCall Try.prog 82 [t, .int .i64 i] fun v => v = .agg (encF (if 0 ≤ i ∧ i < sz then F i else (false, false, false, false))) := by
  obtain ⟨n, f, n2, f2, idx, blk, rfl, ht⟩ := ht
  refine a_trie_Trie_ucd_flags_Get _ _ _ _ _ _ _ _ ?_
  unfold r_trie_Trie_ucd_flags_Get
  refine iteD (fun hc => ?_) (fun hc => ?_)
  · simp only [decide_eq_true_eq] at hc
    rw [if_neg (by omega)]; rfl
  · simp only [decide_eq_true_eq] at hc
    refine ⟨_, rfl, ?_⟩
    refine iteD (fun hc2 => ?_) (fun hc2 => ?_)
    · simp only [decide_eq_true_eq, ge_iff_le] at hc2
      rw [if_neg (by omega)]; rfl
    · simp only [decide_eq_true_eq, ge_iff_le] at hc2
      rw [if_pos (by omega)]
      obtain ⟨hq, g0, hk, hj, he⟩ := ht.get (i := i) (by omega) (by omega)
      have hw : IntKind.i64.wrap (i.tdiv 128) = i / 128 := by rw [Int.tdiv_eq_ediv_of_nonneg (by omega)]; exact wrap_i64 (by omega) (by omega)
      have hm : i.tmod 128 = i % 128 := Int.tmod_eq_emod_of_nonneg (by omega)
      have hg : (ixs idx).getD (i / 128).toNat [] = [.int .i64 idx[(i / 128).toNat]] := getD_map hq
      have hg2 : (bks encF blk).getD idx[(i / 128).toNat].toNat [] = cells encF blk[idx[(i / 128).toNat].toNat] := getD_map hk
      refine ⟨_, _, _, rfl, _, _, _, rfl, ?_⟩
      rw [hw]
      have := EF.at _ _ hj
      simp only [List.length_cons, List.length_nil, Nat.zero_add, Nat.reduceAdd] at this
      have hcell : List.drop ((i % 128).toNat * 4) ((bks encF blk).getD idx[(i / 128).toNat].toNat []) = encF (F i) ++ (List.drop ((i % 128).toNat + 1) (blk[idx[(i / 128).toNat].toNat]).1).flatMap encF := by
        rw [hg2]; unfold cells; rw [this, he]
      refine ⟨idxOK_map enc1_len (by omega) (by omega), idx[(i / 128).toNat], by rw [hg]; rfl, idxOK_map (EF.cells_len) g0 (by omega), by rw [hm]; omega, ?_⟩
      rw [hm, hcell]
      exact ⟨(F i).1, rfl, (F i).2.1, rfl, (F i).2.2.1, rfl, (F i).2.2.2, rfl, rfl⟩
def cF (b : Blk (Bool × Bool × Bool × Bool)) : List PV := cells encF b
def kvF (k : Int) : PV := .int .i64 k
def mkF (kn : List (Blk (Bool × Bool × Bool × Bool) × Int)) : List (PV × PV) := encM (fun b => .agg (cF b)) kvF kn
def meF (ev : List ((Bool × Bool × Bool × Bool) × Int)) : List (PV × PV) := encM (fun v => .agg (encF v)) kvF ev
def hpF (sz : Int) (kn : List (Blk (Bool × Bool × Bool × Bool) × Int)) (ev : List ((Bool × Bool × Bool × Bool) × Int)) (ixm ixn bkm bkn : Bool) (idx : List Int) (blk : List (Blk (Bool × Bool × Bool × Bool))) : Hp :=
  [.box [.box 1 0, .mp 2, .mp 3], .box [.pv (.int .i64 sz), .own 4, .own 5], .mp (mkF kn), .mp (meF ev), .sl (3, 1) ixm ixn (ixs idx), .sl (156, 512) bkm bkn (bks encF blk)]
theorem cF_len (b : Blk (Bool × Bool × Bool × Bool)) : (cF b).length = 512 := EF.cells_len b
theorem cF_all (b : Blk (Bool × Bool × Bool × Bool)) : List.take 512 (List.drop 0 (cF b)) = cF b := by rw [List.drop_zero, List.take_of_length_le (by rw [cF_len]; omega)]
theorem fk241 : flatKey Try.prog 156 = true := by kernel_rfl
theorem ck241 : cellKs Try.prog 156 = (List.replicate 128 [4, 4, 4, 4]).flatten := by kernel_rfl
theorem fk172 : flatKey Try.prog 99 = true := by kernel_rfl
theorem ck172 : cellKs Try.prog 99 = [4, 4, 4, 4] := by kernel_rfl
theorem getF (b : Blk (Bool × Bool × Bool × Bool)) (kn : List (Blk (Bool × Bool × Bool × Bool) × Int)) : mapGet (.agg (cF b)) (mkF kn) = (aget b kn).map kvF := mapGet_enc (ek := fun b => PV.agg (cF b)) (ev := kvF) EF.blkEq b kn
theorem setF (b : Blk (Bool × Bool × Bool × Bool)) (k : Int) (kn : List (Blk (Bool × Bool × Bool × Bool) × Int)) : mapSet (.agg (cF b)) (kvF k) (mkF kn) = mkF (aset b k kn) := mapSet_enc (ek := fun b => PV.agg (cF b)) (ev := kvF) EF.blkEq b k kn
theorem okBF (b : Blk (Bool × Bool × Bool × Bool)) : keyOk Try.prog 156 (.agg (cF b)) = true := EF.blkOk fk241 ck241 b
theorem oksBF (kn : List (Blk (Bool × Bool × Bool × Bool) × Int)) : keysOk Try.prog 156 (mkF kn) := EF.blksOk fk241 ck241 kn
theorem p144 {sz : Int} {F : Int → (Bool × Bool × Bool × Bool)} {idx : List Int} {blk : List (Blk (Bool × Bool × Bool × Bool))} {kn : List (Blk (Bool × Bool × Bool × Bool) × Int)} {ev : List ((Bool × Bool × Bool × Bool) × Int)} (hk : TInv sz F idx blk kn ev) (hb : blk.length ≤ 10000000) (ixn bkn : Bool) (b : Blk (Bool × Bool × Bool × Bool)) :
    ACall Try.prog 98 [.box 0 0, .pv (.agg (cF b))] (hpF sz kn ev false ixn false bkn idx blk) fun r h' => ∃ k kn' bn' blk', r = .pv (kvF k) ∧ h' = hpF sz kn' ev false ixn true bn' idx blk' ∧ TInv sz F idx blk' kn' ev ∧ 0 ≤ k ∧ blk'[k.toNat]? = some b ∧ blk'.length ≤ blk.length + 1 := by
  refine ACall.mark 1000 [5] (R := fun r h' => ∃ k kn' bm' bn' blk', r = .pv (kvF k) ∧ h' = hpF sz kn' ev false ixn bm' bn' idx blk' ∧ TInv sz F idx blk' kn' ev ∧ 0 ≤ k ∧ blk'[k.toNat]? = some b ∧ blk'.length ≤ blk.length + 1) ?_ ?_
  · refine a_trie_maker_ucd_flags_place _ _ _ _ _ _ _ _ _ _ ?_
    unfold r_trie_maker_ucd_flags_place
    rw [cF_all, getF]
    have h128 : 512 ≤ (List.drop 0 (cF b)).length := by rw [List.drop_zero, cF_len]; omega
    refine ⟨h128, oksBF kn, okBF b, fun v hv => ?_, fun hv => ?_⟩
    · cases hg : aget b kn with
      | none => rw [hg] at hv; cases hv
      | some k =>
        rw [hg] at hv; cases hv
        obtain ⟨k0, k1⟩ := hk.kn_ok b k hg
        exact ⟨k, rfl, k, kn, false, bkn, blk, rfl, rfl, hk, k0, k1, by omega⟩
    · have hsz : szOK [cF b] 512 ∧ ((bks encF blk).length + 1) * 512 ≤ 140737488355328 := ⟨fun e he => by simp at he; subst he; exact cF_len b, by rw [bks_len]; omega⟩
      have fin : ∃ k kn' bm' bn' blk', LV.pv (.int .i64 ((bks encF blk).length : Int)) = .pv (kvF k) ∧
          [Ob.box [.box 1 0, .mp 2, .mp 3], .box [.pv (.int .i64 sz), .own 4, .own 5], .mp (mapSet (.agg (cF b)) (.int .i64 ((bks encF blk).length : Int)) (mkF kn)), .mp (meF ev), .sl (3, 1) false ixn (ixs idx), .sl (156, 512) true (bkn && false) (bks encF blk ++ [cF b])] = hpF sz kn' ev false ixn bm' bn' idx blk' ∧ TInv sz F idx blk' kn' ev ∧ 0 ≤ k ∧ blk'[k.toNat]? = some b ∧ blk'.length ≤ blk.length + 1 := by
        refine ⟨blk.length, aset b (blk.length : Int) kn, true, bkn && false, blk ++ [b], by rw [bks_len]; rfl, ?_, hk.place b, by omega, by simp, by simp⟩
        have := setF b (blk.length : Int) kn
        unfold kvF at this
        rw [bks_len, this]
        simp [hpF, bks, cF]
      exact ⟨h128, oksBF kn, okBF b, h128, ⟨cF_len b, hsz, fin⟩, cF_len b, ⟨hsz, fin⟩, hsz, fin⟩
  · rintro r h' ⟨k, kn', bm', bn', blk', rfl, rfl, h1, h2, h3, h4⟩
    exact ⟨k, kn', bn', blk', rfl, rfl, h1, h2, h3, h4⟩
theorem getEF (v : (Bool × Bool × Bool × Bool)) (ev : List ((Bool × Bool × Bool × Bool) × Int)) : mapGet (.agg (encF v)) (meF ev) = (aget v ev).map kvF := mapGet_enc (ek := fun v => PV.agg (encF v)) (ev := kvF) EF.valEq v ev
theorem setEF (v : (Bool × Bool × Bool × Bool)) (k : Int) (ev : List ((Bool × Bool × Bool × Bool) × Int)) : mapSet (.agg (encF v)) (kvF k) (meF ev) = meF (aset v k ev) := mapSet_enc (ek := fun v => PV.agg (encF v)) (ev := kvF) EF.valEq v k ev
theorem okEF (v : (Bool × Bool × Bool × Bool)) : keyOk Try.prog 99 (.agg (encF v)) = true := EF.valOk fk172 ck172 v
theorem oksEF (ev : List ((Bool × Bool × Bool × Bool) × Int)) : keysOk Try.prog 99 (meF ev) := EF.valsOk fk172 ck172 ev
theorem putF (l : List (Bool × Bool × Bool × Bool)) (j : Nat) (hj : j < l.length) (v : (Bool × Bool × Bool × Bool)) : spl (l.flatMap encF) (0 + j * 4) (encF v) = (l.set j v).flatMap encF := by
  have := EF.put l j hj v
  simp only [List.length_cons, List.length_nil, Nat.zero_add, Nat.reduceAdd] at this ⊢
  exact this
theorem flenF (l : List (Bool × Bool × Bool × Bool)) : (l.flatMap encF).length = l.length * 4 := EF.flen l
theorem zerosF : List.replicate 512 (PV.bool false) = (List.replicate 128 ((false, false, false, false) : (Bool × Bool × Bool × Bool))).flatMap encF := by rfl
theorem rep_ofF {l : List (Bool × Bool × Bool × Bool)} {v : (Bool × Bool × Bool × Bool)} (hl : l.length = 128) (h : ∀ q, q < 128 → l[q]? = some v) : l = List.replicate 128 v := by
  refine List.ext_getElem? fun q => ?_
  rcases Nat.lt_or_ge q 128 with hq | hq
  · rw [h q hq, List.getElem?_replicate, if_pos hq]
  · rw [List.getElem?_eq_none (by omega), List.getElem?_eq_none (by simp; omega)]
theorem p143 {sz : Int} {F : Int → (Bool × Bool × Bool × Bool)} {idx : List Int} {blk : List (Blk (Bool × Bool × Bool × Bool))} {kn : List (Blk (Bool × Bool × Bool × Bool) × Int)} {ev : List ((Bool × Bool × Bool × Bool) × Int)} (hk : TInv sz F idx blk kn ev) (hb : blk.length ≤ 10000000) (ixn bkn : Bool) (v : (Bool × Bool × Bool × Bool)) :
    ACall Try.prog 97 [.box 0 0, .pv (.agg (encF v))] (hpF sz kn ev false ixn false bkn idx blk) fun r h' => ∃ k kn' ev' bn' blk', r = .pv (kvF k) ∧ h' = hpF sz kn' ev' false ixn true bn' idx blk' ∧ TInv sz F idx blk' kn' ev' ∧ 0 ≤ k ∧ blk'[k.toNat]? = some (rep v) ∧ blk'.length ≤ blk.length + 1 := by
  refine ACall.mark 1000 [5] (R := fun r h' => ∃ k kn' ev' bm' bn' blk', r = .pv (kvF k) ∧ h' = hpF sz kn' ev' false ixn bm' bn' idx blk' ∧ TInv sz F idx blk' kn' ev' ∧ 0 ≤ k ∧ blk'[k.toNat]? = some (rep v) ∧ blk'.length ≤ blk.length + 1) ?_ ?_
  · refine a_trie_maker_ucd_flags_plain _ _ _ _ _ _ _ _ _ v.1 v.2.1 v.2.2.1 v.2.2.2 (fun x m2 m3 c => 0 ≤ x ∧ x ≤ 128 ∧ m2 = mkF kn ∧ m3 = meF ev ∧ ∃ l : List (Bool × Bool × Bool × Bool), l.length = 128 ∧ c = l.flatMap encF ∧ ∀ q, q < x.toNat → l[q]? = some v) (fun x _ _ _ => 128 - x.toNat) ?_
    unfold r_trie_maker_ucd_flags_plain
    rw [show [.bool v.1, .bool v.2.1, .bool v.2.2.1, .bool v.2.2.2] = encF v from rfl, getEF]
    refine ⟨oksEF ev, okEF v, fun u hu => ?_, fun hu => ⟨⟨rfl, Int.le_refl _, by omega, rfl, rfl, List.replicate 128 (false, false, false, false), by simp, zerosF, fun q hq => by simp at hq⟩, ?_⟩⟩
    · cases hg : aget v ev with
      | none => rw [hg] at hu; cases hu
      | some k =>
        rw [hg] at hu; cases hu
        obtain ⟨k0, k1⟩ := hk.ev_ok v k hg
        exact ⟨k, rfl, k, kn, ev, false, bkn, blk, rfl, rfl, hk, k0, k1, by omega⟩
    · rintro x _ _ _ ⟨x0, x1, rfl, rfl, l, hl, rfl, hq⟩
      refine iteD (fun hc => ?_) (fun hc => ?_)
      · simp only [decide_eq_true_eq] at hc
        have hw : IntKind.i64.wrap (x + 1) = x + 1 := wrap_i64 (by omega) (by omega)
        have hn : (x + 1).toNat = x.toNat + 1 := by omega
        rw [putF l x.toNat (by omega) v, hw, flenF]
        refine ⟨⟨x0, hc⟩, ⟨rfl, by omega⟩, rfl, ⟨by omega, by omega, rfl, rfl, l.set x.toNat v, by simpa using hl, rfl, fun q hq' => ?_⟩, by dsimp only; omega⟩
        rw [hn] at hq'
        rw [List.getElem?_set]
        by_cases e : x.toNat = q
        · rw [if_pos e, if_pos (by omega)]
        · rw [if_neg e]; exact hq q (by omega)
      · simp only [decide_eq_true_eq] at hc
        have hx : x = 128 := by omega
        subst hx
        have hrep := rep_ofF hl hq
        subst hrep
        have hcI : (List.replicate 128 v).flatMap encF = cF (rep v) := rfl
        rw [hcI, cF_all]
        refine ⟨by rw [List.drop_zero, cF_len]; omega, ?_⟩
        refine (p144 hk hb ixn bkn (rep v)).mono ?_
        rintro _ _ ⟨k, kn', bn', blk', rfl, rfl, h1, h2, h3, h4⟩
        refine ⟨(k, mkF kn', bn', bks encF blk'), ⟨rfl, rfl⟩, ⟨trivial, ⟨rfl, rfl, rfl⟩, trivial, trivial, trivial, trivial, trivial⟩, oksEF ev, okEF v, ?_⟩
        have := setEF v k ev
        unfold kvF at this
        simp only [this]
        exact ⟨k, kn', aset v k ev, _, bn', blk', rfl, rfl, h1.even h2 h3, h2, h3, h4⟩
  · rintro r h' ⟨k, kn', ev', bm', bn', blk', rfl, rfl, h1, h2, h3, h4⟩
    exact ⟨k, kn', ev', bn', blk', rfl, rfl, h1, h2, h3, h4⟩
theorem rep_getF {v : (Bool × Bool × Bool × Bool)} {j : Nat} {u : (Bool × Bool × Bool × Bool)} (h : (Trie.rep v).1[j]? = some u) : u = v ∧ j < 128 := by
  simp only [Trie.rep, List.getElem?_replicate] at h
  split at h
  · rename_i hj; cases h; exact ⟨rfl, hj⟩
  · cases h
theorem p106 (sz : Int) (z : (Bool × Bool × Bool × Bool)) (n f : Bool) (l : List (Pc (Bool × Bool × Bool × Bool))) (hl : l.length < 4611686018427387904) (hok : ∀ p ∈ l, -9223372036854775808 ≤ p.fr - 1 ∧ p.fr - 1 ≤ 9223372036854775807) (hs1 : 1 ≤ sz) (hs2 : sz ≤ 1114112) :
    PCall Try.prog 73 [.int .i64 sz, .agg (encF z), .sl n f (pcsF l)] fun v => TrieF sz (valL l z) v := by
  have hF := fun i => findL_ok l z i (sz - 1)
  generalize hFF : valL l z = F at *
  refine a_trie_Build_ucd_flags _ z.1 z.2.1 z.2.2.1 z.2.2.2 _ _ _
    (fun x10 x11 va vb vc vd _ s2 _ s3 m4 m5 => ∃ idx blk kn ev, s2 = ixs idx ∧ s3 = bks encF blk ∧ m4 = mkF kn ∧ m5 = meF ev ∧ TInv sz F idx blk kn ev ∧ x11 = 128 * idx.length ∧ blk.length ≤ idx.length ∧ x11 < sz + 128 ∧ (∀ j, x11 ≤ j → j ≤ x10 → F j = (va, vb, vc, vd)) ∧ x10 ≤ sz - 1)
    (fun _ x11 _ _ _ _ _ _ _ _ _ _ => (sz + 128 - x11).toNat)
    (fun _ y11 _ _ _ _ _ _ _ _ _ _ _ x10 x11 x13 va vb vc vd _ s2 _ s3 m4 m5 => ∃ idx blk kn ev, s2 = ixs idx ∧ s3 = bks encF blk ∧ m4 = mkF kn ∧ m5 = meF ev ∧ TInv sz F idx blk kn ev ∧ x11 = 128 * idx.length ∧ x11 < sz + 128 ∧ (∀ j, x11 ≤ j → j ≤ x10 → F j = (va, vb, vc, vd)) ∧ x10 ≤ sz - 1 ∧ 0 ≤ x13 ∧ blk[x13.toNat]? = some (rep (va, vb, vc, vd)) ∧
      ((x11 = y11 ∧ x11 < sz ∧ (x11 + 127 ≤ x10 ∨ sz - 1 ≤ x10) ∧ blk.length ≤ idx.length + 1) ∨ (y11 + 128 ≤ x11 ∧ blk.length ≤ idx.length)))
    (fun _ x11 _ _ _ _ _ _ _ _ _ _ _ => (sz + 128 - x11).toNat)
    (fun _ y11 _ _ _ _ _ _ _ _ _ _ _ _ x10 x11 x va vb vc vd c _ s3 _ s4 m5 m6 => ∃ idx blk kn ev, s3 = ixs idx ∧ s4 = bks encF blk ∧ m5 = mkF kn ∧ m6 = meF ev ∧ TInv sz F idx blk kn ev ∧ x11 = 128 * idx.length ∧ blk.length ≤ idx.length ∧ x11 = y11 ∧ x11 < sz ∧ 0 ≤ x ∧ x ≤ 128 ∧ x10 ≤ sz - 1 ∧ (∀ j, x11 + x ≤ j → j ≤ x10 → F j = (va, vb, vc, vd)) ∧
      ∃ b : List (Bool × Bool × Bool × Bool), b.length = 128 ∧ c = b.flatMap encF ∧ ∀ (q : Nat) u, b[q]? = some u → q < x.toNat → x11 + q < sz → u = F (x11 + q))
    (fun _ _ x _ _ _ _ _ _ _ _ _ _ _ => (128 - x).toNat) ?_
  unfold r_trie_Build_ucd_flags
  have hw1 : IntKind.i64.wrap (sz - 1) = sz - 1 := wrap_i64 (by omega) (by omega)
  rw [hw1]
  refine iteF (by simp; omega) ?_
  refine (p142 n f l z 0 (sz - 1) hl hok).mono ?_
  rintro _ rfl
  obtain ⟨_, f2, f3, f4⟩ := hF 0 (by omega)
  refine ⟨_, rfl, rfl, _, rfl, _, rfl, rfl, _, rfl, _, rfl, _, rfl, _, rfl, _, rfl, _, rfl, ⟨rfl, [], [], [], [], rfl, rfl, rfl, rfl, TInv.nil, rfl, Nat.le_refl _, by omega, f4, f3⟩, ?_⟩
  clear f2 f3 f4
  rintro u0 x v0a v0b v0c v0d _ _ _ _ _ _ ⟨idx, blk, kn, ev, rfl, rfl, rfl, rfl, hk, hx, hb, hx2, hv0, hu0⟩
  refine iteD (fun hc => ?_) (fun hc => ?_)
  · simp only [decide_eq_true_eq] at hc
    have hw2 : IntKind.i64.wrap (x + 128) = x + 128 := wrap_i64 (by omega) (by omega)
    rw [hw2]
    have hmin : ∀ a : Int, IntKind.i64.wrap ((if sz < a + 128 then sz else a + 128) - 1) = (if sz < a + 128 then sz else a + 128) - 1 ∨ ¬ (0 ≤ a ∧ a ≤ 1114112) := fun a => by
      by_cases ha : 0 ≤ a ∧ a ≤ 1114112
      · left; split <;> exact wrap_i64 (by omega) (by omega)
      · exact .inr ha
    have hmx := (hmin x).resolve_right (by omega)
    rw [hmx]
    refine iteD (fun hgt => ?ga) (fun hgt => ?gb)
    case' ga =>
      refine (p142 n f l z x (sz - 1) hl hok).mono ?_
      rintro _ rfl
      obtain ⟨_, hux, hu, hv⟩ := hF x (by omega)
      refine ⟨_, rfl, rfl, _, rfl, _, rfl, rfl, _, rfl, _, rfl, _, rfl, _, rfl, _, rfl, _, rfl, ?_⟩
      revert hv hu
      generalize (findL l z x (sz - 1)).1 = v
      generalize (findL l z x (sz - 1)).2 = u
      clear hv0 hu0 hux
      intro hu hv
    case' gb =>
      obtain ⟨v, rfl, rfl, rfl, rfl⟩ : ∃ v : (Bool × Bool × Bool × Bool), v.1 = v0a ∧ v.2.1 = v0b ∧ v.2.2.1 = v0c ∧ v.2.2.2 = v0d := ⟨(v0a, v0b, v0c, v0d), rfl, rfl, rfl, rfl⟩
      revert hv0 hu0 hgt
      generalize u0 = u
      intro hu hgt hv
    all_goals
      clear hgt
      refine iteD (fun hc2 => ?_) (fun hc2 => ?_)
      · simp only [decide_eq_true_eq, ge_iff_le] at hc2
        have hc3 : x + 127 ≤ u ∨ sz - 1 ≤ u := by split at hc2 <;> omega
        refine (p143 hk (by omega) _ _ v).mono ?_
        rintro _ _ ⟨k, kn', ev', bn', blk', rfl, rfl, g1, g2, g3, g4⟩
        refine ⟨(k, mkF kn', meF ev', bn', bks encF blk'), ⟨rfl, rfl⟩, ⟨trivial, ⟨rfl, rfl, rfl⟩, trivial, trivial, trivial, trivial, trivial⟩, ⟨rfl, idx, blk', kn', ev', rfl, rfl, rfl, rfl, g1, hx, hx2, hv, hu, g2, g3, .inl ⟨rfl, hc, hc3, by omega⟩⟩, ?_⟩
        rintro t y k' wa wb wc wd _ _ _ _ _ _ ⟨idx2, blk2, kn2, ev2, rfl, rfl, rfl, rfl, hk2, hy, hy2, hw, ht, hk0, hkb, hor⟩
        have hwy : IntKind.i64.wrap (y + 128) = y + 128 := wrap_i64 (by omega) (by omega)
        rw [hwy, (hmin y).resolve_right (by omega)]
        refine iteD (fun hc4 => ?_) (fun hc4 => ?_)
        · simp only [Bool.and_eq_true, decide_eq_true_eq, ge_iff_le] at hc4
          have hc5 : y + 127 ≤ t ∨ sz - 1 ≤ t := by have := hc4.2; split at this <;> omega
          refine ⟨⟨fun e he => by simp at he; subst he; rfl, by rw [ixs_len]; omega⟩, rfl, ⟨idx2 ++ [k'], blk2, kn2, ev2, by simp [ixs], rfl, rfl, rfl, hk2.push hk0 hkb fun j u' hj hlt => ?_, by simp; omega, by omega, fun j h1 h2 => hw j (by omega) h2, ht, hk0, hkb, .inr ⟨by omega, by simp; omega⟩⟩, by dsimp only; omega⟩
          obtain ⟨rfl, hj2⟩ := rep_getF hj
          exact (hw _ (by omega) (by omega)).symm
        · have hw128 : IntKind.i64.wrap (y - 128) = y - 128 := wrap_i64 (by omega) (by omega)
          have hback : IntKind.i64.wrap (y - 128 + 128) = y := by rw [wrap_i64 (by omega) (by omega)]; omega
          rw [hw128, hback]
          simp only [Bool.and_eq_true, decide_eq_true_eq, ge_iff_le, not_and] at hc4
          have hor2 : x + 128 ≤ y ∧ blk2.length ≤ idx2.length := by
            rcases hor with ⟨h1, h2, h3, h4⟩ | h
            · exfalso
              have := hc4 h2
              split at this <;> omega
            · exact h
          exact ⟨rfl, ⟨idx2, blk2, kn2, ev2, rfl, rfl, rfl, rfl, hk2, hy, hor2.2, hy2, hw, ht⟩, by dsimp only; omega⟩
      · clear hc2
        refine ⟨⟨rfl, idx, blk, kn, ev, rfl, rfl, rfl, rfl, hk, hx, hb, rfl, hc, Int.le_refl _, by omega, hu, fun j h1 h2 => hv j (by omega) h2, List.replicate 128 (false, false, false, false), by simp, zerosF, fun q u' _ hq _ => by simp at hq⟩, ?_⟩
        rintro t y i wa wb wc wd _ _ _ _ _ _ _ ⟨idx2, blk2, kn2, ev2, rfl, rfl, rfl, rfl, hk2, hy, hb2, hyx, hy2, i0, i1, ht, hw, b, hbl, rfl, hbq⟩
        obtain ⟨w, rfl, rfl, rfl, rfl⟩ : ∃ v : (Bool × Bool × Bool × Bool), v.1 = wa ∧ v.2.1 = wb ∧ v.2.2.1 = wc ∧ v.2.2.2 = wd := ⟨(wa, wb, wc, wd), rfl, rfl, rfl, rfl⟩
        have hwyi : IntKind.i64.wrap (y + i) = y + i := wrap_i64 (by omega) (by omega)
        have hwi : IntKind.i64.wrap (i + 1) = i + 1 := wrap_i64 (by omega) (by omega)
        have hwy : IntKind.i64.wrap (y + 128) = y + 128 := wrap_i64 (by omega) (by omega)
        rw [hwyi, hwi, hwy]
        have step : ∀ (v' : (Bool × Bool × Bool × Bool)) (u' : Int), (∀ j, y + i ≤ j → j ≤ u' → F j = v') → u' ≤ sz - 1 → (y + i < sz → F (y + i) = v') → i < 128 →
            ∃ idx blk kn ev, ixs idx2 = ixs idx ∧ bks encF blk2 = bks encF blk ∧ mkF kn2 = mkF kn ∧ meF ev2 = meF ev ∧ TInv sz F idx blk kn ev ∧ y = 128 * idx.length ∧ blk.length ≤ idx.length ∧ y = x ∧ y < sz ∧ 0 ≤ i + 1 ∧ i + 1 ≤ 128 ∧ u' ≤ sz - 1 ∧ (∀ j, y + (i + 1) ≤ j → j ≤ u' → F j = v') ∧
              ∃ c : List (Bool × Bool × Bool × Bool), c.length = 128 ∧ (b.set i.toNat v').flatMap encF = c.flatMap encF ∧ ∀ (q : Nat) u, c[q]? = some u → q < (i + 1).toNat → y + q < sz → u = F (y + q) := fun v' u' h1 h2 h3 h4 => by
          refine ⟨idx2, blk2, kn2, ev2, rfl, rfl, rfl, rfl, hk2, hy, hb2, hyx, hy2, by omega, by omega, h2, fun j a1 a2 => h1 j (by omega) a2, b.set i.toNat v', by simpa using hbl, rfl, fun q u hq hq2 hq3 => ?_⟩
          rw [List.getElem?_set] at hq
          by_cases e : i.toNat = q
          · rw [if_pos e, if_pos (by omega)] at hq
            cases hq
            have e2 : y + (q : Int) = y + i := by omega
            rw [e2]
            exact (h3 (by omega)).symm
          · rw [if_neg e] at hq
            exact hbq q u hq (by omega) hq3
        refine iteD (fun hc5 => ?_) (fun hc5 => ?_)
        · simp only [decide_eq_true_eq] at hc5
          refine iteD (fun hc6 => ?_) (fun hc6 => ?_)
          · simp only [Bool.and_eq_true, decide_eq_true_eq, gt_iff_lt] at hc6
            refine (p142 n f l z (y + i) (sz - 1) hl hok).mono ?_
            rintro _ rfl
            obtain ⟨q1, q2, q3, q4⟩ := hF (y + i) (by omega)
            refine ⟨_, rfl, rfl, _, rfl, _, rfl, rfl, _, rfl, _, rfl, _, rfl, _, rfl, _, rfl, _, rfl, ⟨i0, hc5⟩, ⟨rfl, by rw [flenF]; omega⟩, rfl, ?_, by dsimp only; omega⟩
            have hput := putF b i.toNat (by omega) (findL l z (y + i) (sz - 1)).1
            unfold encF at hput ⊢
            rw [hput]
            exact step _ _ q4 q3 (fun _ => q1.symm) hc5
          · simp only [Bool.and_eq_true, decide_eq_true_eq, gt_iff_lt, not_and] at hc6
            refine ⟨⟨i0, hc5⟩, ⟨rfl, by rw [flenF]; omega⟩, rfl, ?_, by dsimp only; omega⟩
            have hput := putF b i.toNat (by omega) w
            unfold encF at hput ⊢
            rw [hput]
            exact step _ _ hw ht (fun h => hw _ (Int.le_refl _) ((Int.lt_or_le t (y + i)).elim (fun h2 => absurd h (hc6 h2)) id)) hc5
        · simp only [decide_eq_true_eq] at hc5
          have hi : i = 128 := by omega
          subst hi
          obtain ⟨B, hB⟩ : ∃ B : Blk (Bool × Bool × Bool × Bool), B.1 = b := ⟨⟨b, hbl⟩, rfl⟩
          subst hB
          have hcI : B.1.flatMap encF = cF B := rfl
          rw [hcI, cF_all]
          refine ⟨by rw [List.drop_zero, cF_len]; omega, (fun h => ⟨h, h⟩) ?_⟩
          refine (p144 hk2 (by omega) _ _ B).mono ?_
          rintro _ _ ⟨k, kn', bn', blk', rfl, rfl, h1, h2, h3, h4⟩
          refine ⟨(k, mkF kn', bn', bks encF blk'), ⟨rfl, rfl⟩, ⟨trivial, ⟨rfl, rfl, rfl⟩, trivial, trivial, trivial, trivial, trivial⟩, ⟨fun e he => by simp at he; subst he; rfl, by rw [ixs_len]; omega⟩, rfl, ⟨idx2 ++ [k], blk', kn', ev2, by simp [ixs, kvF], rfl, rfl, rfl, h1.push h2 h3 fun j u' hj hlt => ?_, by simp; omega, by simp; omega, by omega, fun j a1 a2 => hw j (by omega) a2, ht⟩, by dsimp only; omega⟩
          have hj2 : j < 128 := by have := (List.getElem?_eq_some_iff.1 hj).1; simp only [hbl] at this; exact this
          rw [← hy]
          exact hbq j u' hj (by omega) (by omega)
  · simp only [decide_eq_true_eq] at hc
    exact ⟨_, _, _, _, idx, blk, rfl, by omega, hk.idx_ok⟩
end Go.Eng
set_option linter.unusedVariables false
set_option maxRecDepth 100000
set_option linter.constructorNameAsVariable false
namespace Go.Eng
open Go Go.Proofs
def r_trie_find_ucd_pair (n f : Bool) (es : List (List PV)) (za zb : Int) (i last : Int) (J : (Int) → (Int) → (Int) → (Int) → Prop) (μ : (Int) → (Int) → (Int) → (Int) → Nat) (R : PV → Prop) : Prop :=
 (Same1 ([(2, LV.pv (PV.int .i64 i)), (3, LV.pv (PV.int .i64 last)), (5, LV.box 0 0), (8, LV.box 1 0), (12, LV.pv (PV.sl n f es)), (13, LV.pv (PV.int .i64 (↑es.length : Int))), (14, LV.pv (PV.int .i64 (0 : Int)))], [Ob.box [LV.pv (PV.int
 .i32 za), LV.pv (PV.int .i32 zb)], Ob.box [LV.pv (PV.int .i32 (0 : Int)), LV.pv (PV.int .i32 (0 : Int))]]) ∧ J last (0 : Int) (0 : Int) (0 : Int)) ∧ ∀ (x3 x14 h1_0 h1_1 : Int), J x3 x14 h1_0 h1_1 → if decide (x14 < (↑es.length : Int)) =
 true then idxOK es x14 4 ∧ ∃ (n1 : Int), (es.getD x14.toNat []).head? = some (PV.int .i64 n1) ∧ ∃ (n2 : Int), (es.getD x14.toNat []).tail.head? = some (PV.int .i64 n2) ∧ ∃ (n3 : Int), (es.getD x14.toNat []).tail.tail.head? = some (PV.int
 .i32 n3) ∧ ∃ (n4 : Int), (es.getD x14.toNat []).tail.tail.tail.head? = some (PV.int .i32 n4) ∧ if decide (n1 ≤ i) = true then if decide (i ≤ n2) = true then (R (PV.tup [PV.agg [PV.int .i32 n3, PV.int .i32 n4], PV.int .i64 (if x3 < n2 then
 x3 else n2)]) ∧ R (PV.tup [PV.agg [PV.int .i32 n3, PV.int .i32 n4], PV.int .i64 (if x3 < n2 then x3 else n2)])) ∧ R (PV.tup [PV.agg [PV.int .i32 n3, PV.int .i32 n4], PV.int .i64 (if x3 < n2 then x3 else n2)]) else if decide (i < n1) = true
 then if decide (n1 ≤ x3) = true then Same1 ([(2, LV.pv (PV.int .i64 i)), (3, LV.pv (PV.int .i64 (IntKind.i64.wrap (n1 - (1 : Int))))), (5, LV.box 0 0), (8, LV.box 1 0), (12, LV.pv (PV.sl n f es)), (13, LV.pv (PV.int .i64 (↑es.length :
 Int))), (14, LV.pv (PV.int .i64 (IntKind.i64.wrap (x14 + (1 : Int)))))], [Ob.box [LV.pv (PV.int .i32 za), LV.pv (PV.int .i32 zb)], Ob.box [LV.pv (PV.int .i32 h1_0), LV.pv (PV.int .i32 h1_1)]]) ∧ J (IntKind.i64.wrap (n1 - (1 : Int)))
 (IntKind.i64.wrap (x14 + (1 : Int))) h1_0 h1_1 ∧ μ (IntKind.i64.wrap (n1 - (1 : Int))) (IntKind.i64.wrap (x14 + (1 : Int))) h1_0 h1_1 < μ x3 x14 h1_0 h1_1 else Same1 ([(2, LV.pv (PV.int .i64 i)), (3, LV.pv (PV.int .i64 x3)), (5, LV.box 0
 0), (8, LV.box 1 0), (12, LV.pv (PV.sl n f es)), (13, LV.pv (PV.int .i64 (↑es.length : Int))), (14, LV.pv (PV.int .i64 (IntKind.i64.wrap (x14 + (1 : Int)))))], [Ob.box [LV.pv (PV.int .i32 za), LV.pv (PV.int .i32 zb)], Ob.box [LV.pv (PV.int
 .i32 h1_0), LV.pv (PV.int .i32 h1_1)]]) ∧ J x3 (IntKind.i64.wrap (x14 + (1 : Int))) h1_0 h1_1 ∧ μ x3 (IntKind.i64.wrap (x14 + (1 : Int))) h1_0 h1_1 < μ x3 x14 h1_0 h1_1 else Same1 ([(2, LV.pv (PV.int .i64 i)), (3, LV.pv (PV.int .i64 x3)),
 (5, LV.box 0 0), (8, LV.box 1 0), (12, LV.pv (PV.sl n f es)), (13, LV.pv (PV.int .i64 (↑es.length : Int))), (14, LV.pv (PV.int .i64 (IntKind.i64.wrap (x14 + (1 : Int)))))], [Ob.box [LV.pv (PV.int .i32 za), LV.pv (PV.int .i32 zb)], Ob.box
 [LV.pv (PV.int .i32 h1_0), LV.pv (PV.int .i32 h1_1)]]) ∧ J x3 (IntKind.i64.wrap (x14 + (1 : Int))) h1_0 h1_1 ∧ μ x3 (IntKind.i64.wrap (x14 + (1 : Int))) h1_0 h1_1 < μ x3 x14 h1_0 h1_1 else if decide (i < n1) = true then if decide (n1 ≤ x3)
 = true then Same1 ([(2, LV.pv (PV.int .i64 i)), (3, LV.pv (PV.int .i64 (IntKind.i64.wrap (n1 - (1 : Int))))), (5, LV.box 0 0), (8, LV.box 1 0), (12, LV.pv (PV.sl n f es)), (13, LV.pv (PV.int .i64 (↑es.length : Int))), (14, LV.pv (PV.int
 .i64 (IntKind.i64.wrap (x14 + (1 : Int)))))], [Ob.box [LV.pv (PV.int .i32 za), LV.pv (PV.int .i32 zb)], Ob.box [LV.pv (PV.int .i32 h1_0), LV.pv (PV.int .i32 h1_1)]]) ∧ J (IntKind.i64.wrap (n1 - (1 : Int))) (IntKind.i64.wrap (x14 + (1 :
 Int))) h1_0 h1_1 ∧ μ (IntKind.i64.wrap (n1 - (1 : Int))) (IntKind.i64.wrap (x14 + (1 : Int))) h1_0 h1_1 < μ x3 x14 h1_0 h1_1 else Same1 ([(2, LV.pv (PV.int .i64 i)), (3, LV.pv (PV.int .i64 x3)), (5, LV.box 0 0), (8, LV.box 1 0), (12, LV.pv
 (PV.sl n f es)), (13, LV.pv (PV.int .i64 (↑es.length : Int))), (14, LV.pv (PV.int .i64 (IntKind.i64.wrap (x14 + (1 : Int)))))], [Ob.box [LV.pv (PV.int .i32 za), LV.pv (PV.int .i32 zb)], Ob.box [LV.pv (PV.int .i32 h1_0), LV.pv (PV.int .i32
 h1_1)]]) ∧ J x3 (IntKind.i64.wrap (x14 + (1 : Int))) h1_0 h1_1 ∧ μ x3 (IntKind.i64.wrap (x14 + (1 : Int))) h1_0 h1_1 < μ x3 x14 h1_0 h1_1 else Same1 ([(2, LV.pv (PV.int .i64 i)), (3, LV.pv (PV.int .i64 x3)), (5, LV.box 0 0), (8, LV.box 1
 0), (12, LV.pv (PV.sl n f es)), (13, LV.pv (PV.int .i64 (↑es.length : Int))), (14, LV.pv (PV.int .i64 (IntKind.i64.wrap (x14 + (1 : Int)))))], [Ob.box [LV.pv (PV.int .i32 za), LV.pv (PV.int .i32 zb)], Ob.box [LV.pv (PV.int .i32 h1_0), LV.pv
 (PV.int .i32 h1_1)]]) ∧ J x3 (IntKind.i64.wrap (x14 + (1 : Int))) h1_0 h1_1 ∧ μ x3 (IntKind.i64.wrap (x14 + (1 : Int))) h1_0 h1_1 < μ x3 x14 h1_0 h1_1 else R (PV.tup [PV.agg [PV.int .i32 za, PV.int .i32 zb], PV.int .i64 x3])
theorem e_trie_find_ucd_pair (n f : Bool) (es : List (List PV)) (za zb : Int) (i last : Int) (J : (Int) → (Int) → (Int) → (Int) → Prop) (μ : (Int) → (Int) → (Int) → (Int) → Nat) (R : PV → Prop) : aFn Try.prog (fun _ => none) Try.f78 [0, 1, 2, 3, 5, 8, 9, 11, 12, 13, 14, 15, 18, 35] (fun zz_ => match zz_ with | 2 => some ⟨Int × Int × Int × Int, fun s => (fun (x3 : Int) (x14 : Int) (h1_0 : Int) (h1_1 : Int) => ([(2, LV.pv (PV.int IntKind.i64 i)), (3, .pv (.int IntKind.i64 x3)), (5, LV.box 0 0), (8, LV.box 1 0), (12, LV.pv (PV.sl n f es)), (13, LV.pv (PV.int IntKind.i64 ↑es.length)), (14, .pv (.int IntKind.i64 x14))], [.box [LV.pv (PV.int IntKind.i32 za), LV.pv (PV.int IntKind.i32 zb)], .box [.pv (.int IntKind.i32 h1_0), .pv (.int IntKind.i32 h1_1)]])) s.1 s.2.1 s.2.2.1 s.2.2.2, fun _ s => J s.1 s.2.1 s.2.2.1 s.2.2.2, fun s => μ s.1 s.2.1 s.2.2.1 s.2.2.2, fun e h => (gI e 3, gI e 14, hI h 1 0, hI h 1 1), [], [2, 3, 5, 8, 12, 13, 14], [], fun p => ∀ (x3 : Int) (x14 : Int) (h1_0 : Int) (h1_1 : Int), p (x3, x14, h1_0, h1_1), fun p h s => h s.1 s.2.1 s.2.2.1 s.2.2.2⟩ | _ => none) (Try.f78.body.getD .skip) [.sl n f es, .agg [.int .i32 za, .int .i32 zb], .int .i64 i, .int .i64 last] R = r_trie_find_ucd_pair n f es za zb i last J μ R := by kernel_rfl
theorem a_trie_find_ucd_pair (n f : Bool) (es : List (List PV)) (za zb : Int) (i last : Int) (J : (Int) → (Int) → (Int) → (Int) → Prop) (μ : (Int) → (Int) → (Int) → (Int) → Nat) {R : PV → Prop} (h : r_trie_find_ucd_pair n f es za zb i last J μ R) : PCall Try.prog 78 [.sl n f es, .agg [.int .i32 za, .int .i32 zb], .int .i64 i, .int .i64 last] R :=
  PCall.of Try.func78 (by kernel_rfl) (by kernel_rfl) (Nat.le_of_ble_eq_true (by kernel_rfl)) (Eq.mpr (e_trie_find_ucd_pair n f es za zb i last J μ R) h)

def r_trie_Trie_ucd_pair_Get (sz : Int) (n f n2 f2 : Bool) (es bs : List (List PV)) (i : Int) (R : PV → Prop) : Prop :=
 if decide (i < (0 : Int)) = true then R (PV.agg [PV.int .i32 (0 : Int), PV.int .i32 (0 : Int)]) else ∃ (n1 : Int), some (PV.int .i64 sz) = some (PV.int .i64 n1) ∧ if decide (i ≥ n1) = true then R (PV.agg [PV.int .i32 (0 : Int), PV.int .i32
 (0 : Int)]) else ∃ (n3 : Bool), ∃ (f1 : Bool), ∃ (es1 : List (List PV)), some (PV.sl n2 f2 bs) = some (PV.sl n3 f1 es1) ∧ ∃ (n4 : Bool), ∃ (f3 : Bool), ∃ (es2 : List (List PV)), some (PV.sl n f es) = some (PV.sl n4 f3 es2) ∧ idxOK es2
 (IntKind.i64.wrap (i.tdiv (128 : Int))) 1 ∧ ∃ (n5 : Int), (es2.getD (IntKind.i64.wrap (i.tdiv (128 : Int))).toNat []).head? = some (PV.int .i64 n5) ∧ idxOK es1 n5 256 ∧ ((0 : Int) ≤ i.tmod (128 : Int) ∧ i.tmod (128 : Int) < (↑128 : Int)) ∧
 ∃ (n6 : Int), (List.drop ((i.tmod (128 : Int)).toNat * 2) (es1.getD n5.toNat [])).head? = some (PV.int .i32 n6) ∧ ∃ (n7 : Int), (List.drop ((i.tmod (128 : Int)).toNat * 2) (es1.getD n5.toNat [])).tail.head? = some (PV.int .i32 n7) ∧ R
 (PV.agg [PV.int .i32 n6, PV.int .i32 n7])
theorem e_trie_Trie_ucd_pair_Get (sz : Int) (n f n2 f2 : Bool) (es bs : List (List PV)) (i : Int) (R : PV → Prop) : aFn Try.prog (fun _ => none) Try.f49 [0, 1, 4, 5, 19] (fun _ => none) (Try.f49.body.getD .skip) [.ptr [.int .i64 sz, .sl n f es, .sl n2 f2 bs], .int .i64 i] R = r_trie_Trie_ucd_pair_Get sz n f n2 f2 es bs i R := by kernel_rfl
theorem a_trie_Trie_ucd_pair_Get (sz : Int) (n f n2 f2 : Bool) (es bs : List (List PV)) (i : Int) {R : PV → Prop} (h : r_trie_Trie_ucd_pair_Get sz n f n2 f2 es bs i R) : PCall Try.prog 49 [.ptr [.int .i64 sz, .sl n f es, .sl n2 f2 bs], .int .i64 i] R :=
  PCall.of Try.func49 (by kernel_rfl) (by kernel_rfl) (Nat.le_of_ble_eq_true (by kernel_rfl)) (Eq.mpr (e_trie_Trie_ucd_pair_Get sz n f n2 f2 es bs i R) h)

def r_trie_maker_ucd_pair_place (sz : Int) (kn ev : List (PV × PV)) (ixm ixn bkm bkn : Bool) (ix bk : List (List PV)) (b : List PV) (R : LV → Hp → Prop) : Prop :=
 256 ≤ (List.drop 0 b).length ∧ keysOk Try.prog 118 kn ∧ keyOk Try.prog 118 (PV.agg (List.take 256 (List.drop 0 b))) = true ∧ (∀ (v : PV), mapGet (PV.agg (List.take 256 (List.drop 0 b))) kn = some v → ∃ (n : Int), v = PV.int .i64 n ∧ R
 (LV.pv (PV.int .i64 n)) [Ob.box [LV.box 1 0, LV.mp 2, LV.mp 3], Ob.box [LV.pv (PV.int .i64 sz), LV.own 4, LV.own 5], Ob.mp kn, Ob.mp ev, Ob.sl (3, 1) ixm ixn ix, Ob.sl (118, 256) bkm bkn bk]) ∧ (mapGet (PV.agg (List.take 256 (List.drop 0
 b))) kn = none → 256 ≤ (List.drop 0 b).length ∧ keysOk Try.prog 118 kn ∧ keyOk Try.prog 118 (PV.agg (List.take 256 (List.drop 0 b))) = true ∧ 256 ≤ (List.drop 0 b).length ∧ ((List.take 256 (List.drop 0 b)).length = 256 ∧ (szOK [List.take
 256 (List.drop 0 b)] 256 ∧ (bk.length + 1) * 1024 ≤ 140737488355328) ∧ R (LV.pv (PV.int .i64 (↑bk.length : Int))) [Ob.box [LV.box 1 0, LV.mp 2, LV.mp 3], Ob.box [LV.pv (PV.int .i64 sz), LV.own 4, LV.own 5], Ob.mp (mapSet (PV.agg (List.take
 256 (List.drop 0 b))) (PV.int .i64 (↑bk.length : Int)) kn), Ob.mp ev, Ob.sl (3, (1 : Nat)) ixm ixn ix, Ob.sl (118, 256) true (bkn && false) (bk ++ [List.take 256 (List.drop 0 b)])]) ∧ (List.take 256 (List.drop 0 b)).length = 256 ∧ ((szOK
 [List.take 256 (List.drop 0 b)] 256 ∧ (bk.length + 1) * 1024 ≤ 140737488355328) ∧ R (LV.pv (PV.int .i64 (↑bk.length : Int))) [Ob.box [LV.box 1 0, LV.mp 2, LV.mp 3], Ob.box [LV.pv (PV.int .i64 sz), LV.own 4, LV.own 5], Ob.mp (mapSet (PV.agg
 (List.take 256 (List.drop 0 b))) (PV.int .i64 (↑bk.length : Int)) kn), Ob.mp ev, Ob.sl ((3 : Nat), 1) ixm ixn ix, Ob.sl (118, 256) true (bkn && false) (bk ++ [List.take 256 (List.drop 0 b)])]) ∧ (szOK [List.take 256 (List.drop 0 b)] 256 ∧
 (bk.length + 1) * 1024 ≤ 140737488355328) ∧ R (LV.pv (PV.int .i64 (↑bk.length : Int))) [Ob.box [LV.box 1 0, LV.mp 2, LV.mp 3], Ob.box [LV.pv (PV.int .i64 sz), LV.own 4, LV.own 5], Ob.mp (mapSet (PV.agg (List.take 256 (List.drop 0 b)))
 (PV.int .i64 (↑bk.length : Int)) kn), Ob.mp ev, Ob.sl (3, 1) ixm ixn ix, Ob.sl (118, 256) true (bkn && false) (bk ++ [List.take 256 (List.drop 0 b)])])
theorem e_trie_maker_ucd_pair_place (sz : Int) (kn ev : List (PV × PV)) (ixm ixn bkm bkn : Bool) (ix bk : List (List PV)) (b : List PV) (R : LV → Hp → Prop) : aFnH Try.prog (fun _ => none) Try.f80 [0, 1, 3, 4, 5, 6, 17] (fun _ => none) [0,1,2,3,4,5] (Try.f80.body.getD .skip) [.box 0 0, .pv (.agg b)] [.box [.box 1 0, .mp 2, .mp 3], .box [.pv (.int .i64 sz), .own 4, .own 5], .mp kn, .mp ev, .sl (3, 1) ixm ixn ix, .sl (118, 256) bkm bkn bk] R = r_trie_maker_ucd_pair_place sz kn ev ixm ixn bkm bkn ix bk b R := by kernel_rfl
theorem a_trie_maker_ucd_pair_place (sz : Int) (kn ev : List (PV × PV)) (ixm ixn bkm bkn : Bool) (ix bk : List (List PV)) (b : List PV) {R : LV → Hp → Prop} (h : r_trie_maker_ucd_pair_place sz kn ev ixm ixn bkm bkn ix bk b R) : ACall Try.prog 80 [.box 0 0, .pv (.agg b)] [.box [.box 1 0, .mp 2, .mp 3], .box [.pv (.int .i64 sz), .own 4, .own 5], .mp kn, .mp ev, .sl (3, 1) ixm ixn ix, .sl (118, 256) bkm bkn bk] R :=
  ACall.of Try.func80 (by kernel_rfl) (by kernel_rfl) (Nat.le_of_ble_eq_true (by kernel_rfl)) (Eq.mpr (e_trie_maker_ucd_pair_place sz kn ev ixm ixn bkm bkn ix bk b R) h)

def r_trie_maker_ucd_pair_plain (sz : Int) (kn ev : List (PV × PV)) (ixm ixn bkm bkn : Bool) (ix bk : List (List PV)) (va vb : Int) (J : (Int) → (List (PV × PV)) → (List (PV × PV)) → (List PV) → Prop) (μ : (Int) → (List (PV × PV)) → (List (PV × PV)) → (List PV) → Nat) (R : LV → Hp → Prop) : Prop :=
 keysOk Try.prog 60 ev ∧ keyOk Try.prog 60 (PV.agg [PV.int .i32 va, PV.int .i32 vb]) = true ∧ (∀ (v : PV), mapGet (PV.agg [PV.int .i32 va, PV.int .i32 vb]) ev = some v → ∃ (n : Int), v = PV.int .i64 n ∧ R (LV.pv (PV.int .i64 n)) [Ob.box
 [LV.box 1 0, LV.mp 2, LV.mp 3], Ob.box [LV.pv (PV.int .i64 sz), LV.own 4, LV.own 5], Ob.mp kn, Ob.mp ev, Ob.sl (3, (1 : Nat)) ixm ixn ix, Ob.sl (118, 256) bkm bkn bk]) ∧ (mapGet (PV.agg [PV.int .i32 va, PV.int .i32 vb]) ev = none → (SameSt
 ([(0, LV.box 0 0), (3, LV.box 6 0), (7, LV.box 7 0), (20, LV.pv (PV.int .i64 (0 : Int)))], [Ob.box [LV.box 1 0, LV.mp 2, LV.mp 3], Ob.box [LV.pv (PV.int .i64 sz), LV.own 4, LV.own 5], Ob.mp kn, Ob.mp ev, Ob.sl (3, 1) (bif false then true
 else ixm) ixn ix, Ob.sl (118, 256) (bif false then true else bkm) bkn bk, Ob.box [LV.pv (PV.int .i32 va), LV.pv (PV.int .i32 vb)], Ob.arr (List.replicate 256 (PV.int .i32 (0 : Int)))]) ([(0, LV.box 0 0), (3, LV.box 6 0), (7, LV.box 7 0),
 (20, LV.pv (PV.int .i64 (0 : Int)))], [Ob.box [LV.box 1 0, LV.mp 2, LV.mp 3], Ob.box [LV.pv (PV.int .i64 sz), LV.own 4, LV.own 5], Ob.mp kn, Ob.mp ev, Ob.sl (3, 1) ixm ixn ix, Ob.sl (118, 256) bkm bkn bk, Ob.box [LV.pv (PV.int .i32 va),
 LV.pv (PV.int .i32 vb)], Ob.arr (List.replicate 256 (PV.int .i32 (0 : Int)))]) ∧ J (0 : Int) kn ev (List.replicate 256 (PV.int .i32 (0 : Int)))) ∧ ∀ (x20 : Int) (m_2 m_3 : List (PV × PV)) (c_7 : List PV), J x20 m_2 m_3 c_7 → if decide (x20
 < (128 : Int)) = true then ((0 : Int) ≤ x20 ∧ x20 < (↑128 : Int)) ∧ (2 = 2 ∧ 0 + x20.toNat * 2 + (2 : Nat) ≤ c_7.length) ∧ SameSt ([(0, LV.box 0 0), (3, LV.box 6 0), (7, LV.box 7 0), (20, LV.pv (PV.int .i64 (IntKind.i64.wrap (x20 + (1 :
 Int)))))], [Ob.box [LV.box 1 0, LV.mp 2, LV.mp 3], Ob.box [LV.pv (PV.int .i64 sz), LV.own 4, LV.own 5], Ob.mp m_2, Ob.mp m_3, Ob.sl (3, 1) (bif false then true else ixm) ixn ix, Ob.sl (118, 256) (bif false then true else bkm) bkn bk, Ob.box
 [LV.pv (PV.int .i32 va), LV.pv (PV.int .i32 vb)], Ob.arr (spl c_7 (0 + x20.toNat * 2) [PV.int .i32 va, PV.int .i32 vb])]) ([(0, LV.box 0 0), (3, LV.box 6 0), (7, LV.box 7 0), (20, LV.pv (PV.int .i64 (IntKind.i64.wrap (x20 + (1 : Int)))))],
 [Ob.box [LV.box 1 0, LV.mp 2, LV.mp 3], Ob.box [LV.pv (PV.int .i64 sz), LV.own 4, LV.own 5], Ob.mp m_2, Ob.mp m_3, Ob.sl (3, 1) ixm ixn ix, Ob.sl (118, 256) bkm bkn bk, Ob.box [LV.pv (PV.int .i32 va), LV.pv (PV.int .i32 vb)], Ob.arr (spl
 c_7 (0 + x20.toNat * 2) [PV.int .i32 va, PV.int .i32 vb])]) ∧ J (IntKind.i64.wrap (x20 + (1 : Int))) m_2 m_3 (spl c_7 (0 + x20.toNat * 2) [PV.int .i32 va, PV.int .i32 vb]) ∧ μ (IntKind.i64.wrap (x20 + (1 : Int))) m_2 m_3 (spl c_7 (0 +
 x20.toNat * 2) [PV.int .i32 va, PV.int .i32 vb]) < μ x20 m_2 m_3 c_7 else (256 : Nat) ≤ (List.drop 0 c_7).length ∧ ACall Try.prog 80 [LV.box 0 0, LV.pv (PV.agg (List.take 256 (List.drop 0 c_7)))] [Ob.box [LV.box 1 0, LV.mp 2, LV.mp 3],
 Ob.box [LV.pv (PV.int .i64 sz), LV.own 4, LV.own 5], Ob.mp m_2, Ob.mp m_3, Ob.sl (3, 1) false ixn ix, Ob.sl (118, 256) false bkn bk] fun (r : LV) (h' : Hp) ↦ ∃ (t : Int × List (PV × PV) × Bool × List (List PV)), (r = LV.pv (PV.int .i64 t.1)
 ∧ h' = [Ob.box [LV.box 1 0, LV.mp 2, LV.mp 3], Ob.box [LV.pv (PV.int .i64 sz), LV.own 4, LV.own 5], Ob.mp t.snd.fst, Ob.mp m_3, Ob.sl (3, 1) false ixn ix, Ob.sl (118, 256) true t.snd.snd.fst t.snd.snd.snd]) ∧ (True ∧ ((3, 1) = (3, 1) ∧ ixn
 = ixn ∧ ix.length = ix.length) ∧ True ∧ True ∧ True ∧ True ∧ True) ∧ keysOk Try.prog 60 m_3 ∧ keyOk Try.prog 60 (PV.agg [PV.int .i32 va, PV.int .i32 vb]) = true ∧ R (LV.pv (PV.int .i64 t.1)) [Ob.box [LV.box 1 0, LV.mp 2, LV.mp 3], Ob.box
 [LV.pv (PV.int .i64 sz), LV.own 4, LV.own 5], Ob.mp t.snd.fst, Ob.mp (mapSet (PV.agg [PV.int .i32 va, PV.int .i32 vb]) (PV.int .i64 t.1) m_3), Ob.sl (3, 1) (ixm || false) ixn ix, Ob.sl (118, 256) (bkm || true) t.snd.snd.fst t.snd.snd.snd])
theorem e_trie_maker_ucd_pair_plain (sz : Int) (kn ev : List (PV × PV)) (ixm ixn bkm bkn : Bool) (ix bk : List (List PV)) (va vb : Int) (J : (Int) → (List (PV × PV)) → (List (PV × PV)) → (List PV) → Prop) (μ : (Int) → (List (PV × PV)) → (List (PV × PV)) → (List PV) → Nat) (R : LV → Hp → Prop) : aFnH Try.prog (fun zz_ => match zz_ with | 80 => some ⟨Int × List (PV × PV) × Bool × List (List PV), fun _ hs t => (.pv (.int .i64 t.1), match hs with | [m, r, .mp _, ev, ix, .sl a _ _ _] => [m, r, .mp t.2.1, ev, ix, .sl a true t.2.2.1 t.2.2.2] | h => h), none⟩ | _ => none) Try.f79 [0, 1, 3, 4, 5, 6, 7, 8, 19, 20, 21] (fun zz_ => match zz_ with | 5 => some ⟨Int × (List (PV × PV)) × (List (PV × PV)) × (List PV), fun s => (fun (x20 : Int) (m_2 : List (PV × PV)) (m_3 : List (PV × PV)) (c_7 : List PV) => ([(0, LV.box 0 0), (3, LV.box 6 0), (7, LV.box 7 0), (20, .pv (.int IntKind.i64 x20))], [.box [LV.box 1 0, LV.mp 2, LV.mp 3], .box [LV.pv (PV.int IntKind.i64 sz), LV.own 4, LV.own 5], .mp m_2, .mp m_3, .sl (3, 1) ixm ixn ix, .sl (118, 256) bkm bkn bk, .box [LV.pv (PV.int IntKind.i32 va), LV.pv (PV.int IntKind.i32 vb)], .arr c_7])) s.1 s.2.1 s.2.2.1 s.2.2.2, fun _ s => J s.1 s.2.1 s.2.2.1 s.2.2.2, fun s => μ s.1 s.2.1 s.2.2.1 s.2.2.2, fun e h => (gI e 20, oM h 2, oM h 3, oA h 7), [], [0, 3, 7, 20], [], fun p => ∀ (x20 : Int) (m_2 : List (PV × PV)) (m_3 : List (PV × PV)) (c_7 : List PV), p (x20, m_2, m_3, c_7), fun p h s => h s.1 s.2.1 s.2.2.1 s.2.2.2⟩ | _ => none) [0,1,2,3,4,5] (Try.f79.body.getD .skip) [.box 0 0, .pv (.agg [.int .i32 va, .int .i32 vb])] [.box [.box 1 0, .mp 2, .mp 3], .box [.pv (.int .i64 sz), .own 4, .own 5], .mp kn, .mp ev, .sl (3, 1) ixm ixn ix, .sl (118, 256) bkm bkn bk] R = r_trie_maker_ucd_pair_plain sz kn ev ixm ixn bkm bkn ix bk va vb J μ R := by kernel_rfl
theorem a_trie_maker_ucd_pair_plain (sz : Int) (kn ev : List (PV × PV)) (ixm ixn bkm bkn : Bool) (ix bk : List (List PV)) (va vb : Int) (J : (Int) → (List (PV × PV)) → (List (PV × PV)) → (List PV) → Prop) (μ : (Int) → (List (PV × PV)) → (List (PV × PV)) → (List PV) → Nat) {R : LV → Hp → Prop} (h : r_trie_maker_ucd_pair_plain sz kn ev ixm ixn bkm bkn ix bk va vb J μ R) : ACall Try.prog 79 [.box 0 0, .pv (.agg [.int .i32 va, .int .i32 vb])] [.box [.box 1 0, .mp 2, .mp 3], .box [.pv (.int .i64 sz), .own 4, .own 5], .mp kn, .mp ev, .sl (3, 1) ixm ixn ix, .sl (118, 256) bkm bkn bk] R :=
  ACall.of Try.func79 (by kernel_rfl) (by kernel_rfl) (Nat.le_of_ble_eq_true (by kernel_rfl)) (Eq.mpr (e_trie_maker_ucd_pair_plain sz kn ev ixm ixn bkm bkn ix bk va vb J μ R) h)

def r_trie_Build_ucd_pair (sz : Int) (za zb : Int) (n f : Bool) (es : List (List PV)) (J : (Int) → (Int) → (Int) → (Int) → (Bool) → (List (List PV)) → (Bool) → (List (List PV)) → (List (PV × PV)) → (List (PV × PV)) → Prop) (μ : (Int) → (Int) → (Int) → (Int) → (Bool) → (List (List PV)) → (Bool) → (List (List PV)) → (List (PV × PV)) → (List (PV × PV)) → Nat) (J2 : (Int) → (Int) → (Int) → (Int) → (Int) → (Bool) → (List (List PV)) → (Bool) → (List (List PV)) → (List (PV × PV)) → (List (PV × PV)) → (Int) → (Int) → (Int) → (Int) → (Int) → (Bool) → (List (List PV)) → (Bool) → (List (List PV)) → (List (PV × PV)) → (List (PV × PV)) → Prop) (μ2 : (Int) → (Int) → (Int) → (Int) → (Int) → (Bool) → (List (List PV)) → (Bool) → (List (List PV)) → (List (PV × PV)) → (List (PV × PV)) → Nat) (J3 : (Int) → (Int) → (Int) → (Int) → (Int) → (List PV) → (Bool) → (List (List PV)) → (Bool) → (List (List PV)) → (List (PV × PV)) → (List (PV × PV)) → (Int) → (Int) → (Int) → (Int) → (Int) → (List PV) → (Bool) → (List (List PV)) → (Bool) → (List (List PV)) → (List (PV × PV)) → (List (PV × PV)) → Prop) (μ3 : (Int) → (Int) → (Int) → (Int) → (Int) → (List PV) → (Bool) → (List (List PV)) → (Bool) → (List (List PV)) → (List (PV × PV)) → (List (PV × PV)) → Nat) (R : PV → Prop) : Prop :=
 if decide (sz < (1 : Int)) = true then R PV.nilp else PCall Try.prog 78 [PV.sl n f es, PV.agg [PV.int .i32 za, PV.int .i32 zb], PV.int .i64 (0 : Int), PV.int .i64 (IntKind.i64.wrap (sz - (1 : Int)))] fun (v : PV) ↦ ∃ (vs : List PV), v =
 PV.tup vs ∧ vs.length = 2 ∧ ∃ (x : PV), vs.head? = some x ∧ ∃ (cs : List PV), x = PV.agg cs ∧ cs.length = 2 ∧ ∃ (n1 : Int), cs.head? = some (PV.int .i32 n1) ∧ ∃ (n2 : Int), cs.tail.head? = some (PV.int .i32 n2) ∧ ∃ (x1 : PV), vs.tail.head?
 = some x1 ∧ ∃ (n3 : Int), x1 = PV.int .i64 n3 ∧ (Same1 ([(0, LV.pv (PV.int .i64 sz)), (2, LV.pv (PV.sl n f es)), (4, LV.box 0 0), (7, LV.box 1 0), (8, LV.box 2 0), (9, LV.box 3 0), (10, LV.pv (PV.int .i64 n3)), (11, LV.pv (PV.int .i64 (0 :
 Int)))], [Ob.box [LV.pv (PV.int .i32 za), LV.pv (PV.int .i32 zb)], Ob.box [LV.pv (PV.int .i64 sz), LV.own 4, LV.own 5], Ob.box [LV.box 1 0, LV.mp 6, LV.mp 7], Ob.box [LV.pv (PV.int .i32 n1), LV.pv (PV.int .i32 n2)], Ob.sl (3, 1) true true
 [], Ob.sl (118, 256) true true [], Ob.mp [], Ob.mp []]) ∧ J n3 (0 : Int) n1 n2 true [] true [] [] []) ∧ ∀ (x10 x11 h3_0 h3_1 : Int) (n_4 : Bool) (s_4 : List (List PV)) (n_5 : Bool) (s_5 : List (List PV)) (m_6 m_7 : List (PV × PV)), J x10
 x11 h3_0 h3_1 n_4 s_4 n_5 s_5 m_6 m_7 → if decide (x11 < sz) = true then if decide (x11 > x10) = true then PCall Try.prog 78 [PV.sl n f es, PV.agg [PV.int .i32 za, PV.int .i32 zb], PV.int .i64 x11, PV.int .i64 (IntKind.i64.wrap (sz - (1 :
 Int)))] fun (v1 : PV) ↦ ∃ (vs1 : List PV), v1 = PV.tup vs1 ∧ vs1.length = 2 ∧ ∃ (x2 : PV), vs1.head? = some x2 ∧ ∃ (cs1 : List PV), x2 = PV.agg cs1 ∧ cs1.length = 2 ∧ ∃ (n4 : Int), cs1.head? = some (PV.int .i32 n4) ∧ ∃ (n5 : Int),
 cs1.tail.head? = some (PV.int .i32 n5) ∧ ∃ (x3 : PV), vs1.tail.head? = some x3 ∧ ∃ (n6 : Int), x3 = PV.int .i64 n6 ∧ if decide (n6 ≥ IntKind.i64.wrap ((if sz < IntKind.i64.wrap (x11 + (128 : Int)) then sz else IntKind.i64.wrap (x11 + (128 :
 Int))) - (1 : Int))) = true then ACall Try.prog 79 [LV.box 0 0, LV.pv (PV.agg [PV.int .i32 n4, PV.int .i32 n5])] [Ob.box [LV.box 1 0, LV.mp 2, LV.mp 3], Ob.box [LV.pv (PV.int .i64 sz), LV.own 4, LV.own 5], Ob.mp m_6, Ob.mp m_7, Ob.sl (3, 1)
 false n_4 s_4, Ob.sl (118, 256) false n_5 s_5] fun (r : LV) (h' : Hp) ↦ ∃ (t : Int × List (PV × PV) × List (PV × PV) × Bool × List (List PV)), (r = LV.pv (PV.int .i64 t.1) ∧ h' = [Ob.box [LV.box 1 0, LV.mp 2, LV.mp 3], Ob.box [LV.pv (PV.int
 .i64 sz), LV.own 4, LV.own 5], Ob.mp t.snd.fst, Ob.mp t.snd.snd.fst, Ob.sl (3, 1) false n_4 s_4, Ob.sl (118, 256) true t.snd.snd.snd.fst t.snd.snd.snd.snd]) ∧ (True ∧ ((3, 1) = (3, 1) ∧ n_4 = n_4 ∧ s_4.length = s_4.length) ∧ True ∧ True ∧
 True ∧ True ∧ True) ∧ (Same1 ([(0, LV.pv (PV.int .i64 sz)), (2, LV.pv (PV.sl n f es)), (4, LV.box 0 0), (7, LV.box 1 0), (8, LV.box 2 0), (9, LV.box 3 0), (10, LV.pv (PV.int .i64 n6)), (11, LV.pv (PV.int .i64 x11)), (13, LV.pv (PV.int .i64
 t.1))], [Ob.box [LV.pv (PV.int .i32 za), LV.pv (PV.int .i32 zb)], Ob.box [LV.pv (PV.int .i64 sz), LV.own 4, LV.own 5], Ob.box [LV.box 1 0, LV.mp 6, LV.mp 7], Ob.box [LV.pv (PV.int .i32 n4), LV.pv (PV.int .i32 n5)], Ob.sl (3, 1) true n_4
 s_4, Ob.sl (118, 256) true t.snd.snd.snd.fst t.snd.snd.snd.snd, Ob.mp t.snd.fst, Ob.mp t.snd.snd.fst]) ∧ J2 n6 x11 t.1 n4 n5 n_4 s_4 t.snd.snd.snd.fst t.snd.snd.snd.snd t.snd.fst t.snd.snd.fst n6 x11 t.1 n4 n5 n_4 s_4 t.snd.snd.snd.fst
 t.snd.snd.snd.snd t.snd.fst t.snd.snd.fst) ∧ ∀ (x101 x111 x13 h3_01 h3_11 : Int) (n_41 : Bool) (s_41 : List (List PV)) (n_51 : Bool) (s_51 : List (List PV)) (m_61 m_71 : List (PV × PV)), J2 n6 x11 t.1 n4 n5 n_4 s_4 t.snd.snd.snd.fst
 t.snd.snd.snd.snd t.snd.fst t.snd.snd.fst x101 x111 x13 h3_01 h3_11 n_41 s_41 n_51 s_51 m_61 m_71 → if (decide (x111 < sz) && decide (x101 ≥ IntKind.i64.wrap ((if sz < IntKind.i64.wrap (x111 + (128 : Int)) then sz else IntKind.i64.wrap
 (x111 + (128 : Int))) - (1 : Int)))) = true then (szOK [[PV.int .i64 x13]] 1 ∧ (s_41.length + 1) * 8 ≤ 140737488355328) ∧ Same1 ([(0, LV.pv (PV.int .i64 sz)), (2, LV.pv (PV.sl n f es)), (4, LV.box 0 0), (7, LV.box 1 0), (8, LV.box 2 0), (9,
 LV.box 3 0), (10, LV.pv (PV.int .i64 x101)), (11, LV.pv (PV.int .i64 (IntKind.i64.wrap (x111 + (128 : Int))))), (13, LV.pv (PV.int .i64 x13))], [Ob.box [LV.pv (PV.int .i32 za), LV.pv (PV.int .i32 zb)], Ob.box [LV.pv (PV.int .i64 sz), LV.own
 4, LV.own 5], Ob.box [LV.box 1 0, LV.mp 6, LV.mp 7], Ob.box [LV.pv (PV.int .i32 h3_01), LV.pv (PV.int .i32 h3_11)], Ob.sl (3, 1) true (n_41 && false) (s_41 ++ [[PV.int .i64 x13]]), Ob.sl (118, 256) true n_51 s_51, Ob.mp m_61, Ob.mp m_71]) ∧
 J2 n6 x11 t.1 n4 n5 n_4 s_4 t.snd.snd.snd.fst t.snd.snd.snd.snd t.snd.fst t.snd.snd.fst x101 (IntKind.i64.wrap (x111 + (128 : Int))) x13 h3_01 h3_11 (n_41 && false) (s_41 ++ [[PV.int .i64 x13]]) n_51 s_51 m_61 m_71 ∧ μ2 x101
 (IntKind.i64.wrap (x111 + (128 : Int))) x13 h3_01 h3_11 (n_41 && false) (s_41 ++ [[PV.int .i64 x13]]) n_51 s_51 m_61 m_71 < μ2 x101 x111 x13 h3_01 h3_11 n_41 s_41 n_51 s_51 m_61 m_71 else Same1 ([(0, LV.pv (PV.int .i64 sz)), (2, LV.pv
 (PV.sl n f es)), (4, LV.box 0 0), (7, LV.box 1 0), (8, LV.box 2 0), (9, LV.box 3 0), (10, LV.pv (PV.int .i64 x101)), (11, LV.pv (PV.int .i64 (IntKind.i64.wrap (IntKind.i64.wrap (x111 - (128 : Int)) + (128 : Int)))))], [Ob.box [LV.pv (PV.int
 .i32 za), LV.pv (PV.int .i32 zb)], Ob.box [LV.pv (PV.int .i64 sz), LV.own 4, LV.own 5], Ob.box [LV.box 1 0, LV.mp 6, LV.mp 7], Ob.box [LV.pv (PV.int .i32 h3_01), LV.pv (PV.int .i32 h3_11)], Ob.sl (3, 1) true n_41 s_41, Ob.sl (118, 256) true
 n_51 s_51, Ob.mp m_61, Ob.mp m_71]) ∧ J x101 (IntKind.i64.wrap (IntKind.i64.wrap (x111 - (128 : Int)) + (128 : Int))) h3_01 h3_11 n_41 s_41 n_51 s_51 m_61 m_71 ∧ μ x101 (IntKind.i64.wrap (IntKind.i64.wrap (x111 - (128 : Int)) + (128 :
 Int))) h3_01 h3_11 n_41 s_41 n_51 s_51 m_61 m_71 < μ x10 x11 h3_0 h3_1 n_4 s_4 n_5 s_5 m_6 m_7 else (Same1 ([(0, LV.pv (PV.int .i64 sz)), (2, LV.pv (PV.sl n f es)), (4, LV.box 0 0), (7, LV.box 1 0), (8, LV.box 2 0), (9, LV.box 3 0), (10,
 LV.pv (PV.int .i64 n6)), (11, LV.pv (PV.int .i64 x11)), (14, LV.box 4 0), (88, LV.pv (PV.int .i64 (0 : Int)))], [Ob.box [LV.pv (PV.int .i32 za), LV.pv (PV.int .i32 zb)], Ob.box [LV.pv (PV.int .i64 sz), LV.own 5, LV.own 6], Ob.box [LV.box 1
 0, LV.mp 7, LV.mp 8], Ob.box [LV.pv (PV.int .i32 n4), LV.pv (PV.int .i32 n5)], Ob.arr (List.replicate 256 (PV.int .i32 (0 : Int))), Ob.sl (3, 1) true n_4 s_4, Ob.sl (118, 256) true n_5 s_5, Ob.mp m_6, Ob.mp m_7]) ∧ J3 n6 x11 (0 : Int) n4 n5
 (List.replicate 256 (PV.int .i32 (0 : Int))) n_4 s_4 n_5 s_5 m_6 m_7 n6 x11 (0 : Int) n4 n5 (List.replicate 256 (PV.int .i32 (0 : Int))) n_4 s_4 n_5 s_5 m_6 m_7) ∧ ∀ (x101 x111 x88 h3_01 h3_11 : Int) (c_4 : List PV) (n_51 : Bool) (s_51 :
 List (List PV)) (n_6 : Bool) (s_6 : List (List PV)) (m_71 m_8 : List (PV × PV)), J3 n6 x11 (0 : Int) n4 n5 (List.replicate 256 (PV.int .i32 (0 : Int))) n_4 s_4 n_5 s_5 m_6 m_7 x101 x111 x88 h3_01 h3_11 c_4 n_51 s_51 n_6 s_6 m_71 m_8 → if
 decide (x88 < (128 : Int)) = true then if (decide (IntKind.i64.wrap (x111 + x88) > x101) && decide (IntKind.i64.wrap (x111 + x88) < sz)) = true then PCall Try.prog 78 [PV.sl n f es, PV.agg [PV.int .i32 za, PV.int .i32 zb], PV.int .i64
 (IntKind.i64.wrap (x111 + x88)), PV.int .i64 (IntKind.i64.wrap (sz - (1 : Int)))] fun (v2 : PV) ↦ ∃ (vs2 : List PV), v2 = PV.tup vs2 ∧ vs2.length = 2 ∧ ∃ (x4 : PV), vs2.head? = some x4 ∧ ∃ (cs2 : List PV), x4 = PV.agg cs2 ∧ cs2.length = 2 ∧
 ∃ (n7 : Int), cs2.head? = some (PV.int .i32 n7) ∧ ∃ (n8 : Int), cs2.tail.head? = some (PV.int .i32 n8) ∧ ∃ (x5 : PV), vs2.tail.head? = some x5 ∧ ∃ (n9 : Int), x5 = PV.int .i64 n9 ∧ ((0 : Int) ≤ x88 ∧ x88 < (↑128 : Int)) ∧ (2 = 2 ∧ 0 +
 x88.toNat * 2 + 2 ≤ c_4.length) ∧ Same1 ([(0, LV.pv (PV.int .i64 sz)), (2, LV.pv (PV.sl n f es)), (4, LV.box 0 0), (7, LV.box 1 0), (8, LV.box 2 0), (9, LV.box 3 0), (10, LV.pv (PV.int .i64 n9)), (11, LV.pv (PV.int .i64 x111)), (14, LV.box
 4 0), (88, LV.pv (PV.int .i64 (IntKind.i64.wrap (x88 + (1 : Int)))))], [Ob.box [LV.pv (PV.int .i32 za), LV.pv (PV.int .i32 zb)], Ob.box [LV.pv (PV.int .i64 sz), LV.own 5, LV.own 6], Ob.box [LV.box 1 0, LV.mp 7, LV.mp 8], Ob.box [LV.pv
 (PV.int .i32 n7), LV.pv (PV.int .i32 n8)], Ob.arr (spl c_4 (0 + x88.toNat * (2 : Nat)) [PV.int .i32 n7, PV.int .i32 n8]), Ob.sl (3, 1) true n_51 s_51, Ob.sl (118, 256) true n_6 s_6, Ob.mp m_71, Ob.mp m_8]) ∧ J3 n6 x11 (0 : Int) n4 n5
 [PV.int .i32 (0 : Int), PV.int .i32 (0 : Int), PV.int .i32 (0 : Int), PV.int .i32 (0 : Int), PV.int .i32 (0 : Int), PV.int .i32 (0 : Int), PV.int .i32 (0 : Int), PV.int .i32 (0 : Int), PV.int .i32 (0 : Int), PV.int .i32 (0 : Int), PV.int
 .i32 (0 : Int), PV.int .i32 (0 : Int), PV.int .i32 (0 : Int), PV.int .i32 (0 : Int), PV.int .i32 (0 : Int), PV.int .i32 (0 : Int), PV.int .i32 (0 : Int), PV.int .i32 (0 : Int), PV.int .i32 (0 : Int), PV.int .i32 (0 : Int), PV.int .i32 (0 :
 Int), PV.int .i32 (0 : Int), PV.int .i32 (0 : Int), PV.int .i32 (0 : Int), PV.int .i32 (0 : Int), PV.int .i32 (0 : Int), PV.int .i32 (0 : Int), PV.int .i32 (0 : Int), PV.int .i32 (0 : Int), PV.int .i32 (0 : Int), PV.int .i32 (0 : Int),
 PV.int .i32 (0 : Int), PV.int .i32 (0 : Int), PV.int .i32 (0 : Int), PV.int .i32 (0 : Int), PV.int .i32 (0 : Int), PV.int .i32 (0 : Int), PV.int .i32 (0 : Int), PV.int .i32 (0 : Int), PV.int .i32 (0 : Int), PV.int .i32 (0 : Int), PV.int
 .i32 (0 : Int), PV.int .i32 (0 : Int), PV.int .i32 (0 : Int), PV.int .i32 (0 : Int), PV.int .i32 (0 : Int), PV.int .i32 (0 : Int), PV.int .i32 (0 : Int), PV.int .i32 (0 : Int), PV.int .i32 (0 : Int), PV.int .i32 (0 : Int), PV.int .i32 (0 :
 Int), PV.int .i32 (0 : Int), PV.int .i32 (0 : Int), PV.int .i32 (0 : Int), PV.int .i32 (0 : Int), PV.int .i32 (0 : Int), PV.int .i32 (0 : Int), PV.int .i32 (0 : Int), PV.int .i32 (0 : Int), PV.int .i32 (0 : Int), PV.int .i32 (0 : Int),
 PV.int .i32 (0 : Int), PV.int .i32 (0 : Int), PV.int .i32 (0 : Int), PV.int .i32 (0 : Int), PV.int .i32 (0 : Int), PV.int .i32 (0 : Int), PV.int .i32 (0 : Int), PV.int .i32 (0 : Int), PV.int .i32 (0 : Int), PV.int .i32 (0 : Int), PV.int
 .i32 (0 : Int), PV.int .i32 (0 : Int), PV.int .i32 (0 : Int), PV.int .i32 (0 : Int), PV.int .i32 (0 : Int), PV.int .i32 (0 : Int), PV.int .i32 (0 : Int), PV.int .i32 (0 : Int), PV.int .i32 (0 : Int), PV.int .i32 (0 : Int), PV.int .i32 (0 :
 Int), PV.int .i32 (0 : Int), PV.int .i32 (0 : Int), PV.int .i32 (0 : Int), PV.int .i32 (0 : Int), PV.int .i32 (0 : Int), PV.int .i32 (0 : Int), PV.int .i32 (0 : Int), PV.int .i32 (0 : Int), PV.int .i32 (0 : Int), PV.int .i32 (0 : Int),
 PV.int .i32 (0 : Int), PV.int .i32 (0 : Int), PV.int .i32 (0 : Int), PV.int .i32 (0 : Int), PV.int .i32 (0 : Int), PV.int .i32 (0 : Int), PV.int .i32 (0 : Int), PV.int .i32 (0 : Int), PV.int .i32 (0 : Int), PV.int .i32 (0 : Int), PV.int
 .i32 (0 : Int), PV.int .i32 (0 : Int), PV.int .i32 (0 : Int), PV.int .i32 (0 : Int), PV.int .i32 (0 : Int), PV.int .i32 (0 : Int), PV.int .i32 (0 : Int), PV.int .i32 (0 : Int), PV.int .i32 (0 : Int), PV.int .i32 (0 : Int), PV.int .i32 (0 :
 Int), PV.int .i32 (0 : Int), PV.int .i32 (0 : Int), PV.int .i32 (0 : Int), PV.int .i32 (0 : Int), PV.int .i32 (0 : Int), PV.int .i32 (0 : Int), PV.int .i32 (0 : Int), PV.int .i32 (0 : Int), PV.int .i32 (0 : Int), PV.int .i32 (0 : Int),
 PV.int .i32 (0 : Int), PV.int .i32 (0 : Int), PV.int .i32 (0 : Int), PV.int .i32 (0 : Int), PV.int .i32 (0 : Int), PV.int .i32 (0 : Int), PV.int .i32 (0 : Int), PV.int .i32 (0 : Int), PV.int .i32 (0 : Int), PV.int .i32 (0 : Int), PV.int
 .i32 (0 : Int), PV.int .i32 (0 : Int), PV.int .i32 (0 : Int), PV.int .i32 (0 : Int), PV.int .i32 (0 : Int), PV.int .i32 (0 : Int), PV.int .i32 (0 : Int), PV.int .i32 (0 : Int), PV.int .i32 (0 : Int), PV.int .i32 (0 : Int), PV.int .i32 (0 :
 Int), PV.int .i32 (0 : Int), PV.int .i32 (0 : Int), PV.int .i32 (0 : Int), PV.int .i32 (0 : Int), PV.int .i32 (0 : Int), PV.int .i32 (0 : Int), PV.int .i32 (0 : Int), PV.int .i32 (0 : Int), PV.int .i32 (0 : Int), PV.int .i32 (0 : Int),
 PV.int .i32 (0 : Int), PV.int .i32 (0 : Int), PV.int .i32 (0 : Int), PV.int .i32 (0 : Int), PV.int .i32 (0 : Int), PV.int .i32 (0 : Int), PV.int .i32 (0 : Int), PV.int .i32 (0 : Int), PV.int .i32 (0 : Int), PV.int .i32 (0 : Int), PV.int
 .i32 (0 : Int), PV.int .i32 (0 : Int), PV.int .i32 (0 : Int), PV.int .i32 (0 : Int), PV.int .i32 (0 : Int), PV.int .i32 (0 : Int), PV.int .i32 (0 : Int), PV.int .i32 (0 : Int), PV.int .i32 (0 : Int), PV.int .i32 (0 : Int), PV.int .i32 (0 :
 Int), PV.int .i32 (0 : Int), PV.int .i32 (0 : Int), PV.int .i32 (0 : Int), PV.int .i32 (0 : Int), PV.int .i32 (0 : Int), PV.int .i32 (0 : Int), PV.int .i32 (0 : Int), PV.int .i32 (0 : Int), PV.int .i32 (0 : Int), PV.int .i32 (0 : Int),
 PV.int .i32 (0 : Int), PV.int .i32 (0 : Int), PV.int .i32 (0 : Int), PV.int .i32 (0 : Int), PV.int .i32 (0 : Int), PV.int .i32 (0 : Int), PV.int .i32 (0 : Int), PV.int .i32 (0 : Int), PV.int .i32 (0 : Int), PV.int .i32 (0 : Int), PV.int
 .i32 (0 : Int), PV.int .i32 (0 : Int), PV.int .i32 (0 : Int), PV.int .i32 (0 : Int), PV.int .i32 (0 : Int), PV.int .i32 (0 : Int), PV.int .i32 (0 : Int), PV.int .i32 (0 : Int), PV.int .i32 (0 : Int), PV.int .i32 (0 : Int), PV.int .i32 (0 :
 Int), PV.int .i32 (0 : Int), PV.int .i32 (0 : Int), PV.int .i32 (0 : Int), PV.int .i32 (0 : Int), PV.int .i32 (0 : Int), PV.int .i32 (0 : Int), PV.int .i32 (0 : Int), PV.int .i32 (0 : Int), PV.int .i32 (0 : Int), PV.int .i32 (0 : Int),
 PV.int .i32 (0 : Int), PV.int .i32 (0 : Int), PV.int .i32 (0 : Int), PV.int .i32 (0 : Int), PV.int .i32 (0 : Int), PV.int .i32 (0 : Int), PV.int .i32 (0 : Int), PV.int .i32 (0 : Int), PV.int .i32 (0 : Int), PV.int .i32 (0 : Int), PV.int
 .i32 (0 : Int), PV.int .i32 (0 : Int), PV.int .i32 (0 : Int), PV.int .i32 (0 : Int), PV.int .i32 (0 : Int), PV.int .i32 (0 : Int), PV.int .i32 (0 : Int), PV.int .i32 (0 : Int), PV.int .i32 (0 : Int), PV.int .i32 (0 : Int), PV.int .i32 (0 :
 Int), PV.int .i32 (0 : Int), PV.int .i32 (0 : Int), PV.int .i32 (0 : Int), PV.int .i32 (0 : Int), PV.int .i32 (0 : Int), PV.int .i32 (0 : Int), PV.int .i32 (0 : Int), PV.int .i32 (0 : Int), PV.int .i32 (0 : Int), PV.int .i32 (0 : Int),
 PV.int .i32 (0 : Int), PV.int .i32 (0 : Int), PV.int .i32 (0 : Int), PV.int .i32 (0 : Int), PV.int .i32 (0 : Int), PV.int .i32 (0 : Int), PV.int .i32 (0 : Int), PV.int .i32 (0 : Int)] n_4 s_4 n_5 s_5 m_6 m_7 n9 x111 (IntKind.i64.wrap (x88 +
 (1 : Int))) n7 n8 (spl c_4 (0 + x88.toNat * 2) [PV.int .i32 n7, PV.int .i32 n8]) n_51 s_51 n_6 s_6 m_71 m_8 ∧ μ3 n9 x111 (IntKind.i64.wrap (x88 + (1 : Int))) n7 n8 (spl c_4 (0 + x88.toNat * 2) [PV.int .i32 n7, PV.int .i32 n8]) n_51 s_51 n_6
 s_6 m_71 m_8 < μ3 x101 x111 x88 h3_01 h3_11 c_4 n_51 s_51 n_6 s_6 m_71 m_8 else ((0 : Int) ≤ x88 ∧ x88 < (↑128 : Int)) ∧ (2 = 2 ∧ 0 + x88.toNat * 2 + 2 ≤ c_4.length) ∧ Same1 ([(0, LV.pv (PV.int .i64 sz)), (2, LV.pv (PV.sl n f es)), (4,
 LV.box 0 0), (7, LV.box 1 0), (8, LV.box 2 0), (9, LV.box 3 0), ((10 : Nat), LV.pv (PV.int .i64 x101)), (11, LV.pv (PV.int .i64 x111)), (14, LV.box 4 0), (88, LV.pv (PV.int .i64 (IntKind.i64.wrap (x88 + (1 : Int)))))], [Ob.box [LV.pv
 (PV.int .i32 za), LV.pv (PV.int .i32 zb)], Ob.box [LV.pv (PV.int .i64 sz), LV.own 5, LV.own 6], Ob.box [LV.box 1 0, LV.mp 7, LV.mp 8], Ob.box [LV.pv (PV.int .i32 h3_01), LV.pv (PV.int .i32 h3_11)], Ob.arr (spl c_4 (0 + x88.toNat * 2)
 [PV.int .i32 h3_01, PV.int .i32 h3_11]), Ob.sl (3, 1) true n_51 s_51, Ob.sl (118, 256) true n_6 s_6, Ob.mp m_71, Ob.mp m_8]) ∧ J3 n6 x11 (0 : Int) n4 n5 [PV.int .i32 (0 : Int), PV.int .i32 (0 : Int), PV.int .i32 (0 : Int), PV.int .i32 (0 :
 Int), PV.int .i32 (0 : Int), PV.int .i32 (0 : Int), PV.int .i32 (0 : Int), PV.int .i32 (0 : Int), PV.int .i32 (0 : Int), PV.int .i32 (0 : Int), PV.int .i32 (0 : Int), PV.int .i32 (0 : Int), PV.int .i32 (0 : Int), PV.int .i32 (0 : Int),
 PV.int .i32 (0 : Int), PV.int .i32 (0 : Int), PV.int .i32 (0 : Int), PV.int .i32 (0 : Int), PV.int .i32 (0 : Int), PV.int .i32 (0 : Int), PV.int .i32 (0 : Int), PV.int .i32 (0 : Int), PV.int .i32 (0 : Int), PV.int .i32 (0 : Int), PV.int
 .i32 (0 : Int), PV.int .i32 (0 : Int), PV.int .i32 (0 : Int), PV.int .i32 (0 : Int), PV.int .i32 (0 : Int), PV.int .i32 (0 : Int), PV.int .i32 (0 : Int), PV.int .i32 (0 : Int), PV.int .i32 (0 : Int), PV.int .i32 (0 : Int), PV.int .i32 (0 :
 Int), PV.int .i32 (0 : Int), PV.int .i32 (0 : Int), PV.int .i32 (0 : Int), PV.int .i32 (0 : Int), PV.int .i32 (0 : Int), PV.int .i32 (0 : Int), PV.int .i32 (0 : Int), PV.int .i32 (0 : Int), PV.int .i32 (0 : Int), PV.int .i32 (0 : Int),
 PV.int .i32 (0 : Int), PV.int .i32 (0 : Int), PV.int .i32 (0 : Int), PV.int .i32 (0 : Int), PV.int .i32 (0 : Int), PV.int .i32 (0 : Int), PV.int .i32 (0 : Int), PV.int .i32 (0 : Int), PV.int .i32 (0 : Int), PV.int .i32 (0 : Int), PV.int
 .i32 (0 : Int), PV.int .i32 (0 : Int), PV.int .i32 (0 : Int), PV.int .i32 (0 : Int), PV.int .i32 (0 : Int), PV.int .i32 (0 : Int), PV.int .i32 (0 : Int), PV.int .i32 (0 : Int), PV.int .i32 (0 : Int), PV.int .i32 (0 : Int), PV.int .i32 (0 :
 Int), PV.int .i32 (0 : Int), PV.int .i32 (0 : Int), PV.int .i32 (0 : Int), PV.int .i32 (0 : Int), PV.int .i32 (0 : Int), PV.int .i32 (0 : Int), PV.int .i32 (0 : Int), PV.int .i32 (0 : Int), PV.int .i32 (0 : Int), PV.int .i32 (0 : Int),
 PV.int .i32 (0 : Int), PV.int .i32 (0 : Int), PV.int .i32 (0 : Int), PV.int .i32 (0 : Int), PV.int .i32 (0 : Int), PV.int .i32 (0 : Int), PV.int .i32 (0 : Int), PV.int .i32 (0 : Int), PV.int .i32 (0 : Int), PV.int .i32 (0 : Int), PV.int
 .i32 (0 : Int), PV.int .i32 (0 : Int), PV.int .i32 (0 : Int), PV.int .i32 (0 : Int), PV.int .i32 (0 : Int), PV.int .i32 (0 : Int), PV.int .i32 (0 : Int), PV.int .i32 (0 : Int), PV.int .i32 (0 : Int), PV.int .i32 (0 : Int), PV.int .i32 (0 :
 Int), PV.int .i32 (0 : Int), PV.int .i32 (0 : Int), PV.int .i32 (0 : Int), PV.int .i32 (0 : Int), PV.int .i32 (0 : Int), PV.int .i32 (0 : Int), PV.int .i32 (0 : Int), PV.int .i32 (0 : Int), PV.int .i32 (0 : Int), PV.int .i32 (0 : Int),
 PV.int .i32 (0 : Int), PV.int .i32 (0 : Int), PV.int .i32 (0 : Int), PV.int .i32 (0 : Int), PV.int .i32 (0 : Int), PV.int .i32 (0 : Int), PV.int .i32 (0 : Int), PV.int .i32 (0 : Int), PV.int .i32 (0 : Int), PV.int .i32 (0 : Int), PV.int
 .i32 (0 : Int), PV.int .i32 (0 : Int), PV.int .i32 (0 : Int), PV.int .i32 (0 : Int), PV.int .i32 (0 : Int), PV.int .i32 (0 : Int), PV.int .i32 (0 : Int), PV.int .i32 (0 : Int), PV.int .i32 (0 : Int), PV.int .i32 (0 : Int), PV.int .i32 (0 :
 Int), PV.int .i32 (0 : Int), PV.int .i32 (0 : Int), PV.int .i32 (0 : Int), PV.int .i32 (0 : Int), PV.int .i32 (0 : Int), PV.int .i32 (0 : Int), PV.int .i32 (0 : Int), PV.int .i32 (0 : Int), PV.int .i32 (0 : Int), PV.int .i32 (0 : Int),
 PV.int .i32 (0 : Int), PV.int .i32 (0 : Int), PV.int .i32 (0 : Int), PV.int .i32 (0 : Int), PV.int .i32 (0 : Int), PV.int .i32 (0 : Int), PV.int .i32 (0 : Int), PV.int .i32 (0 : Int), PV.int .i32 (0 : Int), PV.int .i32 (0 : Int), PV.int
 .i32 (0 : Int), PV.int .i32 (0 : Int), PV.int .i32 (0 : Int), PV.int .i32 (0 : Int), PV.int .i32 (0 : Int), PV.int .i32 (0 : Int), PV.int .i32 (0 : Int), PV.int .i32 (0 : Int), PV.int .i32 (0 : Int), PV.int .i32 (0 : Int), PV.int .i32 (0 :
 Int), PV.int .i32 (0 : Int), PV.int .i32 (0 : Int), PV.int .i32 (0 : Int), PV.int .i32 (0 : Int), PV.int .i32 (0 : Int), PV.int .i32 (0 : Int), PV.int .i32 (0 : Int), PV.int .i32 (0 : Int), PV.int .i32 (0 : Int), PV.int .i32 (0 : Int),
 PV.int .i32 (0 : Int), PV.int .i32 (0 : Int), PV.int .i32 (0 : Int), PV.int .i32 (0 : Int), PV.int .i32 (0 : Int), PV.int .i32 (0 : Int), PV.int .i32 (0 : Int), PV.int .i32 (0 : Int), PV.int .i32 (0 : Int), PV.int .i32 (0 : Int), PV.int
 .i32 (0 : Int), PV.int .i32 (0 : Int), PV.int .i32 (0 : Int), PV.int .i32 (0 : Int), PV.int .i32 (0 : Int), PV.int .i32 (0 : Int), PV.int .i32 (0 : Int), PV.int .i32 (0 : Int), PV.int .i32 (0 : Int), PV.int .i32 (0 : Int), PV.int .i32 (0 :
 Int), PV.int .i32 (0 : Int), PV.int .i32 (0 : Int), PV.int .i32 (0 : Int), PV.int .i32 (0 : Int), PV.int .i32 (0 : Int), PV.int .i32 (0 : Int), PV.int .i32 (0 : Int), PV.int .i32 (0 : Int), PV.int .i32 (0 : Int), PV.int .i32 (0 : Int),
 PV.int .i32 (0 : Int), PV.int .i32 (0 : Int), PV.int .i32 (0 : Int), PV.int .i32 (0 : Int), PV.int .i32 (0 : Int), PV.int .i32 (0 : Int), PV.int .i32 (0 : Int), PV.int .i32 (0 : Int), PV.int .i32 (0 : Int), PV.int .i32 (0 : Int), PV.int
 .i32 (0 : Int), PV.int .i32 (0 : Int), PV.int .i32 (0 : Int), PV.int .i32 (0 : Int), PV.int .i32 (0 : Int), PV.int .i32 (0 : Int), PV.int .i32 (0 : Int), PV.int .i32 (0 : Int), PV.int .i32 (0 : Int), PV.int .i32 (0 : Int), PV.int .i32 (0 :
 Int), PV.int .i32 (0 : Int), PV.int .i32 (0 : Int), PV.int .i32 (0 : Int), PV.int .i32 (0 : Int), PV.int .i32 (0 : Int), PV.int .i32 (0 : Int), PV.int .i32 (0 : Int), PV.int .i32 (0 : Int), PV.int .i32 (0 : Int), PV.int .i32 (0 : Int),
 PV.int .i32 (0 : Int), PV.int .i32 (0 : Int), PV.int .i32 (0 : Int), PV.int .i32 (0 : Int), PV.int .i32 (0 : Int), PV.int .i32 (0 : Int), PV.int .i32 (0 : Int), PV.int .i32 (0 : Int), PV.int .i32 (0 : Int), PV.int .i32 (0 : Int), PV.int
 .i32 (0 : Int), PV.int .i32 (0 : Int), PV.int .i32 (0 : Int), PV.int .i32 (0 : Int), PV.int .i32 (0 : Int), PV.int .i32 (0 : Int), PV.int .i32 (0 : Int), PV.int .i32 (0 : Int), PV.int .i32 (0 : Int), PV.int .i32 (0 : Int), PV.int .i32 (0 :
 Int), PV.int .i32 (0 : Int), PV.int .i32 (0 : Int), PV.int .i32 (0 : Int), PV.int .i32 (0 : Int)] n_4 s_4 n_5 s_5 m_6 m_7 x101 x111 (IntKind.i64.wrap (x88 + (1 : Int))) h3_01 h3_11 (spl c_4 (0 + x88.toNat * 2) [PV.int .i32 h3_01, PV.int
 .i32 h3_11]) n_51 s_51 n_6 s_6 m_71 m_8 ∧ μ3 x101 x111 (IntKind.i64.wrap (x88 + (1 : Int))) h3_01 h3_11 (spl c_4 (0 + x88.toNat * 2) [PV.int .i32 h3_01, PV.int .i32 h3_11]) n_51 s_51 n_6 s_6 m_71 m_8 < μ3 x101 x111 x88 h3_01 h3_11 c_4 n_51
 s_51 n_6 s_6 m_71 m_8 else 256 ≤ (List.drop 0 c_4).length ∧ (ACall Try.prog 80 [LV.box 0 0, LV.pv (PV.agg (List.take 256 (List.drop 0 c_4)))] [Ob.box [LV.box 1 0, LV.mp 2, LV.mp 3], Ob.box [LV.pv (PV.int .i64 sz), LV.own 4, LV.own 5], Ob.mp
 m_71, Ob.mp m_8, Ob.sl (3, 1) false n_51 s_51, Ob.sl (118, 256) false n_6 s_6] fun (r : LV) (h' : Hp) ↦ ∃ (t : Int × List (PV × PV) × Bool × List (List PV)), (r = LV.pv (PV.int .i64 t.1) ∧ h' = [Ob.box [LV.box 1 0, LV.mp 2, LV.mp 3], Ob.box
 [LV.pv (PV.int .i64 sz), LV.own 4, LV.own 5], Ob.mp t.snd.fst, Ob.mp m_8, Ob.sl (3, 1) false n_51 s_51, Ob.sl (118, 256) true t.snd.snd.fst t.snd.snd.snd]) ∧ (True ∧ ((3, 1) = (3, 1) ∧ n_51 = n_51 ∧ s_51.length = s_51.length) ∧ True ∧ True
 ∧ True ∧ True ∧ True) ∧ (szOK [[PV.int .i64 t.1]] 1 ∧ (s_51.length + 1) * 8 ≤ 140737488355328) ∧ Same1 ([(0, LV.pv (PV.int .i64 sz)), (2, LV.pv (PV.sl n f es)), ((4 : Nat), LV.box 0 0), (7, LV.box 1 0), (8, LV.box 2 0), (9, LV.box 3 0),
 (10, LV.pv (PV.int .i64 x101)), (11, LV.pv (PV.int .i64 (IntKind.i64.wrap (x111 + (128 : Int)))))], [Ob.box [LV.pv (PV.int .i32 za), LV.pv (PV.int .i32 zb)], Ob.box [LV.pv (PV.int .i64 sz), LV.own 4, LV.own 5], Ob.box [LV.box 1 0, LV.mp 6,
 LV.mp 7], Ob.box [LV.pv (PV.int .i32 h3_01), LV.pv (PV.int .i32 h3_11)], Ob.sl (3, 1) true (n_51 && false) (s_51 ++ [[PV.int .i64 t.1]]), Ob.sl (118, 256) true t.snd.snd.fst t.snd.snd.snd, Ob.mp t.snd.fst, Ob.mp m_8]) ∧ J x101
 (IntKind.i64.wrap (x111 + (128 : Int))) h3_01 h3_11 (n_51 && false) (s_51 ++ [[PV.int .i64 t.1]]) t.snd.snd.fst t.snd.snd.snd t.snd.fst m_8 ∧ μ x101 (IntKind.i64.wrap (x111 + (128 : Int))) h3_01 h3_11 (n_51 && false) (s_51 ++ [[PV.int .i64
 t.1]]) t.snd.snd.fst t.snd.snd.snd t.snd.fst m_8 < μ x10 x11 h3_0 h3_1 n_4 s_4 n_5 s_5 m_6 m_7) ∧ ACall Try.prog 80 [LV.box 0 0, LV.pv (PV.agg (List.take 256 (List.drop 0 c_4)))] [Ob.box [LV.box 1 0, LV.mp 2, LV.mp 3], Ob.box [LV.pv (PV.int
 .i64 sz), LV.own 4, LV.own 5], Ob.mp m_71, Ob.mp m_8, Ob.sl (3, 1) false n_51 s_51, Ob.sl (118, (256 : Nat)) false n_6 s_6] fun (r : LV) (h' : Hp) ↦ ∃ (t : Int × List (PV × PV) × Bool × List (List PV)), (r = LV.pv (PV.int .i64 t.1) ∧ h' =
 [Ob.box [LV.box 1 0, LV.mp 2, LV.mp 3], Ob.box [LV.pv (PV.int .i64 sz), LV.own 4, LV.own 5], Ob.mp t.snd.fst, Ob.mp m_8, Ob.sl (3, 1) false n_51 s_51, Ob.sl (118, 256) true t.snd.snd.fst t.snd.snd.snd]) ∧ (True ∧ ((3, (1 : Nat)) = (3, 1) ∧
 n_51 = n_51 ∧ s_51.length = s_51.length) ∧ True ∧ True ∧ True ∧ True ∧ True) ∧ (szOK [[PV.int .i64 t.1]] 1 ∧ (s_51.length + 1) * 8 ≤ 140737488355328) ∧ Same1 ([(0, LV.pv (PV.int .i64 sz)), (2, LV.pv (PV.sl n f es)), (4, LV.box 0 0), (7,
 LV.box 1 0), (8, LV.box 2 0), (9, LV.box 3 0), (10, LV.pv (PV.int .i64 x101)), (11, LV.pv (PV.int .i64 (IntKind.i64.wrap (x111 + (128 : Int)))))], [Ob.box [LV.pv (PV.int .i32 za), LV.pv (PV.int .i32 zb)], Ob.box [LV.pv (PV.int .i64 sz),
 LV.own 4, LV.own 5], Ob.box [LV.box 1 0, LV.mp 6, LV.mp 7], Ob.box [LV.pv (PV.int .i32 h3_01), LV.pv (PV.int .i32 h3_11)], Ob.sl (3, 1) true (n_51 && false) (s_51 ++ [[PV.int .i64 t.1]]), Ob.sl (118, 256) true t.snd.snd.fst t.snd.snd.snd,
 Ob.mp t.snd.fst, Ob.mp m_8]) ∧ J x101 (IntKind.i64.wrap (x111 + (128 : Int))) h3_01 h3_11 (n_51 && false) (s_51 ++ [[PV.int .i64 t.1]]) t.snd.snd.fst t.snd.snd.snd t.snd.fst m_8 ∧ μ x101 (IntKind.i64.wrap (x111 + (128 : Int))) h3_01 h3_11
 (n_51 && false) (s_51 ++ [[PV.int .i64 t.1]]) t.snd.snd.fst t.snd.snd.snd t.snd.fst m_8 < μ x10 x11 h3_0 h3_1 n_4 s_4 n_5 s_5 m_6 m_7 else if decide (x10 ≥ IntKind.i64.wrap ((if sz < IntKind.i64.wrap (x11 + (128 : Int)) then sz else
 IntKind.i64.wrap (x11 + (128 : Int))) - (1 : Int))) = true then ACall Try.prog 79 [LV.box 0 0, LV.pv (PV.agg [PV.int .i32 h3_0, PV.int .i32 h3_1])] [Ob.box [LV.box 1 0, LV.mp 2, LV.mp 3], Ob.box [LV.pv (PV.int .i64 sz), LV.own 4, LV.own 5],
 Ob.mp m_6, Ob.mp m_7, Ob.sl (3, 1) false n_4 s_4, Ob.sl (118, 256) false n_5 s_5] fun (r : LV) (h' : Hp) ↦ ∃ (t : Int × List (PV × PV) × List (PV × PV) × Bool × List (List PV)), (r = LV.pv (PV.int .i64 t.1) ∧ h' = [Ob.box [LV.box 1 0, LV.mp
 2, LV.mp 3], Ob.box [LV.pv (PV.int .i64 sz), LV.own 4, LV.own 5], Ob.mp t.snd.fst, Ob.mp t.snd.snd.fst, Ob.sl (3, 1) false n_4 s_4, Ob.sl (118, 256) true t.snd.snd.snd.fst t.snd.snd.snd.snd]) ∧ (True ∧ ((3, 1) = (3, 1) ∧ n_4 = n_4 ∧
 s_4.length = s_4.length) ∧ True ∧ True ∧ True ∧ True ∧ True) ∧ (Same1 ([(0, LV.pv (PV.int .i64 sz)), (2, LV.pv (PV.sl n f es)), (4, LV.box 0 0), (7, LV.box 1 0), (8, LV.box 2 0), (9, LV.box 3 0), (10, LV.pv (PV.int .i64 x10)), (11, LV.pv
 (PV.int .i64 x11)), (13, LV.pv (PV.int .i64 t.1))], [Ob.box [LV.pv (PV.int .i32 za), LV.pv (PV.int .i32 zb)], Ob.box [LV.pv (PV.int .i64 sz), LV.own 4, LV.own 5], Ob.box [LV.box 1 0, LV.mp 6, LV.mp 7], Ob.box [LV.pv (PV.int .i32 h3_0),
 LV.pv (PV.int .i32 h3_1)], Ob.sl (3, 1) true n_4 s_4, Ob.sl (118, 256) true t.snd.snd.snd.fst t.snd.snd.snd.snd, Ob.mp t.snd.fst, Ob.mp t.snd.snd.fst]) ∧ J2 x10 x11 t.1 h3_0 h3_1 n_4 s_4 t.snd.snd.snd.fst t.snd.snd.snd.snd t.snd.fst
 t.snd.snd.fst x10 x11 t.1 h3_0 h3_1 n_4 s_4 t.snd.snd.snd.fst t.snd.snd.snd.snd t.snd.fst t.snd.snd.fst) ∧ ∀ (x101 x111 x13 h3_01 h3_11 : Int) (n_41 : Bool) (s_41 : List (List PV)) (n_51 : Bool) (s_51 : List (List PV)) (m_61 m_71 : List (PV
 × PV)), J2 x10 x11 t.1 h3_0 h3_1 n_4 s_4 t.snd.snd.snd.fst t.snd.snd.snd.snd t.snd.fst t.snd.snd.fst x101 x111 x13 h3_01 h3_11 n_41 s_41 n_51 s_51 m_61 m_71 → if (decide (x111 < sz) && decide (x101 ≥ IntKind.i64.wrap ((if sz <
 IntKind.i64.wrap (x111 + (128 : Int)) then sz else IntKind.i64.wrap (x111 + (128 : Int))) - (1 : Int)))) = true then (szOK [[PV.int .i64 x13]] 1 ∧ (s_41.length + 1) * 8 ≤ (140737488355328 : Nat)) ∧ Same1 ([(0, LV.pv (PV.int .i64 sz)), (2,
 LV.pv (PV.sl n f es)), (4, LV.box 0 0), (7, LV.box 1 0), (8, LV.box 2 0), (9, LV.box 3 0), (10, LV.pv (PV.int .i64 x101)), (11, LV.pv (PV.int .i64 (IntKind.i64.wrap (x111 + (128 : Int))))), (13, LV.pv (PV.int .i64 x13))], [Ob.box [LV.pv
 (PV.int .i32 za), LV.pv (PV.int .i32 zb)], Ob.box [LV.pv (PV.int .i64 sz), LV.own 4, LV.own 5], Ob.box [LV.box 1 0, LV.mp 6, LV.mp 7], Ob.box [LV.pv (PV.int .i32 h3_01), LV.pv (PV.int .i32 h3_11)], Ob.sl (3, 1) true (n_41 && false) (s_41 ++
 [[PV.int .i64 x13]]), Ob.sl (118, 256) true n_51 s_51, Ob.mp m_61, Ob.mp m_71]) ∧ J2 x10 x11 t.1 h3_0 h3_1 n_4 s_4 t.snd.snd.snd.fst t.snd.snd.snd.snd t.snd.fst t.snd.snd.fst x101 (IntKind.i64.wrap (x111 + (128 : Int))) x13 h3_01 h3_11
 (n_41 && false) (s_41 ++ [[PV.int .i64 x13]]) n_51 s_51 m_61 m_71 ∧ μ2 x101 (IntKind.i64.wrap (x111 + (128 : Int))) x13 h3_01 h3_11 (n_41 && false) (s_41 ++ [[PV.int .i64 x13]]) n_51 s_51 m_61 m_71 < μ2 x101 x111 x13 h3_01 h3_11 n_41 s_41
 n_51 s_51 m_61 m_71 else Same1 ([(0, LV.pv (PV.int .i64 sz)), (2, LV.pv (PV.sl n f es)), (4, LV.box 0 0), (7, LV.box 1 0), (8, LV.box 2 0), (9, LV.box 3 0), (10, LV.pv (PV.int .i64 x101)), (11, LV.pv (PV.int .i64 (IntKind.i64.wrap
 (IntKind.i64.wrap (x111 - (128 : Int)) + (128 : Int)))))], [Ob.box [LV.pv (PV.int .i32 za), LV.pv (PV.int .i32 zb)], Ob.box [LV.pv (PV.int .i64 sz), LV.own 4, LV.own 5], Ob.box [LV.box 1 0, LV.mp 6, LV.mp 7], Ob.box [LV.pv (PV.int .i32
 h3_01), LV.pv (PV.int .i32 h3_11)], Ob.sl (3, 1) true n_41 s_41, Ob.sl (118, 256) true n_51 s_51, Ob.mp m_61, Ob.mp m_71]) ∧ J x101 (IntKind.i64.wrap (IntKind.i64.wrap (x111 - (128 : Int)) + (128 : Int))) h3_01 h3_11 n_41 s_41 n_51 s_51
 m_61 m_71 ∧ μ x101 (IntKind.i64.wrap (IntKind.i64.wrap (x111 - (128 : Int)) + (128 : Int))) h3_01 h3_11 n_41 s_41 n_51 s_51 m_61 m_71 < μ x10 x11 h3_0 h3_1 n_4 s_4 n_5 s_5 m_6 m_7 else (Same1 ([(0, LV.pv (PV.int .i64 sz)), (2, LV.pv (PV.sl
 n f es)), (4, LV.box 0 0), (7, LV.box 1 0), (8, LV.box 2 0), (9, LV.box 3 0), (10, LV.pv (PV.int .i64 x10)), (11, LV.pv (PV.int .i64 x11)), (14, LV.box 4 0), (88, LV.pv (PV.int .i64 (0 : Int)))], [Ob.box [LV.pv (PV.int .i32 za), LV.pv
 (PV.int .i32 zb)], Ob.box [LV.pv (PV.int .i64 sz), LV.own 5, LV.own 6], Ob.box [LV.box 1 0, LV.mp 7, LV.mp 8], Ob.box [LV.pv (PV.int .i32 h3_0), LV.pv (PV.int .i32 h3_1)], Ob.arr (List.replicate 256 (PV.int .i32 (0 : Int))), Ob.sl (3, 1)
 true n_4 s_4, Ob.sl (118, 256) true n_5 s_5, Ob.mp m_6, Ob.mp m_7]) ∧ J3 x10 x11 (0 : Int) h3_0 h3_1 (List.replicate 256 (PV.int .i32 (0 : Int))) n_4 s_4 n_5 s_5 m_6 m_7 x10 x11 (0 : Int) h3_0 h3_1 (List.replicate 256 (PV.int .i32 (0 :
 Int))) n_4 s_4 n_5 s_5 m_6 m_7) ∧ ∀ (x101 x111 x88 h3_01 h3_11 : Int) (c_4 : List PV) (n_51 : Bool) (s_51 : List (List PV)) (n_6 : Bool) (s_6 : List (List PV)) (m_71 m_8 : List (PV × PV)), J3 x10 x11 (0 : Int) h3_0 h3_1 (List.replicate 256
 (PV.int .i32 (0 : Int))) n_4 s_4 n_5 s_5 m_6 m_7 x101 x111 x88 h3_01 h3_11 c_4 n_51 s_51 n_6 s_6 m_71 m_8 → if decide (x88 < (128 : Int)) = true then if (decide (IntKind.i64.wrap (x111 + x88) > x101) && decide (IntKind.i64.wrap (x111 + x88)
 < sz)) = true then PCall Try.prog 78 [PV.sl n f es, PV.agg [PV.int .i32 za, PV.int .i32 zb], PV.int .i64 (IntKind.i64.wrap (x111 + x88)), PV.int .i64 (IntKind.i64.wrap (sz - (1 : Int)))] fun (v1 : PV) ↦ ∃ (vs1 : List PV), v1 = PV.tup vs1 ∧
 vs1.length = 2 ∧ ∃ (x2 : PV), vs1.head? = some x2 ∧ ∃ (cs1 : List PV), x2 = PV.agg cs1 ∧ cs1.length = 2 ∧ ∃ (n4 : Int), cs1.head? = some (PV.int .i32 n4) ∧ ∃ (n5 : Int), cs1.tail.head? = some (PV.int .i32 n5) ∧ ∃ (x3 : PV), vs1.tail.head? =
 some x3 ∧ ∃ (n6 : Int), x3 = PV.int .i64 n6 ∧ ((0 : Int) ≤ x88 ∧ x88 < (↑128 : Int)) ∧ (2 = 2 ∧ 0 + x88.toNat * 2 + 2 ≤ c_4.length) ∧ Same1 ([(0, LV.pv (PV.int .i64 sz)), (2, LV.pv (PV.sl n f es)), (4, LV.box 0 0), (7, LV.box 1 0), (8,
 LV.box 2 0), (9, LV.box 3 0), (10, LV.pv (PV.int .i64 n6)), (11, LV.pv (PV.int .i64 x111)), (14, LV.box 4 0), (88, LV.pv (PV.int .i64 (IntKind.i64.wrap (x88 + (1 : Int)))))], [Ob.box [LV.pv (PV.int .i32 za), LV.pv (PV.int .i32 zb)], Ob.box
 [LV.pv (PV.int .i64 sz), LV.own 5, LV.own 6], Ob.box [LV.box 1 0, LV.mp 7, LV.mp 8], Ob.box [LV.pv (PV.int .i32 n4), LV.pv (PV.int .i32 n5)], Ob.arr (spl c_4 (0 + x88.toNat * 2) [PV.int .i32 n4, PV.int .i32 n5]), Ob.sl (3, 1) true n_51
 s_51, Ob.sl (118, 256) true n_6 s_6, Ob.mp m_71, Ob.mp m_8]) ∧ J3 x10 x11 (0 : Int) h3_0 h3_1 [PV.int .i32 (0 : Int), PV.int .i32 (0 : Int), PV.int .i32 (0 : Int), PV.int .i32 (0 : Int), PV.int .i32 (0 : Int), PV.int .i32 (0 : Int), PV.int
 .i32 (0 : Int), PV.int .i32 (0 : Int), PV.int .i32 (0 : Int), PV.int .i32 (0 : Int), PV.int .i32 (0 : Int), PV.int .i32 (0 : Int), PV.int .i32 (0 : Int), PV.int .i32 (0 : Int), PV.int .i32 (0 : Int), PV.int .i32 (0 : Int), PV.int .i32 (0 :
 Int), PV.int .i32 (0 : Int), PV.int .i32 (0 : Int), PV.int .i32 (0 : Int), PV.int .i32 (0 : Int), PV.int .i32 (0 : Int), PV.int .i32 (0 : Int), PV.int .i32 (0 : Int), PV.int .i32 (0 : Int), PV.int .i32 (0 : Int), PV.int .i32 (0 : Int),
 PV.int .i32 (0 : Int), PV.int .i32 (0 : Int), PV.int .i32 (0 : Int), PV.int .i32 (0 : Int), PV.int .i32 (0 : Int), PV.int .i32 (0 : Int), PV.int .i32 (0 : Int), PV.int .i32 (0 : Int), PV.int .i32 (0 : Int), PV.int .i32 (0 : Int), PV.int
 .i32 (0 : Int), PV.int .i32 (0 : Int), PV.int .i32 (0 : Int), PV.int .i32 (0 : Int), PV.int .i32 (0 : Int), PV.int .i32 (0 : Int), PV.int .i32 (0 : Int), PV.int .i32 (0 : Int), PV.int .i32 (0 : Int), PV.int .i32 (0 : Int), PV.int .i32 (0 :
 Int), PV.int .i32 (0 : Int), PV.int .i32 (0 : Int), PV.int .i32 (0 : Int), PV.int .i32 (0 : Int), PV.int .i32 (0 : Int), PV.int .i32 (0 : Int), PV.int .i32 (0 : Int), PV.int .i32 (0 : Int), PV.int .i32 (0 : Int), PV.int .i32 (0 : Int),
 PV.int .i32 (0 : Int), PV.int .i32 (0 : Int), PV.int .i32 (0 : Int), PV.int .i32 (0 : Int), PV.int .i32 (0 : Int), PV.int .i32 (0 : Int), PV.int .i32 (0 : Int), PV.int .i32 (0 : Int), PV.int .i32 (0 : Int), PV.int .i32 (0 : Int), PV.int
 .i32 (0 : Int), PV.int .i32 (0 : Int), PV.int .i32 (0 : Int), PV.int .i32 (0 : Int), PV.int .i32 (0 : Int), PV.int .i32 (0 : Int), PV.int .i32 (0 : Int), PV.int .i32 (0 : Int), PV.int .i32 (0 : Int), PV.int .i32 (0 : Int), PV.int .i32 (0 :
 Int), PV.int .i32 (0 : Int), PV.int .i32 (0 : Int), PV.int .i32 (0 : Int), PV.int .i32 (0 : Int), PV.int .i32 (0 : Int), PV.int .i32 (0 : Int), PV.int .i32 (0 : Int), PV.int .i32 (0 : Int), PV.int .i32 (0 : Int), PV.int .i32 (0 : Int),
 PV.int .i32 (0 : Int), PV.int .i32 (0 : Int), PV.int .i32 (0 : Int), PV.int .i32 (0 : Int), PV.int .i32 (0 : Int), PV.int .i32 (0 : Int), PV.int .i32 (0 : Int), PV.int .i32 (0 : Int), PV.int .i32 (0 : Int), PV.int .i32 (0 : Int), PV.int
 .i32 (0 : Int), PV.int .i32 (0 : Int), PV.int .i32 (0 : Int), PV.int .i32 (0 : Int), PV.int .i32 (0 : Int), PV.int .i32 (0 : Int), PV.int .i32 (0 : Int), PV.int .i32 (0 : Int), PV.int .i32 (0 : Int), PV.int .i32 (0 : Int), PV.int .i32 (0 :
 Int), PV.int .i32 (0 : Int), PV.int .i32 (0 : Int), PV.int .i32 (0 : Int), PV.int .i32 (0 : Int), PV.int .i32 (0 : Int), PV.int .i32 (0 : Int), PV.int .i32 (0 : Int), PV.int .i32 (0 : Int), PV.int .i32 (0 : Int), PV.int .i32 (0 : Int),
 PV.int .i32 (0 : Int), PV.int .i32 (0 : Int), PV.int .i32 (0 : Int), PV.int .i32 (0 : Int), PV.int .i32 (0 : Int), PV.int .i32 (0 : Int), PV.int .i32 (0 : Int), PV.int .i32 (0 : Int), PV.int .i32 (0 : Int), PV.int .i32 (0 : Int), PV.int
 .i32 (0 : Int), PV.int .i32 (0 : Int), PV.int .i32 (0 : Int), PV.int .i32 (0 : Int), PV.int .i32 (0 : Int), PV.int .i32 (0 : Int), PV.int .i32 (0 : Int), PV.int .i32 (0 : Int), PV.int .i32 (0 : Int), PV.int .i32 (0 : Int), PV.int .i32 (0 :
 Int), PV.int .i32 (0 : Int), PV.int .i32 (0 : Int), PV.int .i32 (0 : Int), PV.int .i32 (0 : Int), PV.int .i32 (0 : Int), PV.int .i32 (0 : Int), PV.int .i32 (0 : Int), PV.int .i32 (0 : Int), PV.int .i32 (0 : Int), PV.int .i32 (0 : Int),
 PV.int .i32 (0 : Int), PV.int .i32 (0 : Int), PV.int .i32 (0 : Int), PV.int .i32 (0 : Int), PV.int .i32 (0 : Int), PV.int .i32 (0 : Int), PV.int .i32 (0 : Int), PV.int .i32 (0 : Int), PV.int .i32 (0 : Int), PV.int .i32 (0 : Int), PV.int
 .i32 (0 : Int), PV.int .i32 (0 : Int), PV.int .i32 (0 : Int), PV.int .i32 (0 : Int), PV.int .i32 (0 : Int), PV.int .i32 (0 : Int), PV.int .i32 (0 : Int), PV.int .i32 (0 : Int), PV.int .i32 (0 : Int), PV.int .i32 (0 : Int), PV.int .i32 (0 :
 Int), PV.int .i32 (0 : Int), PV.int .i32 (0 : Int), PV.int .i32 (0 : Int), PV.int .i32 (0 : Int), PV.int .i32 (0 : Int), PV.int .i32 (0 : Int), PV.int .i32 (0 : Int), PV.int .i32 (0 : Int), PV.int .i32 (0 : Int), PV.int .i32 (0 : Int),
 PV.int .i32 (0 : Int), PV.int .i32 (0 : Int), PV.int .i32 (0 : Int), PV.int .i32 (0 : Int), PV.int .i32 (0 : Int), PV.int .i32 (0 : Int), PV.int .i32 (0 : Int), PV.int .i32 (0 : Int), PV.int .i32 (0 : Int), PV.int .i32 (0 : Int), PV.int
 .i32 (0 : Int), PV.int .i32 (0 : Int), PV.int .i32 (0 : Int), PV.int .i32 (0 : Int), PV.int .i32 (0 : Int), PV.int .i32 (0 : Int), PV.int .i32 (0 : Int), PV.int .i32 (0 : Int), PV.int .i32 (0 : Int), PV.int .i32 (0 : Int), PV.int .i32 (0 :
 Int), PV.int .i32 (0 : Int), PV.int .i32 (0 : Int), PV.int .i32 (0 : Int), PV.int .i32 (0 : Int), PV.int .i32 (0 : Int), PV.int .i32 (0 : Int), PV.int .i32 (0 : Int), PV.int .i32 (0 : Int), PV.int .i32 (0 : Int), PV.int .i32 (0 : Int),
 PV.int .i32 (0 : Int), PV.int .i32 (0 : Int), PV.int .i32 (0 : Int), PV.int .i32 (0 : Int), PV.int .i32 (0 : Int), PV.int .i32 (0 : Int), PV.int .i32 (0 : Int), PV.int .i32 (0 : Int), PV.int .i32 (0 : Int), PV.int .i32 (0 : Int), PV.int
 .i32 (0 : Int), PV.int .i32 (0 : Int), PV.int .i32 (0 : Int), PV.int .i32 (0 : Int), PV.int .i32 (0 : Int), PV.int .i32 (0 : Int), PV.int .i32 (0 : Int), PV.int .i32 (0 : Int), PV.int .i32 (0 : Int), PV.int .i32 (0 : Int), PV.int .i32 (0 :
 Int), PV.int .i32 (0 : Int), PV.int .i32 (0 : Int), PV.int .i32 (0 : Int), PV.int .i32 (0 : Int), PV.int .i32 (0 : Int), PV.int .i32 (0 : Int), PV.int .i32 (0 : Int), PV.int .i32 (0 : Int), PV.int .i32 (0 : Int), PV.int .i32 (0 : Int),
 PV.int .i32 (0 : Int), PV.int .i32 (0 : Int), PV.int .i32 (0 : Int), PV.int .i32 (0 : Int), PV.int .i32 (0 : Int), PV.int .i32 (0 : Int), PV.int .i32 (0 : Int), PV.int .i32 (0 : Int), PV.int .i32 (0 : Int), PV.int .i32 (0 : Int), PV.int
 .i32 (0 : Int), PV.int .i32 (0 : Int)] n_4 s_4 n_5 s_5 m_6 m_7 n6 x111 (IntKind.i64.wrap (x88 + (1 : Int))) n4 n5 (spl c_4 (0 + x88.toNat * 2) [PV.int .i32 n4, PV.int .i32 n5]) n_51 s_51 n_6 s_6 m_71 m_8 ∧ μ3 n6 x111 (IntKind.i64.wrap (x88
 + (1 : Int))) n4 n5 (spl c_4 (0 + x88.toNat * 2) [PV.int .i32 n4, PV.int .i32 n5]) n_51 s_51 n_6 s_6 m_71 m_8 < μ3 x101 x111 x88 h3_01 h3_11 c_4 n_51 s_51 n_6 s_6 m_71 m_8 else ((0 : Int) ≤ x88 ∧ x88 < (↑128 : Int)) ∧ (2 = 2 ∧ (0 : Nat) +
 x88.toNat * 2 + 2 ≤ c_4.length) ∧ Same1 ([(0, LV.pv (PV.int .i64 sz)), (2, LV.pv (PV.sl n f es)), (4, LV.box 0 0), (7, LV.box 1 0), (8, LV.box 2 0), (9, LV.box 3 0), (10, LV.pv (PV.int .i64 x101)), (11, LV.pv (PV.int .i64 x111)), (14,
 LV.box 4 0), (88, LV.pv (PV.int .i64 (IntKind.i64.wrap (x88 + (1 : Int)))))], [Ob.box [LV.pv (PV.int .i32 za), LV.pv (PV.int .i32 zb)], Ob.box [LV.pv (PV.int .i64 sz), LV.own 5, LV.own 6], Ob.box [LV.box 1 0, LV.mp 7, LV.mp 8], Ob.box
 [LV.pv (PV.int .i32 h3_01), LV.pv (PV.int .i32 h3_11)], Ob.arr (spl c_4 (0 + x88.toNat * 2) [PV.int .i32 h3_01, PV.int .i32 h3_11]), Ob.sl (3, 1) true n_51 s_51, Ob.sl (118, 256) true n_6 s_6, Ob.mp m_71, Ob.mp m_8]) ∧ J3 x10 x11 (0 : Int)
 h3_0 h3_1 (List.replicate 256 (PV.int .i32 (0 : Int))) n_4 s_4 n_5 s_5 m_6 m_7 x101 x111 (IntKind.i64.wrap (x88 + (1 : Int))) h3_01 h3_11 (spl c_4 (0 + x88.toNat * 2) [PV.int .i32 h3_01, PV.int .i32 h3_11]) n_51 s_51 n_6 s_6 m_71 m_8 ∧ μ3
 x101 x111 (IntKind.i64.wrap (x88 + (1 : Int))) h3_01 h3_11 (spl c_4 (0 + x88.toNat * 2) [PV.int .i32 h3_01, PV.int .i32 h3_11]) n_51 s_51 n_6 s_6 m_71 m_8 < μ3 x101 x111 x88 h3_01 h3_11 c_4 n_51 s_51 n_6 s_6 m_71 m_8 else 256 ≤ (List.drop 0
 c_4).length ∧ (ACall Try.prog 80 [LV.box 0 0, LV.pv (PV.agg (List.take 256 (List.drop 0 c_4)))] [Ob.box [LV.box 1 0, LV.mp 2, LV.mp 3], Ob.box [LV.pv (PV.int .i64 sz), LV.own 4, LV.own 5], Ob.mp m_71, Ob.mp m_8, Ob.sl (3, 1) false n_51
 s_51, Ob.sl (118, 256) false n_6 s_6] fun (r : LV) (h' : Hp) ↦ ∃ (t : Int × List (PV × PV) × Bool × List (List PV)), (r = LV.pv (PV.int .i64 t.1) ∧ h' = [Ob.box [LV.box 1 0, LV.mp 2, LV.mp 3], Ob.box [LV.pv (PV.int .i64 sz), LV.own 4,
 LV.own 5], Ob.mp t.snd.fst, Ob.mp m_8, Ob.sl (3, 1) false n_51 s_51, Ob.sl (118, 256) true t.snd.snd.fst t.snd.snd.snd]) ∧ (True ∧ ((3, 1) = (3, 1) ∧ n_51 = n_51 ∧ s_51.length = s_51.length) ∧ True ∧ True ∧ True ∧ True ∧ True) ∧ (szOK
 [[PV.int .i64 t.1]] 1 ∧ (s_51.length + 1) * 8 ≤ 140737488355328) ∧ Same1 ([(0, LV.pv (PV.int .i64 sz)), (2, LV.pv (PV.sl n f es)), ((4 : Nat), LV.box 0 0), (7, LV.box 1 0), (8, LV.box 2 0), (9, LV.box 3 0), (10, LV.pv (PV.int .i64 x101)),
 (11, LV.pv (PV.int .i64 (IntKind.i64.wrap (x111 + (128 : Int)))))], [Ob.box [LV.pv (PV.int .i32 za), LV.pv (PV.int .i32 zb)], Ob.box [LV.pv (PV.int .i64 sz), LV.own 4, LV.own 5], Ob.box [LV.box 1 0, LV.mp 6, LV.mp 7], Ob.box [LV.pv (PV.int
 .i32 h3_01), LV.pv (PV.int .i32 h3_11)], Ob.sl (3, 1) true (n_51 && false) (s_51 ++ [[PV.int .i64 t.1]]), Ob.sl (118, 256) true t.snd.snd.fst t.snd.snd.snd, Ob.mp t.snd.fst, Ob.mp m_8]) ∧ J x101 (IntKind.i64.wrap (x111 + (128 : Int))) h3_01
 h3_11 (n_51 && false) (s_51 ++ [[PV.int .i64 t.1]]) t.snd.snd.fst t.snd.snd.snd t.snd.fst m_8 ∧ μ x101 (IntKind.i64.wrap (x111 + (128 : Int))) h3_01 h3_11 (n_51 && false) (s_51 ++ [[PV.int .i64 t.1]]) t.snd.snd.fst t.snd.snd.snd t.snd.fst
 m_8 < μ x10 x11 h3_0 h3_1 n_4 s_4 n_5 s_5 m_6 m_7) ∧ ACall Try.prog 80 [LV.box 0 0, LV.pv (PV.agg (List.take 256 (List.drop 0 c_4)))] [Ob.box [LV.box 1 0, LV.mp 2, LV.mp 3], Ob.box [LV.pv (PV.int .i64 sz), LV.own 4, LV.own 5], Ob.mp m_71,
 Ob.mp m_8, Ob.sl (3, 1) false n_51 s_51, Ob.sl (118, (256 : Nat)) false n_6 s_6] fun (r : LV) (h' : Hp) ↦ ∃ (t : Int × List (PV × PV) × Bool × List (List PV)), (r = LV.pv (PV.int .i64 t.1) ∧ h' = [Ob.box [LV.box 1 0, LV.mp 2, LV.mp 3],
 Ob.box [LV.pv (PV.int .i64 sz), LV.own 4, LV.own 5], Ob.mp t.snd.fst, Ob.mp m_8, Ob.sl (3, 1) false n_51 s_51, Ob.sl (118, 256) true t.snd.snd.fst t.snd.snd.snd]) ∧ (True ∧ ((3, (1 : Nat)) = (3, 1) ∧ n_51 = n_51 ∧ s_51.length = s_51.length)
 ∧ True ∧ True ∧ True ∧ True ∧ True) ∧ (szOK [[PV.int .i64 t.1]] 1 ∧ (s_51.length + 1) * 8 ≤ 140737488355328) ∧ Same1 ([(0, LV.pv (PV.int .i64 sz)), (2, LV.pv (PV.sl n f es)), (4, LV.box 0 0), (7, LV.box 1 0), (8, LV.box 2 0), (9, LV.box 3
 0), (10, LV.pv (PV.int .i64 x101)), (11, LV.pv (PV.int .i64 (IntKind.i64.wrap (x111 + (128 : Int)))))], [Ob.box [LV.pv (PV.int .i32 za), LV.pv (PV.int .i32 zb)], Ob.box [LV.pv (PV.int .i64 sz), LV.own 4, LV.own 5], Ob.box [LV.box 1 0, LV.mp
 6, LV.mp 7], Ob.box [LV.pv (PV.int .i32 h3_01), LV.pv (PV.int .i32 h3_11)], Ob.sl (3, 1) true (n_51 && false) (s_51 ++ [[PV.int .i64 t.1]]), Ob.sl (118, 256) true t.snd.snd.fst t.snd.snd.snd, Ob.mp t.snd.fst, Ob.mp m_8]) ∧ J x101
 (IntKind.i64.wrap (x111 + (128 : Int))) h3_01 h3_11 (n_51 && false) (s_51 ++ [[PV.int .i64 t.1]]) t.snd.snd.fst t.snd.snd.snd t.snd.fst m_8 ∧ μ x101 (IntKind.i64.wrap (x111 + (128 : Int))) h3_01 h3_11 (n_51 && false) (s_51 ++ [[PV.int .i64
 t.1]]) t.snd.snd.fst t.snd.snd.snd t.snd.fst m_8 < μ x10 x11 h3_0 h3_1 n_4 s_4 n_5 s_5 m_6 m_7 else R (PV.ptr [PV.int .i64 sz, PV.sl n_4 false s_4, PV.sl n_5 false s_5])
theorem e_trie_Build_ucd_pair (sz : Int) (za zb : Int) (n f : Bool) (es : List (List PV)) (J : (Int) → (Int) → (Int) → (Int) → (Bool) → (List (List PV)) → (Bool) → (List (List PV)) → (List (PV × PV)) → (List (PV × PV)) → Prop) (μ : (Int) → (Int) → (Int) → (Int) → (Bool) → (List (List PV)) → (Bool) → (List (List PV)) → (List (PV × PV)) → (List (PV × PV)) → Nat) (J2 : (Int) → (Int) → (Int) → (Int) → (Int) → (Bool) → (List (List PV)) → (Bool) → (List (List PV)) → (List (PV × PV)) → (List (PV × PV)) → (Int) → (Int) → (Int) → (Int) → (Int) → (Bool) → (List (List PV)) → (Bool) → (List (List PV)) → (List (PV × PV)) → (List (PV × PV)) → Prop) (μ2 : (Int) → (Int) → (Int) → (Int) → (Int) → (Bool) → (List (List PV)) → (Bool) → (List (List PV)) → (List (PV × PV)) → (List (PV × PV)) → Nat) (J3 : (Int) → (Int) → (Int) → (Int) → (Int) → (List PV) → (Bool) → (List (List PV)) → (Bool) → (List (List PV)) → (List (PV × PV)) → (List (PV × PV)) → (Int) → (Int) → (Int) → (Int) → (Int) → (List PV) → (Bool) → (List (List PV)) → (Bool) → (List (List PV)) → (List (PV × PV)) → (List (PV × PV)) → Prop) (μ3 : (Int) → (Int) → (Int) → (Int) → (Int) → (List PV) → (Bool) → (List (List PV)) → (Bool) → (List (List PV)) → (List (PV × PV)) → (List (PV × PV)) → Nat) (R : PV → Prop) : aFn Try.prog (fun zz_ => match zz_ with | 80 => some ⟨Int × List (PV × PV) × Bool × List (List PV), fun _ hs t => (.pv (.int .i64 t.1), match hs with | [m, r, .mp _, ev, ix, .sl a _ _ _] => [m, r, .mp t.2.1, ev, ix, .sl a true t.2.2.1 t.2.2.2] | h => h), none⟩ | 79 => some ⟨Int × List (PV × PV) × List (PV × PV) × Bool × List (List PV), fun _ hs t => (.pv (.int .i64 t.1), match hs with | [m, r, .mp _, .mp _, ix, .sl a _ _ _] => [m, r, .mp t.2.1, .mp t.2.2.1, ix, .sl a true t.2.2.2.1 t.2.2.2.2] | h => h), none⟩ | _ => none) Try.f48 [0, 1, 2, 4, 6, 7, 8, 9, 10, 11, 12, 13, 14, 15, 17, 36, 41, 58, 73, 88, 89, 102] (fun zz_ => match zz_ with | 7 => some ⟨Int × Int × Int × Int × Bool × (List (List PV)) × Bool × (List (List PV)) × (List (PV × PV)) × (List (PV × PV)), fun s => (fun (x10 : Int) (x11 : Int) (h3_0 : Int) (h3_1 : Int) (n_4 : Bool) (s_4 : List (List PV)) (n_5 : Bool) (s_5 : List (List PV)) (m_6 : List (PV × PV)) (m_7 : List (PV × PV)) => ([(0, LV.pv (PV.int IntKind.i64 sz)), (2, LV.pv (PV.sl n f es)), (4, LV.box 0 0), (7, LV.box 1 0), (8, LV.box 2 0), (9, LV.box 3 0), (10, .pv (.int IntKind.i64 x10)), (11, .pv (.int IntKind.i64 x11))], [.box [LV.pv (PV.int IntKind.i32 za), LV.pv (PV.int IntKind.i32 zb)], .box [LV.pv (PV.int IntKind.i64 sz), LV.own 4, LV.own 5], .box [LV.box 1 0, LV.mp 6, LV.mp 7], .box [.pv (.int IntKind.i32 h3_0), .pv (.int IntKind.i32 h3_1)], .sl (3, 1) true n_4 s_4, .sl (118, 256) true n_5 s_5, .mp m_6, .mp m_7])) s.1 s.2.1 s.2.2.1 s.2.2.2.1 s.2.2.2.2.1 s.2.2.2.2.2.1 s.2.2.2.2.2.2.1 s.2.2.2.2.2.2.2.1 s.2.2.2.2.2.2.2.2.1 s.2.2.2.2.2.2.2.2.2, fun _ s => J s.1 s.2.1 s.2.2.1 s.2.2.2.1 s.2.2.2.2.1 s.2.2.2.2.2.1 s.2.2.2.2.2.2.1 s.2.2.2.2.2.2.2.1 s.2.2.2.2.2.2.2.2.1 s.2.2.2.2.2.2.2.2.2, fun s => μ s.1 s.2.1 s.2.2.1 s.2.2.2.1 s.2.2.2.2.1 s.2.2.2.2.2.1 s.2.2.2.2.2.2.1 s.2.2.2.2.2.2.2.1 s.2.2.2.2.2.2.2.2.1 s.2.2.2.2.2.2.2.2.2, fun e h => (gI e 10, gI e 11, hI h 3 0, hI h 3 1, oN h 4, oS h 4, oN h 5, oS h 5, oM h 6, oM h 7), [(1001001, 3, 1), (1001002, 118, 256)], [0, 2, 4, 7, 8, 9, 10, 11], [], fun p => ∀ (x10 : Int) (x11 : Int) (h3_0 : Int) (h3_1 : Int) (n_4 : Bool) (s_4 : List (List PV)) (n_5 : Bool) (s_5 : List (List PV)) (m_6 : List (PV × PV)) (m_7 : List (PV × PV)), p (x10, x11, h3_0, h3_1, n_4, s_4, n_5, s_5, m_6, m_7), fun p h s => h s.1 s.2.1 s.2.2.1 s.2.2.2.1 s.2.2.2.2.1 s.2.2.2.2.2.1 s.2.2.2.2.2.2.1 s.2.2.2.2.2.2.2.1 s.2.2.2.2.2.2.2.2.1 s.2.2.2.2.2.2.2.2.2⟩ | 14 => some ⟨Int × Int × Int × Int × Int × Bool × (List (List PV)) × Bool × (List (List PV)) × (List (PV × PV)) × (List (PV × PV)), fun s => (fun (x10 : Int) (x11 : Int) (x13 : Int) (h3_0 : Int) (h3_1 : Int) (n_4 : Bool) (s_4 : List (List PV)) (n_5 : Bool) (s_5 : List (List PV)) (m_6 : List (PV × PV)) (m_7 : List (PV × PV)) => ([(0, LV.pv (PV.int IntKind.i64 sz)), (2, LV.pv (PV.sl n f es)), (4, LV.box 0 0), (7, LV.box 1 0), (8, LV.box 2 0), (9, LV.box 3 0), (10, .pv (.int IntKind.i64 x10)), (11, .pv (.int IntKind.i64 x11)), (13, .pv (.int IntKind.i64 x13))], [.box [LV.pv (PV.int IntKind.i32 za), LV.pv (PV.int IntKind.i32 zb)], .box [LV.pv (PV.int IntKind.i64 sz), LV.own 4, LV.own 5], .box [LV.box 1 0, LV.mp 6, LV.mp 7], .box [.pv (.int IntKind.i32 h3_0), .pv (.int IntKind.i32 h3_1)], .sl (3, 1) true n_4 s_4, .sl (118, 256) true n_5 s_5, .mp m_6, .mp m_7])) s.1 s.2.1 s.2.2.1 s.2.2.2.1 s.2.2.2.2.1 s.2.2.2.2.2.1 s.2.2.2.2.2.2.1 s.2.2.2.2.2.2.2.1 s.2.2.2.2.2.2.2.2.1 s.2.2.2.2.2.2.2.2.2.1 s.2.2.2.2.2.2.2.2.2.2, fun t s => J2 t.1 t.2.1 t.2.2.1 t.2.2.2.1 t.2.2.2.2.1 t.2.2.2.2.2.1 t.2.2.2.2.2.2.1 t.2.2.2.2.2.2.2.1 t.2.2.2.2.2.2.2.2.1 t.2.2.2.2.2.2.2.2.2.1 t.2.2.2.2.2.2.2.2.2.2 s.1 s.2.1 s.2.2.1 s.2.2.2.1 s.2.2.2.2.1 s.2.2.2.2.2.1 s.2.2.2.2.2.2.1 s.2.2.2.2.2.2.2.1 s.2.2.2.2.2.2.2.2.1 s.2.2.2.2.2.2.2.2.2.1 s.2.2.2.2.2.2.2.2.2.2, fun s => μ2 s.1 s.2.1 s.2.2.1 s.2.2.2.1 s.2.2.2.2.1 s.2.2.2.2.2.1 s.2.2.2.2.2.2.1 s.2.2.2.2.2.2.2.1 s.2.2.2.2.2.2.2.2.1 s.2.2.2.2.2.2.2.2.2.1 s.2.2.2.2.2.2.2.2.2.2, fun e h => (gI e 10, gI e 11, gI e 13, hI h 3 0, hI h 3 1, oN h 4, oS h 4, oN h 5, oS h 5, oM h 6, oM h 7), [], [0, 2, 4, 7, 8, 9, 10, 11, 13], [], fun p => ∀ (x10 : Int) (x11 : Int) (x13 : Int) (h3_0 : Int) (h3_1 : Int) (n_4 : Bool) (s_4 : List (List PV)) (n_5 : Bool) (s_5 : List (List PV)) (m_6 : List (PV × PV)) (m_7 : List (PV × PV)), p (x10, x11, x13, h3_0, h3_1, n_4, s_4, n_5, s_5, m_6, m_7), fun p h s => h s.1 s.2.1 s.2.2.1 s.2.2.2.1 s.2.2.2.2.1 s.2.2.2.2.2.1 s.2.2.2.2.2.2.1 s.2.2.2.2.2.2.2.1 s.2.2.2.2.2.2.2.2.1 s.2.2.2.2.2.2.2.2.2.1 s.2.2.2.2.2.2.2.2.2.2⟩ | 20 => some ⟨Int × Int × Int × Int × Int × (List PV) × Bool × (List (List PV)) × Bool × (List (List PV)) × (List (PV × PV)) × (List (PV × PV)), fun s => (fun (x10 : Int) (x11 : Int) (x88 : Int) (h3_0 : Int) (h3_1 : Int) (c_4 : List PV) (n_5 : Bool) (s_5 : List (List PV)) (n_6 : Bool) (s_6 : List (List PV)) (m_7 : List (PV × PV)) (m_8 : List (PV × PV)) => ([(0, LV.pv (PV.int IntKind.i64 sz)), (2, LV.pv (PV.sl n f es)), (4, LV.box 0 0), (7, LV.box 1 0), (8, LV.box 2 0), (9, LV.box 3 0), (10, .pv (.int IntKind.i64 x10)), (11, .pv (.int IntKind.i64 x11)), (14, LV.box 4 0), (88, .pv (.int IntKind.i64 x88))], [.box [LV.pv (PV.int IntKind.i32 za), LV.pv (PV.int IntKind.i32 zb)], .box [LV.pv (PV.int IntKind.i64 sz), LV.own 5, LV.own 6], .box [LV.box 1 0, LV.mp 7, LV.mp 8], .box [.pv (.int IntKind.i32 h3_0), .pv (.int IntKind.i32 h3_1)], .arr c_4, .sl (3, 1) true n_5 s_5, .sl (118, 256) true n_6 s_6, .mp m_7, .mp m_8])) s.1 s.2.1 s.2.2.1 s.2.2.2.1 s.2.2.2.2.1 s.2.2.2.2.2.1 s.2.2.2.2.2.2.1 s.2.2.2.2.2.2.2.1 s.2.2.2.2.2.2.2.2.1 s.2.2.2.2.2.2.2.2.2.1 s.2.2.2.2.2.2.2.2.2.2.1 s.2.2.2.2.2.2.2.2.2.2.2, fun t s => J3 t.1 t.2.1 t.2.2.1 t.2.2.2.1 t.2.2.2.2.1 t.2.2.2.2.2.1 t.2.2.2.2.2.2.1 t.2.2.2.2.2.2.2.1 t.2.2.2.2.2.2.2.2.1 t.2.2.2.2.2.2.2.2.2.1 t.2.2.2.2.2.2.2.2.2.2.1 t.2.2.2.2.2.2.2.2.2.2.2 s.1 s.2.1 s.2.2.1 s.2.2.2.1 s.2.2.2.2.1 s.2.2.2.2.2.1 s.2.2.2.2.2.2.1 s.2.2.2.2.2.2.2.1 s.2.2.2.2.2.2.2.2.1 s.2.2.2.2.2.2.2.2.2.1 s.2.2.2.2.2.2.2.2.2.2.1 s.2.2.2.2.2.2.2.2.2.2.2, fun s => μ3 s.1 s.2.1 s.2.2.1 s.2.2.2.1 s.2.2.2.2.1 s.2.2.2.2.2.1 s.2.2.2.2.2.2.1 s.2.2.2.2.2.2.2.1 s.2.2.2.2.2.2.2.2.1 s.2.2.2.2.2.2.2.2.2.1 s.2.2.2.2.2.2.2.2.2.2.1 s.2.2.2.2.2.2.2.2.2.2.2, fun e h => (gI e 10, gI e 11, gI e 88, hI h 3 0, hI h 3 1, oA h 4, oN h 5, oS h 5, oN h 6, oS h 6, oM h 7, oM h 8), [], [0, 2, 4, 7, 8, 9, 10, 11, 14, 88], [], fun p => ∀ (x10 : Int) (x11 : Int) (x88 : Int) (h3_0 : Int) (h3_1 : Int) (c_4 : List PV) (n_5 : Bool) (s_5 : List (List PV)) (n_6 : Bool) (s_6 : List (List PV)) (m_7 : List (PV × PV)) (m_8 : List (PV × PV)), p (x10, x11, x88, h3_0, h3_1, c_4, n_5, s_5, n_6, s_6, m_7, m_8), fun p h s => h s.1 s.2.1 s.2.2.1 s.2.2.2.1 s.2.2.2.2.1 s.2.2.2.2.2.1 s.2.2.2.2.2.2.1 s.2.2.2.2.2.2.2.1 s.2.2.2.2.2.2.2.2.1 s.2.2.2.2.2.2.2.2.2.1 s.2.2.2.2.2.2.2.2.2.2.1 s.2.2.2.2.2.2.2.2.2.2.2⟩ | _ => none) (Try.f48.body.getD .skip) [.int .i64 sz, .agg [.int .i32 za, .int .i32 zb], .sl n f es] R = r_trie_Build_ucd_pair sz za zb n f es J μ J2 μ2 J3 μ3 R := by kernel_rfl
theorem a_trie_Build_ucd_pair (sz : Int) (za zb : Int) (n f : Bool) (es : List (List PV)) (J : (Int) → (Int) → (Int) → (Int) → (Bool) → (List (List PV)) → (Bool) → (List (List PV)) → (List (PV × PV)) → (List (PV × PV)) → Prop) (μ : (Int) → (Int) → (Int) → (Int) → (Bool) → (List (List PV)) → (Bool) → (List (List PV)) → (List (PV × PV)) → (List (PV × PV)) → Nat) (J2 : (Int) → (Int) → (Int) → (Int) → (Int) → (Bool) → (List (List PV)) → (Bool) → (List (List PV)) → (List (PV × PV)) → (List (PV × PV)) → (Int) → (Int) → (Int) → (Int) → (Int) → (Bool) → (List (List PV)) → (Bool) → (List (List PV)) → (List (PV × PV)) → (List (PV × PV)) → Prop) (μ2 : (Int) → (Int) → (Int) → (Int) → (Int) → (Bool) → (List (List PV)) → (Bool) → (List (List PV)) → (List (PV × PV)) → (List (PV × PV)) → Nat) (J3 : (Int) → (Int) → (Int) → (Int) → (Int) → (List PV) → (Bool) → (List (List PV)) → (Bool) → (List (List PV)) → (List (PV × PV)) → (List (PV × PV)) → (Int) → (Int) → (Int) → (Int) → (Int) → (List PV) → (Bool) → (List (List PV)) → (Bool) → (List (List PV)) → (List (PV × PV)) → (List (PV × PV)) → Prop) (μ3 : (Int) → (Int) → (Int) → (Int) → (Int) → (List PV) → (Bool) → (List (List PV)) → (Bool) → (List (List PV)) → (List (PV × PV)) → (List (PV × PV)) → Nat) {R : PV → Prop} (h : r_trie_Build_ucd_pair sz za zb n f es J μ J2 μ2 J3 μ3 R) : PCall Try.prog 48 [.int .i64 sz, .agg [.int .i32 za, .int .i32 zb], .sl n f es] R :=
  PCall.of Try.func48 (by kernel_rfl) (by kernel_rfl) (Nat.le_of_ble_eq_true (by kernel_rfl)) (Eq.mpr (e_trie_Build_ucd_pair sz za zb n f es J μ J2 μ2 J3 μ3 R) h)

end Go.Eng
set_option linter.unusedVariables false
set_option linter.unusedSimpArgs false
set_option maxRecDepth 100000
set_option linter.constructorNameAsVariable false
namespace Go.Eng
open Go Go.Proofs Go.Eng.Trie
def encP (v : (Int × Int)) : List PV := [.int .i32 v.1, .int .i32 v.2]
theorem EP : Enc Try.prog [21, 21] encP := ⟨fun a => by
  simp only [encP, keyCs, Bool.and_true]
  rw [show Try.prog.underlying 21 = some (.int .i32) by kernel_rfl]
  rfl, fun a b => by
  obtain ⟨a0, a1⟩ := a
  obtain ⟨b0, b1⟩ := b
  simp only [encP, eqPVs, eqPV, Bool.and_true]
  rw [Bool.eq_iff_iff]
  simp⟩
def pcP (p : Pc (Int × Int)) : List PV := [.int .i64 p.fr, .int .i64 p.to] ++ encP p.v
def pcsP (l : List (Pc (Int × Int))) : List (List PV) := l.map pcP
theorem pcP_len (p : Pc (Int × Int)) : (pcP p).length = 4 := rfl
theorem pcsP_len (l : List (Pc (Int × Int))) : (pcsP l).length = l.length := by simp [pcsP]
theorem p107 (n f : Bool) (l : List (Pc (Int × Int))) (z : (Int × Int)) (i last : Int) (hl : l.length < 4611686018427387904) (hok : ∀ p ∈ l, -9223372036854775808 ≤ p.fr - 1 ∧ p.fr - 1 ≤ 9223372036854775807) :
    PCall Try.prog 78 [.sl n f (pcsP l), .agg (encP z), .int .i64 i, .int .i64 last] fun v => v = .tup [.agg (encP (findL l z i last).1), .int .i64 (findL l z i last).2] := by
  refine a_trie_find_ucd_pair _ _ _ z.1 z.2 _ _ (fun a k _ _ => 0 ≤ k ∧ k ≤ l.length ∧ findL l z i last = findL (l.drop k.toNat) z i a) (fun _ k _ _ => l.length - k.toNat) ?_
  unfold r_trie_find_ucd_pair
  refine ⟨⟨rfl, Int.le_refl _, by omega, rfl⟩, ?_⟩
  rintro a k _ _ ⟨k0, k1, he⟩
  refine iteD (fun hc => ?_) (fun hc => ?_)
  · simp only [decide_eq_true_eq, pcsP_len] at hc
    have hk : k.toNat < l.length := by omega
    have hw : IntKind.i64.wrap (k + 1) = k + 1 := wrap_i64 (by omega) (by omega)
    have hn : (k + 1).toNat = k.toNat + 1 := by omega
    have hg : (pcsP l).getD k.toNat [] = pcP l[k.toNat] := getD_map hk
    have hix : idxOK (pcsP l) k 4 := idxOK_map pcP_len k0 (by omega)
    have hm := hok _ (List.getElem_mem hk)
    rw [drop_cons hk] at he
    rw [hw]
    dsimp only
    rw [hn]
    have hmu : l.length - (k.toNat + 1) < l.length - k.toNat := by omega
    refine ⟨hix, l[k.toNat].fr, by rw [hg]; rfl, l[k.toNat].to, by rw [hg]; rfl, l[k.toNat].v.1, by rw [hg]; rfl, l[k.toNat].v.2, by rw [hg]; rfl, ?_⟩
    generalize l[k.toNat] = p at *
    have hw2 : IntKind.i64.wrap (p.fr - 1) = p.fr - 1 := wrap_i64 hm.1 hm.2
    rw [hw2]
    rw [findL_cons] at he
    by_cases h1 : p.fr ≤ i
    · refine iteT (by simpa using h1) ?_
      by_cases h2 : i ≤ p.to
      · refine iteT (by simpa using h2) ?_
        rw [if_pos ⟨h1, h2⟩] at he
        rw [he]
        repeat' (first | rfl | apply And.intro)
      · refine iteF (by simpa using h2) ?_
        rw [if_neg (by omega), if_neg (by omega)] at he
        refine iteF (by simp; omega) ?_
        exact ⟨rfl, ⟨by omega, by omega, he⟩, hmu⟩
    · refine iteF (by simpa using h1) ?_
      rw [if_neg (by omega)] at he
      refine iteT (by simp; omega) ?_
      by_cases h3 : p.fr ≤ a
      · refine iteT (by simpa using h3) ?_
        rw [if_pos (by omega)] at he
        exact ⟨rfl, ⟨by omega, by omega, he⟩, hmu⟩
      · refine iteF (by simpa using h3) ?_
        rw [if_neg (by omega)] at he
        exact ⟨rfl, ⟨by omega, by omega, he⟩, hmu⟩
  · simp only [decide_eq_true_eq, pcsP_len] at hc
    rw [List.drop_of_length_le (by omega)] at he
    rw [he]; rfl
/-- A trie. -/
def TrieP (sz : Int) (F : Int → (Int × Int)) (v : PV) : Prop := ∃ n f n2 f2 idx blk, v = .ptr [.int .i64 sz, .sl n f (ixs idx), .sl n2 f2 (bks encP blk)] ∧ TOK sz F idx blk
theorem p84 {sz : Int} {F : Int → (Int × Int)} {t : PV} (ht : TrieP sz F t) (i : Int) (h1 : sz ≤ 1114112) : PCall Try.prog 49 [t, .int .i64 i] fun v => v = .agg (encP (if 0 ≤ i ∧ i < sz then F i else (0, 0))) := by
  obtain ⟨n, f, n2, f2, idx, blk, rfl, ht⟩ := ht
  refine a_trie_Trie_ucd_pair_Get _ _ _ _ _ _ _ _ ?_
  unfold r_trie_Trie_ucd_pair_Get
  refine iteD (fun hc => ?_) (fun hc => ?_)
  · simp only [decide_eq_true_eq] at hc
    rw [if_neg (by omega)]; rfl
  · simp only [decide_eq_true_eq] at hc
    refine ⟨_, rfl, ?_⟩
    refine iteD (fun hc2 => ?_) (fun hc2 => ?_)
    · simp only [decide_eq_true_eq, ge_iff_le] at hc2
      rw [if_neg (by omega)]; rfl
    · simp only [decide_eq_true_eq, ge_iff_le] at hc2
      rw [if_pos (by omega)]
      obtain ⟨hq, g0, hk, hj, he⟩ := ht.get (i := i) (by omega) (by omega)
      have hw : IntKind.i64.wrap (i.tdiv 128) = i / 128 := by rw [Int.tdiv_eq_ediv_of_nonneg (by omega)]; exact wrap_i64 (by omega) (by omega)
      have hm : i.tmod 128 = i % 128 := Int.tmod_eq_emod_of_nonneg (by omega)
      have hg : (ixs idx).getD (i / 128).toNat [] = [.int .i64 idx[(i / 128).toNat]] := getD_map hq
      have hg2 : (bks encP blk).getD idx[(i / 128).toNat].toNat [] = cells encP blk[idx[(i / 128).toNat].toNat] := getD_map hk
      refine ⟨_, _, _, rfl, _, _, _, rfl, ?_⟩
      rw [hw]
      have := EP.at _ _ hj
      simp only [List.length_cons, List.length_nil, Nat.zero_add, Nat.reduceAdd] at this
      have hcell : List.drop ((i % 128).toNat * 2) ((bks encP blk).getD idx[(i / 128).toNat].toNat []) = encP (F i) ++ (List.drop ((i % 128).toNat + 1) (blk[idx[(i / 128).toNat].toNat]).1).flatMap encP := by
        rw [hg2]; unfold cells; rw [this, he]
      refine ⟨idxOK_map enc1_len (by omega) (by omega), idx[(i / 128).toNat], by rw [hg]; rfl, idxOK_map (EP.cells_len) g0 (by omega), by rw [hm]; omega, ?_⟩
      rw [hm, hcell]
      exact ⟨(F i).1, rfl, (F i).2, rfl, rfl⟩
def cP (b : Blk (Int × Int)) : List PV := cells encP b
def kvP (k : Int) : PV := .int .i64 k
def mkP (kn : List (Blk (Int × Int) × Int)) : List (PV × PV) := encM (fun b => .agg (cP b)) kvP kn
def meP (ev : List ((Int × Int) × Int)) : List (PV × PV) := encM (fun v => .agg (encP v)) kvP ev
def hpP (sz : Int) (kn : List (Blk (Int × Int) × Int)) (ev : List ((Int × Int) × Int)) (ixm ixn bkm bkn : Bool) (idx : List Int) (blk : List (Blk (Int × Int))) : Hp :=
  [.box [.box 1 0, .mp 2, .mp 3], .box [.pv (.int .i64 sz), .own 4, .own 5], .mp (mkP kn), .mp (meP ev), .sl (3, 1) ixm ixn (ixs idx), .sl (118, 256) bkm bkn (bks encP blk)]
theorem cP_len (b : Blk (Int × Int)) : (cP b).length = 256 := EP.cells_len b
theorem cP_all (b : Blk (Int × Int)) : List.take 256 (List.drop 0 (cP b)) = cP b := by rw [List.drop_zero, List.take_of_length_le (by rw [cP_len]; omega)]
theorem fk187 : flatKey Try.prog 118 = true := by kernel_rfl
theorem ck187 : cellKs Try.prog 118 = (List.replicate 128 [21, 21]).flatten := by kernel_rfl
theorem fk143 : flatKey Try.prog 60 = true := by kernel_rfl
theorem ck143 : cellKs Try.prog 60 = [21, 21] := by kernel_rfl
theorem getP (b : Blk (Int × Int)) (kn : List (Blk (Int × Int) × Int)) : mapGet (.agg (cP b)) (mkP kn) = (aget b kn).map kvP := mapGet_enc (ek := fun b => PV.agg (cP b)) (ev := kvP) EP.blkEq b kn
theorem setP (b : Blk (Int × Int)) (k : Int) (kn : List (Blk (Int × Int) × Int)) : mapSet (.agg (cP b)) (kvP k) (mkP kn) = mkP (aset b k kn) := mapSet_enc (ek := fun b => PV.agg (cP b)) (ev := kvP) EP.blkEq b k kn
theorem okBP (b : Blk (Int × Int)) : keyOk Try.prog 118 (.agg (cP b)) = true := EP.blkOk fk187 ck187 b
theorem oksBP (kn : List (Blk (Int × Int) × Int)) : keysOk Try.prog 118 (mkP kn) := EP.blksOk fk187 ck187 kn
theorem p109 {sz : Int} {F : Int → (Int × Int)} {idx : List Int} {blk : List (Blk (Int × Int))} {kn : List (Blk (Int × Int) × Int)} {ev : List ((Int × Int) × Int)} (hk : TInv sz F idx blk kn ev) (hb : blk.length ≤ 10000000) (ixn bkn : Bool) (b : Blk (Int × Int)) :
    ACall Try.prog 80 [.box 0 0, .pv (.agg (cP b))] (hpP sz kn ev false ixn false bkn idx blk) fun r h' => ∃ k kn' bn' blk', r = .pv (kvP k) ∧ h' = hpP sz kn' ev false ixn true bn' idx blk' ∧ TInv sz F idx blk' kn' ev ∧ 0 ≤ k ∧ blk'[k.toNat]? = some b ∧ blk'.length ≤ blk.length + 1 := by
  refine ACall.mark 1000 [5] (R := fun r h' => ∃ k kn' bm' bn' blk', r = .pv (kvP k) ∧ h' = hpP sz kn' ev false ixn bm' bn' idx blk' ∧ TInv sz F idx blk' kn' ev ∧ 0 ≤ k ∧ blk'[k.toNat]? = some b ∧ blk'.length ≤ blk.length + 1) ?_ ?_
  · refine a_trie_maker_ucd_pair_place _ _ _ _ _ _ _ _ _ _ ?_
    unfold r_trie_maker_ucd_pair_place
    rw [cP_all, getP]
    have h128 : 256 ≤ (List.drop 0 (cP b)).length := by rw [List.drop_zero, cP_len]; omega
    refine ⟨h128, oksBP kn, okBP b, fun v hv => ?_, fun hv => ?_⟩
    · cases hg : aget b kn with
      | none => rw [hg] at hv; cases hv
      | some k =>
        rw [hg] at hv; cases hv
        obtain ⟨k0, k1⟩ := hk.kn_ok b k hg
        exact ⟨k, rfl, k, kn, false, bkn, blk, rfl, rfl, hk, k0, k1, by omega⟩
    · have hsz : szOK [cP b] 256 ∧ ((bks encP blk).length + 1) * 1024 ≤ 140737488355328 := ⟨fun e he => by simp at he; subst he; exact cP_len b, by rw [bks_len]; omega⟩
      have fin : ∃ k kn' bm' bn' blk', LV.pv (.int .i64 ((bks encP blk).length : Int)) = .pv (kvP k) ∧
          [Ob.box [.box 1 0, .mp 2, .mp 3], .box [.pv (.int .i64 sz), .own 4, .own 5], .mp (mapSet (.agg (cP b)) (.int .i64 ((bks encP blk).length : Int)) (mkP kn)), .mp (meP ev), .sl (3, 1) false ixn (ixs idx), .sl (118, 256) true (bkn && false) (bks encP blk ++ [cP b])] = hpP sz kn' ev false ixn bm' bn' idx blk' ∧ TInv sz F idx blk' kn' ev ∧ 0 ≤ k ∧ blk'[k.toNat]? = some b ∧ blk'.length ≤ blk.length + 1 := by
        refine ⟨blk.length, aset b (blk.length : Int) kn, true, bkn && false, blk ++ [b], by rw [bks_len]; rfl, ?_, hk.place b, by omega, by simp, by simp⟩
        have := setP b (blk.length : Int) kn
        unfold kvP at this
        rw [bks_len, this]
        simp [hpP, bks, cP]
      exact ⟨h128, oksBP kn, okBP b, h128, ⟨cP_len b, hsz, fin⟩, cP_len b, ⟨hsz, fin⟩, hsz, fin⟩
  · rintro r h' ⟨k, kn', bm', bn', blk', rfl, rfl, h1, h2, h3, h4⟩
    exact ⟨k, kn', bn', blk', rfl, rfl, h1, h2, h3, h4⟩
theorem getEP (v : (Int × Int)) (ev : List ((Int × Int) × Int)) : mapGet (.agg (encP v)) (meP ev) = (aget v ev).map kvP := mapGet_enc (ek := fun v => PV.agg (encP v)) (ev := kvP) EP.valEq v ev
theorem setEP (v : (Int × Int)) (k : Int) (ev : List ((Int × Int) × Int)) : mapSet (.agg (encP v)) (kvP k) (meP ev) = meP (aset v k ev) := mapSet_enc (ek := fun v => PV.agg (encP v)) (ev := kvP) EP.valEq v k ev
theorem okEP (v : (Int × Int)) : keyOk Try.prog 60 (.agg (encP v)) = true := EP.valOk fk143 ck143 v
theorem oksEP (ev : List ((Int × Int) × Int)) : keysOk Try.prog 60 (meP ev) := EP.valsOk fk143 ck143 ev
theorem putP (l : List (Int × Int)) (j : Nat) (hj : j < l.length) (v : (Int × Int)) : spl (l.flatMap encP) (0 + j * 2) (encP v) = (l.set j v).flatMap encP := by
  have := EP.put l j hj v
  simp only [List.length_cons, List.length_nil, Nat.zero_add, Nat.reduceAdd] at this ⊢
  exact this
theorem flenP (l : List (Int × Int)) : (l.flatMap encP).length = l.length * 2 := EP.flen l
theorem zerosP : List.replicate 256 (PV.int .i32 0) = (List.replicate 128 ((0, 0) : (Int × Int))).flatMap encP := by rfl
theorem rep_ofP {l : List (Int × Int)} {v : (Int × Int)} (hl : l.length = 128) (h : ∀ q, q < 128 → l[q]? = some v) : l = List.replicate 128 v := by
  refine List.ext_getElem? fun q => ?_
  rcases Nat.lt_or_ge q 128 with hq | hq
  · rw [h q hq, List.getElem?_replicate, if_pos hq]
  · rw [List.getElem?_eq_none (by omega), List.getElem?_eq_none (by simp; omega)]
theorem p108 {sz : Int} {F : Int → (Int × Int)} {idx : List Int} {blk : List (Blk (Int × Int))} {kn : List (Blk (Int × Int) × Int)} {ev : List ((Int × Int) × Int)} (hk : TInv sz F idx blk kn ev) (hb : blk.length ≤ 10000000) (ixn bkn : Bool) (v : (Int × Int)) :
    ACall Try.prog 79 [.box 0 0, .pv (.agg (encP v))] (hpP sz kn ev false ixn false bkn idx blk) fun r h' => ∃ k kn' ev' bn' blk', r = .pv (kvP k) ∧ h' = hpP sz kn' ev' false ixn true bn' idx blk' ∧ TInv sz F idx blk' kn' ev' ∧ 0 ≤ k ∧ blk'[k.toNat]? = some (rep v) ∧ blk'.length ≤ blk.length + 1 := by
  refine ACall.mark 1000 [5] (R := fun r h' => ∃ k kn' ev' bm' bn' blk', r = .pv (kvP k) ∧ h' = hpP sz kn' ev' false ixn bm' bn' idx blk' ∧ TInv sz F idx blk' kn' ev' ∧ 0 ≤ k ∧ blk'[k.toNat]? = some (rep v) ∧ blk'.length ≤ blk.length + 1) ?_ ?_
  · refine a_trie_maker_ucd_pair_plain _ _ _ _ _ _ _ _ _ v.1 v.2 (fun x m2 m3 c => 0 ≤ x ∧ x ≤ 128 ∧ m2 = mkP kn ∧ m3 = meP ev ∧ ∃ l : List (Int × Int), l.length = 128 ∧ c = l.flatMap encP ∧ ∀ q, q < x.toNat → l[q]? = some v) (fun x _ _ _ => 128 - x.toNat) ?_
    unfold r_trie_maker_ucd_pair_plain
    rw [show [.int .i32 v.1, .int .i32 v.2] = encP v from rfl, getEP]
    refine ⟨oksEP ev, okEP v, fun u hu => ?_, fun hu => ⟨⟨rfl, Int.le_refl _, by omega, rfl, rfl, List.replicate 128 (0, 0), by simp, zerosP, fun q hq => by simp at hq⟩, ?_⟩⟩
    · cases hg : aget v ev with
      | none => rw [hg] at hu; cases hu
      | some k =>
        rw [hg] at hu; cases hu
        obtain ⟨k0, k1⟩ := hk.ev_ok v k hg
        exact ⟨k, rfl, k, kn, ev, false, bkn, blk, rfl, rfl, hk, k0, k1, by omega⟩
    · rintro x _ _ _ ⟨x0, x1, rfl, rfl, l, hl, rfl, hq⟩
      refine iteD (fun hc => ?_) (fun hc => ?_)
      · simp only [decide_eq_true_eq] at hc
        have hw : IntKind.i64.wrap (x + 1) = x + 1 := wrap_i64 (by omega) (by omega)
        have hn : (x + 1).toNat = x.toNat + 1 := by omega
        rw [putP l x.toNat (by omega) v, hw, flenP]
        refine ⟨⟨x0, hc⟩, ⟨rfl, by omega⟩, rfl, ⟨by omega, by omega, rfl, rfl, l.set x.toNat v, by simpa using hl, rfl, fun q hq' => ?_⟩, by dsimp only; omega⟩
        rw [hn] at hq'
        rw [List.getElem?_set]
        by_cases e : x.toNat = q
        · rw [if_pos e, if_pos (by omega)]
        · rw [if_neg e]; exact hq q (by omega)
      · simp only [decide_eq_true_eq] at hc
        have hx : x = 128 := by omega
        subst hx
        have hrep := rep_ofP hl hq
        subst hrep
        have hcI : (List.replicate 128 v).flatMap encP = cP (rep v) := rfl
        rw [hcI, cP_all]
        refine ⟨by rw [List.drop_zero, cP_len]; omega, ?_⟩
        refine (p109 hk hb ixn bkn (rep v)).mono ?_
        rintro _ _ ⟨k, kn', bn', blk', rfl, rfl, h1, h2, h3, h4⟩
        refine ⟨(k, mkP kn', bn', bks encP blk'), ⟨rfl, rfl⟩, ⟨trivial, ⟨rfl, rfl, rfl⟩, trivial, trivial, trivial, trivial, trivial⟩, oksEP ev, okEP v, ?_⟩
        have := setEP v k ev
        unfold kvP at this
        simp only [this]
        exact ⟨k, kn', aset v k ev, _, bn', blk', rfl, rfl, h1.even h2 h3, h2, h3, h4⟩
  · rintro r h' ⟨k, kn', ev', bm', bn', blk', rfl, rfl, h1, h2, h3, h4⟩
    exact ⟨k, kn', ev', bn', blk', rfl, rfl, h1, h2, h3, h4⟩
theorem rep_getP {v : (Int × Int)} {j : Nat} {u : (Int × Int)} (h : (Trie.rep v).1[j]? = some u) : u = v ∧ j < 128 := by
  simp only [Trie.rep, List.getElem?_replicate] at h
  split at h
  · rename_i hj; cases h; exact ⟨rfl, hj⟩
  · cases h
theorem p83 (sz : Int) (z : (Int × Int)) (n f : Bool) (l : List (Pc (Int × Int))) (hl : l.length < 4611686018427387904) (hok : ∀ p ∈ l, -9223372036854775808 ≤ p.fr - 1 ∧ p.fr - 1 ≤ 9223372036854775807) (hs1 : 1 ≤ sz) (hs2 : sz ≤ 1114112) :
    PCall Try.prog 48 [.int .i64 sz, .agg (encP z), .sl n f (pcsP l)] fun v => TrieP sz (valL l z) v := by
  have hF := fun i => findL_ok l z i (sz - 1)
  generalize hFF : valL l z = F at *
  refine a_trie_Build_ucd_pair _ z.1 z.2 _ _ _
    (fun x10 x11 va vb _ s2 _ s3 m4 m5 => ∃ idx blk kn ev, s2 = ixs idx ∧ s3 = bks encP blk ∧ m4 = mkP kn ∧ m5 = meP ev ∧ TInv sz F idx blk kn ev ∧ x11 = 128 * idx.length ∧ blk.length ≤ idx.length ∧ x11 < sz + 128 ∧ (∀ j, x11 ≤ j → j ≤ x10 → F j = (va, vb)) ∧ x10 ≤ sz - 1)
    (fun _ x11 _ _ _ _ _ _ _ _ => (sz + 128 - x11).toNat)
    (fun _ y11 _ _ _ _ _ _ _ _ _ x10 x11 x13 va vb _ s2 _ s3 m4 m5 => ∃ idx blk kn ev, s2 = ixs idx ∧ s3 = bks encP blk ∧ m4 = mkP kn ∧ m5 = meP ev ∧ TInv sz F idx blk kn ev ∧ x11 = 128 * idx.length ∧ x11 < sz + 128 ∧ (∀ j, x11 ≤ j → j ≤ x10 → F j = (va, vb)) ∧ x10 ≤ sz - 1 ∧ 0 ≤ x13 ∧ blk[x13.toNat]? = some (rep (va, vb)) ∧
      ((x11 = y11 ∧ x11 < sz ∧ (x11 + 127 ≤ x10 ∨ sz - 1 ≤ x10) ∧ blk.length ≤ idx.length + 1) ∨ (y11 + 128 ≤ x11 ∧ blk.length ≤ idx.length)))
    (fun _ x11 _ _ _ _ _ _ _ _ _ => (sz + 128 - x11).toNat)
    (fun _ y11 _ _ _ _ _ _ _ _ _ _ x10 x11 x va vb c _ s3 _ s4 m5 m6 => ∃ idx blk kn ev, s3 = ixs idx ∧ s4 = bks encP blk ∧ m5 = mkP kn ∧ m6 = meP ev ∧ TInv sz F idx blk kn ev ∧ x11 = 128 * idx.length ∧ blk.length ≤ idx.length ∧ x11 = y11 ∧ x11 < sz ∧ 0 ≤ x ∧ x ≤ 128 ∧ x10 ≤ sz - 1 ∧ (∀ j, x11 + x ≤ j → j ≤ x10 → F j = (va, vb)) ∧
      ∃ b : List (Int × Int), b.length = 128 ∧ c = b.flatMap encP ∧ ∀ (q : Nat) u, b[q]? = some u → q < x.toNat → x11 + q < sz → u = F (x11 + q))
    (fun _ _ x _ _ _ _ _ _ _ _ _ => (128 - x).toNat) ?_
  unfold r_trie_Build_ucd_pair
  have hw1 : IntKind.i64.wrap (sz - 1) = sz - 1 := wrap_i64 (by omega) (by omega)
  rw [hw1]
  refine iteF (by simp; omega) ?_
  refine (p107 n f l z 0 (sz - 1) hl hok).mono ?_
  rintro _ rfl
  obtain ⟨_, f2, f3, f4⟩ := hF 0 (by omega)
  refine ⟨_, rfl, rfl, _, rfl, _, rfl, rfl, _, rfl, _, rfl, _, rfl, _, rfl, ⟨rfl, [], [], [], [], rfl, rfl, rfl, rfl, TInv.nil, rfl, Nat.le_refl _, by omega, f4, f3⟩, ?_⟩
  clear f2 f3 f4
  rintro u0 x v0a v0b _ _ _ _ _ _ ⟨idx, blk, kn, ev, rfl, rfl, rfl, rfl, hk, hx, hb, hx2, hv0, hu0⟩
  refine iteD (fun hc => ?_) (fun hc => ?_)
  · simp only [decide_eq_true_eq] at hc
    have hw2 : IntKind.i64.wrap (x + 128) = x + 128 := wrap_i64 (by omega) (by omega)
    rw [hw2]
    have hmin : ∀ a : Int, IntKind.i64.wrap ((if sz < a + 128 then sz else a + 128) - 1) = (if sz < a + 128 then sz else a + 128) - 1 ∨ ¬ (0 ≤ a ∧ a ≤ 1114112) := fun a => by
      by_cases ha : 0 ≤ a ∧ a ≤ 1114112
      · left; split <;> exact wrap_i64 (by omega) (by omega)
      · exact .inr ha
    have hmx := (hmin x).resolve_right (by omega)
    rw [hmx]
    refine iteD (fun hgt => ?ga) (fun hgt => ?gb)
    case' ga =>
      refine (p107 n f l z x (sz - 1) hl hok).mono ?_
      rintro _ rfl
      obtain ⟨_, hux, hu, hv⟩ := hF x (by omega)
      refine ⟨_, rfl, rfl, _, rfl, _, rfl, rfl, _, rfl, _, rfl, _, rfl, _, rfl, ?_⟩
      revert hv hu
      generalize (findL l z x (sz - 1)).1 = v
      generalize (findL l z x (sz - 1)).2 = u
      clear hv0 hu0 hux
      intro hu hv
    case' gb =>
      obtain ⟨v, rfl, rfl⟩ : ∃ v : (Int × Int), v.1 = v0a ∧ v.2 = v0b := ⟨(v0a, v0b), rfl, rfl⟩
      revert hv0 hu0 hgt
      generalize u0 = u
      intro hu hgt hv
    all_goals
      clear hgt
      refine iteD (fun hc2 => ?_) (fun hc2 => ?_)
      · simp only [decide_eq_true_eq, ge_iff_le] at hc2
        have hc3 : x + 127 ≤ u ∨ sz - 1 ≤ u := by split at hc2 <;> omega
        refine (p108 hk (by omega) _ _ v).mono ?_
        rintro _ _ ⟨k, kn', ev', bn', blk', rfl, rfl, g1, g2, g3, g4⟩
        refine ⟨(k, mkP kn', meP ev', bn', bks encP blk'), ⟨rfl, rfl⟩, ⟨trivial, ⟨rfl, rfl, rfl⟩, trivial, trivial, trivial, trivial, trivial⟩, ⟨rfl, idx, blk', kn', ev', rfl, rfl, rfl, rfl, g1, hx, hx2, hv, hu, g2, g3, .inl ⟨rfl, hc, hc3, by omega⟩⟩, ?_⟩
        rintro t y k' wa wb _ _ _ _ _ _ ⟨idx2, blk2, kn2, ev2, rfl, rfl, rfl, rfl, hk2, hy, hy2, hw, ht, hk0, hkb, hor⟩
        have hwy : IntKind.i64.wrap (y + 128) = y + 128 := wrap_i64 (by omega) (by omega)
        rw [hwy, (hmin y).resolve_right (by omega)]
        refine iteD (fun hc4 => ?_) (fun hc4 => ?_)
        · simp only [Bool.and_eq_true, decide_eq_true_eq, ge_iff_le] at hc4
          have hc5 : y + 127 ≤ t ∨ sz - 1 ≤ t := by have := hc4.2; split at this <;> omega
          refine ⟨⟨fun e he => by simp at he; subst he; rfl, by rw [ixs_len]; omega⟩, rfl, ⟨idx2 ++ [k'], blk2, kn2, ev2, by simp [ixs], rfl, rfl, rfl, hk2.push hk0 hkb fun j u' hj hlt => ?_, by simp; omega, by omega, fun j h1 h2 => hw j (by omega) h2, ht, hk0, hkb, .inr ⟨by omega, by simp; omega⟩⟩, by dsimp only; omega⟩
          obtain ⟨rfl, hj2⟩ := rep_getP hj
          exact (hw _ (by omega) (by omega)).symm
        · have hw128 : IntKind.i64.wrap (y - 128) = y - 128 := wrap_i64 (by omega) (by omega)
          have hback : IntKind.i64.wrap (y - 128 + 128) = y := by rw [wrap_i64 (by omega) (by omega)]; omega
          rw [hw128, hback]
          simp only [Bool.and_eq_true, decide_eq_true_eq, ge_iff_le, not_and] at hc4
          have hor2 : x + 128 ≤ y ∧ blk2.length ≤ idx2.length := by
            rcases hor with ⟨h1, h2, h3, h4⟩ | h
            · exfalso
              have := hc4 h2
              split at this <;> omega
            · exact h
          exact ⟨rfl, ⟨idx2, blk2, kn2, ev2, rfl, rfl, rfl, rfl, hk2, hy, hor2.2, hy2, hw, ht⟩, by dsimp only; omega⟩
      · clear hc2
        refine ⟨⟨rfl, idx, blk, kn, ev, rfl, rfl, rfl, rfl, hk, hx, hb, rfl, hc, Int.le_refl _, by omega, hu, fun j h1 h2 => hv j (by omega) h2, List.replicate 128 (0, 0), by simp, zerosP, fun q u' _ hq _ => by simp at hq⟩, ?_⟩
        rintro t y i wa wb _ _ _ _ _ _ _ ⟨idx2, blk2, kn2, ev2, rfl, rfl, rfl, rfl, hk2, hy, hb2, hyx, hy2, i0, i1, ht, hw, b, hbl, rfl, hbq⟩
        obtain ⟨w, rfl, rfl⟩ : ∃ v : (Int × Int), v.1 = wa ∧ v.2 = wb := ⟨(wa, wb), rfl, rfl⟩
        have hwyi : IntKind.i64.wrap (y + i) = y + i := wrap_i64 (by omega) (by omega)
        have hwi : IntKind.i64.wrap (i + 1) = i + 1 := wrap_i64 (by omega) (by omega)
        have hwy : IntKind.i64.wrap (y + 128) = y + 128 := wrap_i64 (by omega) (by omega)
        rw [hwyi, hwi, hwy]
        have step : ∀ (v' : (Int × Int)) (u' : Int), (∀ j, y + i ≤ j → j ≤ u' → F j = v') → u' ≤ sz - 1 → (y + i < sz → F (y + i) = v') → i < 128 →
            ∃ idx blk kn ev, ixs idx2 = ixs idx ∧ bks encP blk2 = bks encP blk ∧ mkP kn2 = mkP kn ∧ meP ev2 = meP ev ∧ TInv sz F idx blk kn ev ∧ y = 128 * idx.length ∧ blk.length ≤ idx.length ∧ y = x ∧ y < sz ∧ 0 ≤ i + 1 ∧ i + 1 ≤ 128 ∧ u' ≤ sz - 1 ∧ (∀ j, y + (i + 1) ≤ j → j ≤ u' → F j = v') ∧
              ∃ c : List (Int × Int), c.length = 128 ∧ (b.set i.toNat v').flatMap encP = c.flatMap encP ∧ ∀ (q : Nat) u, c[q]? = some u → q < (i + 1).toNat → y + q < sz → u = F (y + q) := fun v' u' h1 h2 h3 h4 => by
          refine ⟨idx2, blk2, kn2, ev2, rfl, rfl, rfl, rfl, hk2, hy, hb2, hyx, hy2, by omega, by omega, h2, fun j a1 a2 => h1 j (by omega) a2, b.set i.toNat v', by simpa using hbl, rfl, fun q u hq hq2 hq3 => ?_⟩
          rw [List.getElem?_set] at hq
          by_cases e : i.toNat = q
          · rw [if_pos e, if_pos (by omega)] at hq
            cases hq
            have e2 : y + (q : Int) = y + i := by omega
            rw [e2]
            exact (h3 (by omega)).symm
          · rw [if_neg e] at hq
            exact hbq q u hq (by omega) hq3
        refine iteD (fun hc5 => ?_) (fun hc5 => ?_)
        · simp only [decide_eq_true_eq] at hc5
          refine iteD (fun hc6 => ?_) (fun hc6 => ?_)
          · simp only [Bool.and_eq_true, decide_eq_true_eq, gt_iff_lt] at hc6
            refine (p107 n f l z (y + i) (sz - 1) hl hok).mono ?_
            rintro _ rfl
            obtain ⟨q1, q2, q3, q4⟩ := hF (y + i) (by omega)
            refine ⟨_, rfl, rfl, _, rfl, _, rfl, rfl, _, rfl, _, rfl, _, rfl, _, rfl, ⟨i0, hc5⟩, ⟨rfl, by rw [flenP]; omega⟩, rfl, ?_, by dsimp only; omega⟩
            have hput := putP b i.toNat (by omega) (findL l z (y + i) (sz - 1)).1
            unfold encP at hput ⊢
            rw [hput]
            exact step _ _ q4 q3 (fun _ => q1.symm) hc5
          · simp only [Bool.and_eq_true, decide_eq_true_eq, gt_iff_lt, not_and] at hc6
            refine ⟨⟨i0, hc5⟩, ⟨rfl, by rw [flenP]; omega⟩, rfl, ?_, by dsimp only; omega⟩
            have hput := putP b i.toNat (by omega) w
            unfold encP at hput ⊢
            rw [hput]
            exact step _ _ hw ht (fun h => hw _ (Int.le_refl _) ((Int.lt_or_le t (y + i)).elim (fun h2 => absurd h (hc6 h2)) id)) hc5
        · simp only [decide_eq_true_eq] at hc5
          have hi : i = 128 := by omega
          subst hi
          obtain ⟨B, hB⟩ : ∃ B : Blk (Int × Int), B.1 = b := ⟨⟨b, hbl⟩, rfl⟩
          subst hB
          have hcI : B.1.flatMap encP = cP B := rfl
          rw [hcI, cP_all]
          refine ⟨by rw [List.drop_zero, cP_len]; omega, (fun h => ⟨h, h⟩) ?_⟩
          refine (p109 hk2 (by omega) _ _ B).mono ?_
          rintro _ _ ⟨k, kn', bn', blk', rfl, rfl, h1, h2, h3, h4⟩
          refine ⟨(k, mkP kn', bn', bks encP blk'), ⟨rfl, rfl⟩, ⟨trivial, ⟨rfl, rfl, rfl⟩, trivial, trivial, trivial, trivial, trivial⟩, ⟨fun e he => by simp at he; subst he; rfl, by rw [ixs_len]; omega⟩, rfl, ⟨idx2 ++ [k], blk', kn', ev2, by simp [ixs, kvP], rfl, rfl, rfl, h1.push h2 h3 fun j u' hj hlt => ?_, by simp; omega, by simp; omega, by omega, fun j a1 a2 => hw j (by omega) a2, ht⟩, by dsimp only; omega⟩
          have hj2 : j < 128 := by have := (List.getElem?_eq_some_iff.1 hj).1; simp only [hbl] at this; exact this
          rw [← hy]
          exact hbq j u' hj (by omega) (by omega)
  · simp only [decide_eq_true_eq] at hc
    exact ⟨_, _, _, _, idx, blk, rfl, by omega, hk.idx_ok⟩
end Go.Eng
set_option linter.unusedVariables false
set_option linter.unusedSimpArgs false
set_option maxRecDepth 100000
set_option linter.constructorNameAsVariable false
namespace Go.Eng
open Go Go.Proofs Go.Eng.Rows Go.Eng.Trie
theorem TrieI.congr {sz : Int} {F G : Int → Int} {v : PV} (h : TrieI sz F v) (hFG : ∀ i, 0 ≤ i → i < sz → F i = G i) : TrieI sz G v := by
  obtain ⟨n, f, n2, f2, idx, blk, rfl, h1, h2⟩ := h
  refine ⟨n, f, n2, f2, idx, blk, rfl, h1, fun q k hq => ?_⟩
  obtain ⟨k0, b, hb, hv⟩ := h2 q k hq
  exact ⟨k0, b, hb, fun j u hj hlt => by rw [← hFG _ (by omega) hlt]; exact hv j u hj hlt⟩
theorem TrieP.congr {sz : Int} {F G : Int → Int × Int} {v : PV} (h : TrieP sz F v) (hFG : ∀ i, 0 ≤ i → i < sz → F i = G i) : TrieP sz G v := by
  obtain ⟨n, f, n2, f2, idx, blk, rfl, h1, h2⟩ := h
  refine ⟨n, f, n2, f2, idx, blk, rfl, h1, fun q k hq => ?_⟩
  obtain ⟨k0, b, hb, hv⟩ := h2 q k hq
  exact ⟨k0, b, hb, fun j u hj hlt => by rw [← hFG _ (by omega) hlt]; exact hv j u hj hlt⟩
theorem TrieF.congr {sz : Int} {F G : Int → Fl} {v : PV} (h : TrieF sz F v) (hFG : ∀ i, 0 ≤ i → i < sz → F i = G i) : TrieF sz G v := by
  obtain ⟨n, f, n2, f2, idx, blk, rfl, h1, h2⟩ := h
  refine ⟨n, f, n2, f2, idx, blk, rfl, h1, fun q k hq => ?_⟩
  obtain ⟨k0, b, hb, hv⟩ := h2 q k hq
  exact ⟨k0, b, hb, fun j u hj hlt => by rw [← hFG _ (by omega) hlt]; exact hv j u hj hlt⟩
def toI (s : Sp) : Pc Int := ⟨s.fr, s.to, s.a⟩
theorem pNumbers (n f : Bool) (rows : List Row) (k : Int) (hl : rows.length < 1000000) : PCall Try.prog 45 [.sl n f (rws rows), .int .i64 k] fun v => TrieI 1114112 (numG rows k) v := by
  have hg := ofL_good k rows
  have hlen := hg.len
  refine a_ucd_numbers _ _ _ _ (fun _ _ s10 x11 x12 m s => s10 = sps (ofL k rows) ∧ x11 = (ofL k rows).length ∧ 0 ≤ x12 ∧ x12 ≤ x11 ∧ s = pcsI (((ofL k rows).take x12.toNat).map toI)) (fun _ _ _ x11 x12 _ _ => (x11 - x12).toNat) ?_
  unfold r_ucd_numbers
  refine (p29 _ _ rows k (by omega)).mono ?_
  rintro _ ⟨n1, f1, rfl⟩
  refine ⟨_, _, _, rfl, ⟨rfl, rfl, by rw [sps_len], Int.le_refl _, by rw [sps_len]; omega, rfl⟩, ?_⟩
  rintro _ _ _ x11 i m _ ⟨rfl, rfl, i0, i1, rfl⟩
  refine iteD (fun hc => ?_) (fun hc => ?_)
  · simp only [decide_eq_true_eq] at hc
    have hi : i.toNat < (ofL k rows).length := by omega
    have hw : IntKind.i64.wrap (i + 1) = i + 1 := wrap_i64 (by omega) (by omega)
    have hn : (i + 1).toNat = i.toNat + 1 := by omega
    have hgd : (sps (ofL k rows)).getD i.toNat [] = encS (ofL k rows)[i.toNat] := getD_map hi
    have hix : idxOK (sps (ofL k rows)) i 4 := idxOK_map encS_len i0 (by omega)
    refine ⟨hix, (ofL k rows)[i.toNat].fr, by rw [hgd]; rfl, (ofL k rows)[i.toNat].to, by rw [hgd]; rfl, (ofL k rows)[i.toNat].a, by rw [hgd]; rfl, (ofL k rows)[i.toNat].b, by rw [hgd]; rfl, ⟨fun e he => by simp at he; subst he; rfl, by simp [pcsI]; omega⟩, rfl, ?_⟩
    rw [hw]
    refine ⟨⟨rfl, rfl, by omega, by omega, ?_⟩, by dsimp only; omega⟩
    rw [hn, take_snoc hi, List.map_append]
    unfold pcsI
    rw [List.map_append]
    rfl
  · simp only [decide_eq_true_eq] at hc
    rw [List.take_of_length_le (by omega)]
    refine (p103 1114112 0 _ _ _ (by simp; omega) (fun p hp => ?_) (by omega) (by omega)).mono fun v hv => hv.congr fun i h0 h1 => valL_num rows k i
    obtain ⟨s, hs, rfl⟩ := List.mem_map.1 hp
    have := hg.2 s hs
    exact ⟨by simp only [toI]; omega, by simp only [toI]; omega⟩

/-! ### Where truths may change -/
def cutA (ll : List (Bool × Bool × List Sp)) : List (List PV) := ll.map fun x => [.sl x.1 x.2.1 (sps x.2.2)]
abbrev encJ (M : List (Int × Bool)) : List (PV × PV) := encM (fun n => .int .i64 n) (fun b => .bool b) M
def spansOf (ll : List (Bool × Bool × List Sp)) : List Sp := (ll.map (·.2.2)).flatten
def edgesOf (l : List Sp) : List Int := l.flatMap fun s => [s.fr, s.to + 1]
theorem edges_snoc (l : List Sp) (s : Sp) (x : Int) : x ∈ edgesOf (l ++ [s]) ↔ x ∈ edgesOf l ∨ x = s.fr ∨ x = s.to + 1 := by
  simp [edgesOf]
def JM (done : List Sp) (m : List (PV × PV)) : Prop := ∃ M : List (Int × Bool), m = encJ M ∧ (M.map (·.1)).Nodup ∧ M.length ≤ 1 + 2 * done.length ∧ ∀ x, x ∈ M.map (·.1) ↔ x = 0 ∨ x ∈ edgesOf done
theorem pCut (n f : Bool) (ll : List (Bool × Bool × List Sp)) (hl : ll.length < 1000) (hg : ∀ x ∈ ll, Rows.Good x.2.2) :
    PCall Try.prog 70 [.sl n f (cutA ll)] fun v => ∃ n f t, v = .sl n f (ixs t) ∧ t.length < 4000000000 ∧ ∀ x, x ∈ t ↔ CutP (ll.map (·.2.2)) x := by
  have hlen : ∀ k, (spansOf (ll.take k)).length ≤ 1114112 * k := fun k => by
    induction k with
    | zero => simp [spansOf]
    | succ k ih =>
      by_cases hk : k < ll.length
      · rw [take_snoc hk]
        have := (hg _ (List.getElem_mem hk)).len
        simp only [spansOf, List.map_append, List.flatten_append, List.length_append, List.map_cons, List.map_nil, List.flatten_cons, List.flatten_nil, List.append_nil] at ih ⊢
        omega
      · rw [List.take_of_length_le (by omega)]
        rw [List.take_of_length_le (by omega)] at ih
        omega
  refine a_ucd_cut _ _ _ (fun i m => 0 ≤ i ∧ i ≤ ll.length ∧ JM (spansOf (ll.take i.toNat)) m) (fun i _ => ll.length - i.toNat)
    (fun i _ _ _ _ _ _ i' n18 f18 s18 x19 k m => i' = i ∧ 0 ≤ i ∧ ∃ hi : i.toNat < ll.length, s18 = sps ll[i.toNat].2.2 ∧ x19 = ll[i.toNat].2.2.length ∧ 0 ≤ k ∧ k ≤ x19 ∧ JM (spansOf (ll.take i.toNat) ++ ll[i.toNat].2.2.take k.toNat) m) (fun _ _ _ _ x19 k _ => (x19 - k).toNat)
    (fun m s r _ => ∃ (A : List Int) (R : List (Int × Bool)) (K : List Int), s = ixs A ∧ r = encJ R ∧ (A ++ R.map (·.1)).Perm K ∧ K.length < 4000000000 ∧ (∀ x, x ∈ K ↔ CutP (ll.map (·.2.2)) x)) (fun _ _ r _ => r.length) ?_
  unfold r_ucd_cut
  refine ⟨fun kv hkv => (by cases hkv), ⟨rfl, Int.le_refl _, by omega, [(0, true)], rfl, by simp, by simp [spansOf], fun x => by simp [spansOf, edgesOf]⟩, ?_⟩
  rintro i _ ⟨i0, i1, M, rfl, hnd, hml, hmem⟩
  have hlc : (cutA ll).length = ll.length := by simp [cutA]
  refine iteD (fun hc => ?_) (fun hc => ?_)
  · simp only [decide_eq_true_eq, hlc] at hc
    have hi : i.toNat < ll.length := by omega
    have hw : IntKind.i64.wrap (i + 1) = i + 1 := wrap_i64 (by omega) (by omega)
    have hn : (i + 1).toNat = i.toNat + 1 := by omega
    have hgd : (cutA ll).getD i.toNat [] = [.sl ll[i.toNat].1 ll[i.toNat].2.1 (sps ll[i.toNat].2.2)] := getD_map hi
    have hgi := hg _ (List.getElem_mem hi)
    have hgl := hgi.len
    have hsl := hlen i.toNat
    refine ⟨idxOK_map (enc := fun x : Bool × Bool × List Sp => [PV.sl x.1 x.2.1 (sps x.2.2)]) (fun _ => rfl) i0 hc, _, _, _, by rw [hgd]; rfl, ⟨rfl, rfl, i0, hi, rfl, by rw [sps_len], Int.le_refl _, by rw [sps_len]; omega, M, rfl, hnd, by simpa using hml, by simpa using hmem⟩, ?_⟩
    rintro i' n18 f18 _ _ k _ ⟨rfl, _, _, rfl, rfl, k0, k1, M, rfl, hnd, hml, hmem⟩
    rw [List.length_append, List.length_take] at hml
    refine iteD (fun hc2 => ?_) (fun hc2 => ?_)
    · simp only [decide_eq_true_eq] at hc2
      have hk : k.toNat < ll[i'.toNat].2.2.length := by omega
      have hwk : IntKind.i64.wrap (k + 1) = k + 1 := wrap_i64 (by omega) (by omega)
      have hnk : (k + 1).toNat = k.toNat + 1 := by omega
      have hgk : (sps ll[i'.toNat].2.2).getD k.toNat [] = encS ll[i'.toNat].2.2[k.toNat] := getD_map hk
      have hix : idxOK (sps ll[i'.toNat].2.2) k 4 := idxOK_map encS_len k0 (by omega)
      have hr := hgi.2 _ (List.getElem_mem hk)
      have hts : ll[i'.toNat].2.2.take (k.toNat + 1) = ll[i'.toNat].2.2.take k.toNat ++ [ll[i'.toNat].2.2[k.toNat]] := take_snoc hk
      generalize ll[i'.toNat].2.2[k.toNat] = s at *
      have hwt : IntKind.i64.wrap (s.to + 1) = s.to + 1 := wrap_i64 (by omega) (by omega)
      have set1 := mapSet_enc (ek := fun n => PV.int .i64 n) (ev := fun b => PV.bool b) (eqKey_int .i64) s.fr true M
      have set2 := mapSet_enc (ek := fun n => PV.int .i64 n) (ev := fun b => PV.bool b) (eqKey_int .i64) (s.to + 1) true (aset s.fr true M)
      have fin : (JM (spansOf (ll.take i'.toNat) ++ ll[i'.toNat].2.2.take (k.toNat + 1)) (mapSet (.int .i64 (s.to + 1)) (.bool true) (mapSet (.int .i64 s.fr) (.bool true) (encJ M)))) := by
        refine ⟨aset (s.to + 1) true (aset s.fr true M), by rw [set1, set2], aset_nodup (aset_nodup hnd), ?_, fun x => ?_⟩
        · have e1 := aset_len s.fr true M
          have e2 := aset_len (s.to + 1) true (aset s.fr true M)
          rw [hts, List.length_append, List.length_append, List.length_take]
          simp only [List.length_cons, List.length_nil]
          omega
        · rw [mem_aset_keys, mem_aset_keys, hmem, hts, ← List.append_assoc, edges_snoc]
          constructor
          · rintro ((h | h) | h)
            · exact h.elim .inl fun h => .inr (.inl h)
            · exact .inr (.inr (.inl h))
            · exact .inr (.inr (.inr h))
          · rintro (h | h | h | h)
            · exact .inl (.inl (.inl h))
            · exact .inl (.inl (.inr h))
            · exact .inl (.inr h)
            · exact .inr h
      have hk1 : keysInt .i64 (mapSet (.int .i64 s.fr) (.bool true) (encJ M)) := by rw [set1]; exact keysInt_enc _
      refine ⟨hix, s.fr, by rw [hgk]; rfl, s.to, by rw [hgk]; rfl, s.a, by rw [hgk]; rfl, s.b, by rw [hgk]; rfl, ?_⟩
      rw [hwt, hwk]
      have hmu : ((ll[i'.toNat].2.2.length : Int) - (k + 1)).toNat < ((ll[i'.toNat].2.2.length : Int) - k).toNat := by omega
      rw [← hnk] at fin
      refine ⟨⟨?_, ?_⟩, ?_⟩ <;> exact ⟨keysInt_enc M, hk1, rfl, ⟨rfl, i0, hi, rfl, rfl, by omega, by omega, fin⟩, hmu⟩
    · simp only [decide_eq_true_eq] at hc2
      have htl : ll[i'.toNat].2.2.take k.toNat = ll[i'.toNat].2.2 := List.take_of_length_le (by omega)
      rw [htl] at hmem
      have hso : spansOf (ll.take (i' + 1).toNat) = spansOf (ll.take i'.toNat) ++ ll[i'.toNat].2.2 := by
        rw [hn, take_snoc hi]; simp only [spansOf, List.map_append, List.map_cons, List.map_nil, List.flatten_append, List.flatten_cons, List.flatten_nil, List.append_nil]
      rw [hw]
      refine ⟨rfl, ⟨by omega, by omega, M, rfl, hnd, ?_, fun x => ?_⟩, by dsimp only; omega⟩
      · rw [hso, List.length_append]; omega
      · rw [hmem, hso]
  · simp only [decide_eq_true_eq, hlc] at hc
    rw [List.take_of_length_le (by omega)] at hmem hml
    have hM : M.length < 4000000000 := by
      have := hlen ll.length
      rw [List.take_of_length_le (Nat.le_refl _)] at this
      omega
    refine ⟨⟨rfl, [], M, M.map (·.1), rfl, rfl, List.Perm.refl _, by simpa using hM, fun x => ?_⟩, ?_⟩
    · rw [hmem]
      unfold CutP edgesOf spansOf
      simp only [List.mem_flatMap, List.mem_flatten, List.mem_cons, List.not_mem_nil, or_false]
      constructor
      · rintro (h | ⟨s, ⟨l, hl, hs⟩, h⟩)
        · exact .inl h
        · exact .inr ⟨l, hl, s, hs, h⟩
      · rintro (h | ⟨l, hl, s, hs, h⟩)
        · exact .inl h
        · exact .inr ⟨s, ⟨l, hl, hs⟩, h⟩
    · rintro m _ _ q ⟨A, R, K, rfl, rfl, hp, hKl, hKm⟩
      have hlen2 := hp.length_eq
      simp only [List.length_append, List.length_map] at hlen2
      refine ⟨fun hr => ?_, fun j k v hj => ?_⟩
      · have hR : R = [] := by cases R with | nil => rfl | cons => simp [encM] at hr
        subst hR
        simp only [List.map_nil, List.append_nil] at hp
        simp only [List.length_nil] at hlen2
        exact ⟨_, _, A, rfl, by omega, fun x => by rw [hp.mem_iff, hKm]⟩
      · obtain ⟨hjl, rfl, rfl, hpe, he⟩ := enc_at hj
        refine ⟨R[j].1, rfl, R[j].2, rfl, _, rfl, _, rfl, ⟨fun e he => by simp at he; subst he; rfl, by rw [ixs_len]; omega⟩, rfl, ⟨A ++ [R[j].1], R.eraseIdx j, K, by simp [ixs], he, ?_, hKl, hKm⟩, ?_⟩
        · refine List.Perm.trans ?_ hp
          rw [List.append_assoc]
          refine List.Perm.append_left A ?_
          simpa using hpe.map (·.1)
        · dsimp only
          rw [he, encM_len, encM_len, List.length_eraseIdx_of_lt hjl]; omega
end Go.Eng
set_option linter.unusedVariables false
set_option linter.unusedSimpArgs false
set_option maxRecDepth 100000
set_option linter.constructorNameAsVariable false
namespace Go.Eng
open Go Go.Proofs Go.Eng.Rows Go.Eng.Trie
theorem four {i : Int} (h0 : 0 ≤ i) (h1 : i < 4) : i = 0 ∨ i = 1 ∨ i = 2 ∨ i = 3 := by omega
def getL4 (l0 l1 l2 l3 : List Sp) (i : Nat) : List Sp := [l0, l1, l2, l3].getD i []
theorem at4 (n0 f0 n1 f1 n2 f2 n3 f3 : Bool) (l0 l1 l2 l3 : List Sp) {i : Int} (h0 : 0 ≤ i) (h1 : i < 4) : ∃ n f, [PV.sl n0 f0 (sps l0), .sl n1 f1 (sps l1), .sl n2 f2 (sps l2), .sl n3 f3 (sps l3)].getD i.toNat .unit = .sl n f (sps (getL4 l0 l1 l2 l3 i.toNat)) := by
  rcases four h0 h1 with rfl | rfl | rfl | rfl
  · exact ⟨n0, f0, rfl⟩
  · exact ⟨n1, f1, rfl⟩
  · exact ⟨n2, f2, rfl⟩
  · exact ⟨n3, f3, rfl⟩
theorem take4 (l0 l1 l2 l3 : List Sp) {i : Int} (h0 : 0 ≤ i) (h1 : i < 4) : ([l0, l1, l2, l3].take (i + 1).toNat) = ([l0, l1, l2, l3].take i.toNat) ++ [getL4 l0 l1 l2 l3 i.toNat] := by
  rcases four h0 h1 with rfl | rfl | rfl | rfl <;> rfl
theorem mem4 (l0 l1 l2 l3 : List Sp) {i : Int} (h0 : 0 ≤ i) (h1 : i < 4) : getL4 l0 l1 l2 l3 i.toNat ∈ [l0, l1, l2, l3] := by
  rcases four h0 h1 with rfl | rfl | rfl | rfl <;> simp [getL4]
theorem pUpto (a last : Int) (n0 f0 n1 f1 n2 f2 n3 f3 : Bool) (l0 l1 l2 l3 : List Sp) (hg : ∀ l ∈ [l0, l1, l2, l3], Rows.Good l) :
    PCall Try.prog 72 [.int .i64 a, .int .i64 last, .agg [.sl n0 f0 (sps l0), .sl n1 f1 (sps l1), .sl n2 f2 (sps l2), .sl n3 f3 (sps l3)]] fun v => v = .int .i64 (uptoL a last [l0, l1, l2, l3].flatten) := by
  refine a_ucd_upto _ _ _ _ _ _ _ _ _ _ _ _ _ _
    (fun x _ _ s0 _ _ s1 _ _ s2 _ _ s3 i => s0 = sps l0 ∧ s1 = sps l1 ∧ s2 = sps l2 ∧ s3 = sps l3 ∧ 0 ≤ i ∧ i ≤ 4 ∧ x = uptoL a last ([l0, l1, l2, l3].take i.toNat).flatten) (fun _ _ _ _ _ _ _ _ _ _ _ _ _ i => (4 - i).toNat)
    (fun _ _ _ _ _ _ _ _ _ _ _ _ _ i _ _ _ _ _ x _ _ s0 _ _ s1 _ _ s2 _ _ s3 i' _ _ s15 x16 k => s0 = sps l0 ∧ s1 = sps l1 ∧ s2 = sps l2 ∧ s3 = sps l3 ∧ i = i' ∧ s15 = sps (getL4 l0 l1 l2 l3 i.toNat) ∧ x16 = (getL4 l0 l1 l2 l3 i.toNat).length ∧ 0 ≤ k ∧ k ≤ x16 ∧
      x = uptoL a last (([l0, l1, l2, l3].take i.toNat).flatten ++ (getL4 l0 l1 l2 l3 i.toNat).take k.toNat)) (fun _ _ _ _ _ _ _ _ _ _ _ _ _ _ _ _ _ x16 k => (x16 - k).toNat) ?_
  unfold r_ucd_upto
  refine ⟨_, _, _, rfl, _, _, _, rfl, _, _, _, rfl, _, _, _, rfl, ⟨rfl, rfl, rfl, rfl, rfl, Int.le_refl _, by omega, rfl⟩, ?_⟩
  rintro _ n0 f0 _ n1 f1 _ n2 f2 _ n3 f3 _ i ⟨rfl, rfl, rfl, rfl, i0, i1, rfl⟩
  have hw : IntKind.i64.wrap (i + 1) = i + 1 := wrap_i64 (by omega) (by omega)
  refine iteD (fun hc => ?_) (fun hc => ?_)
  · simp only [decide_eq_true_eq] at hc
    obtain ⟨m, g, hat⟩ := at4 n0 f0 n1 f1 n2 f2 n3 f3 l0 l1 l2 l3 i0 hc
    have hgi := hg _ (mem4 l0 l1 l2 l3 i0 hc)
    have hgl := hgi.len
    refine ⟨⟨i0, hc, by simp; omega⟩, m, g, _, hat, ⟨rfl, rfl, rfl, rfl, rfl, rfl, rfl, by rw [sps_len], Int.le_refl _, by rw [sps_len]; omega, by simp⟩, ?_⟩
    rintro _ n0 f0 _ n1 f1 _ n2 f2 _ n3 f3 _ _ n15 f15 _ _ k ⟨rfl, rfl, rfl, rfl, rfl, rfl, rfl, k0, k1, rfl⟩
    have htk := take4 l0 l1 l2 l3 i0 hc
    refine iteD (fun hc2 => ?_) (fun hc2 => ?_)
    · simp only [decide_eq_true_eq] at hc2
      have hk : k.toNat < (getL4 l0 l1 l2 l3 i.toNat).length := by omega
      have hwk : IntKind.i64.wrap (k + 1) = k + 1 := wrap_i64 (by omega) (by omega)
      have hnk : (k + 1).toNat = k.toNat + 1 := by omega
      have hgk : (sps (getL4 l0 l1 l2 l3 i.toNat)).getD k.toNat [] = encS (getL4 l0 l1 l2 l3 i.toNat)[k.toNat] := getD_map hk
      have hix : idxOK (sps (getL4 l0 l1 l2 l3 i.toNat)) k 4 := idxOK_map encS_len k0 (by omega)
      have hr := hgi.2 _ (List.getElem_mem hk)
      have hts : (getL4 l0 l1 l2 l3 i.toNat).take (k.toNat + 1) = (getL4 l0 l1 l2 l3 i.toNat).take k.toNat ++ [(getL4 l0 l1 l2 l3 i.toNat)[k.toNat]] := take_snoc hk
      have hmu : (((getL4 l0 l1 l2 l3 i.toNat).length : Int) - (k + 1)).toNat < (((getL4 l0 l1 l2 l3 i.toNat).length : Int) - k).toNat := by omega
      refine ⟨hix, (getL4 l0 l1 l2 l3 i.toNat)[k.toNat].fr, by rw [hgk]; rfl, (getL4 l0 l1 l2 l3 i.toNat)[k.toNat].to, by rw [hgk]; rfl, (getL4 l0 l1 l2 l3 i.toNat)[k.toNat].a, by rw [hgk]; rfl, (getL4 l0 l1 l2 l3 i.toNat)[k.toNat].b, by rw [hgk]; rfl, ?_⟩
      rw [hwk]
      generalize (getL4 l0 l1 l2 l3 i.toNat)[k.toNat] = s at *
      have hws : IntKind.i64.wrap (s.fr - 1) = s.fr - 1 := wrap_i64 (by omega) (by omega)
      rw [hws]
      have hstep : uptoL a last (([l0, l1, l2, l3].take i.toNat).flatten ++ (getL4 l0 l1 l2 l3 i.toNat).take (k + 1).toNat) = if s.fr > a ∧ s.fr ≤ uptoL a last (([l0, l1, l2, l3].take i.toNat).flatten ++ (getL4 l0 l1 l2 l3 i.toNat).take k.toNat) then s.fr - 1 else uptoL a last (([l0, l1, l2, l3].take i.toNat).flatten ++ (getL4 l0 l1 l2 l3 i.toNat).take k.toNat) := by
        rw [hnk, hts, ← List.append_assoc, uptoL_app]; rfl
      refine iteD (fun h1 => iteD (fun h2 => ?_) (fun h2 => ?_)) (fun h1 => ?_)
      · simp only [decide_eq_true_eq] at h1 h2
        rw [if_pos ⟨h1, h2⟩] at hstep
        exact ⟨rfl, ⟨rfl, rfl, rfl, rfl, rfl, rfl, rfl, by omega, by omega, hstep.symm⟩, hmu⟩
      · simp only [decide_eq_true_eq] at h1 h2
        rw [if_neg (fun h => h2 h.2)] at hstep
        exact ⟨rfl, ⟨rfl, rfl, rfl, rfl, rfl, rfl, rfl, by omega, by omega, hstep.symm⟩, hmu⟩
      · simp only [decide_eq_true_eq] at h1
        rw [if_neg (fun h => h1 h.1)] at hstep
        exact ⟨rfl, ⟨rfl, rfl, rfl, rfl, rfl, rfl, rfl, by omega, by omega, hstep.symm⟩, hmu⟩
    · simp only [decide_eq_true_eq] at hc2
      have htl : (getL4 l0 l1 l2 l3 i.toNat).take k.toNat = (getL4 l0 l1 l2 l3 i.toNat) := List.take_of_length_le (by omega)
      rw [hw, htl]
      refine ⟨rfl, ⟨rfl, rfl, rfl, rfl, by omega, by omega, ?_⟩, by dsimp only; omega⟩
      rw [htk]; simp
  · simp only [decide_eq_true_eq] at hc
    have : i = 4 := by omega
    subst this
    rfl
end Go.Eng
set_option linter.unusedVariables false
set_option linter.unusedSimpArgs false
set_option maxRecDepth 100000
set_option linter.constructorNameAsVariable false
namespace Go.Eng
open Go Go.Proofs Go.Eng.Rows Go.Eng.Trie
def kd (q : Nat) : Int := [5, 7, 8, 3].getD q 0
def k4 (rows : List Row) (q : Nat) : List Sp := ofL (kd q) rows
theorem getL4_k4 (rows : List Row) {i : Int} (h0 : 0 ≤ i) (h1 : i < 4) : getL4 (ofL 5 rows) (ofL 7 rows) (ofL 8 rows) (ofL 3 rows) i.toNat = k4 rows i.toNat := by
  rcases four h0 h1 with rfl | rfl | rfl | rfl <;> rfl
def CellsK (rows : List Row) (i : Int) (c : List PV) : Prop := c.length = 4 ∧ ∀ q : Nat, (q : Int) < i → ∃ n f, c[q]? = some (.sl n f (sps (k4 rows q)))
def HasC (rows : List Row) (a i : Int) (c : List PV) : Prop := c.length = 4 ∧ ∀ q : Nat, (q : Int) < i → c[q]? = some (.bool (trueG rows (kd q) a))
theorem put4 {c : List PV} (hl : c.length = 4) {i : Int} (h0 : 0 ≤ i) (h1 : i < 4) (v : PV) : (spl c (0 + i.toNat * 1) [v]).length = 4 ∧ ∀ q : Nat, (spl c (0 + i.toNat * 1) [v])[q]? = if q = i.toNat then some v else c[q]? := by
  have hle : (0 + i.toNat * 1) + [v].length ≤ c.length := by simp; omega
  refine ⟨by rw [spl_length _ _ _ hle, hl], fun q => ?_⟩
  rw [spl_get _ _ _ hle]
  simp only [Nat.zero_add, Nat.mul_one, List.length_cons, List.length_nil]
  by_cases hq : q = i.toNat
  · subst hq; rw [if_pos (by omega), if_pos rfl]; simp
  · rw [if_neg (by omega), if_neg hq]
theorem CellsK.put {rows : List Row} {i : Int} {c : List PV} (h : CellsK rows i c) (h0 : 0 ≤ i) (h1 : i < 4) (n f : Bool) : CellsK rows (i + 1) (spl c (0 + i.toNat * 1) [.sl n f (sps (k4 rows i.toNat))]) := by
  obtain ⟨e1, e2⟩ := put4 h.1 h0 h1 (.sl n f (sps (k4 rows i.toNat)))
  refine ⟨e1, fun q hq => ?_⟩
  rw [e2]
  by_cases hqi : q = i.toNat
  · subst hqi; rw [if_pos rfl]; exact ⟨n, f, rfl⟩
  · rw [if_neg hqi]; exact h.2 q (by omega)
theorem HasC.put {rows : List Row} {a i : Int} {c : List PV} (h : HasC rows a i c) (h0 : 0 ≤ i) (h1 : i < 4) {b : Bool} (hb : b = trueG rows (kd i.toNat) a) : HasC rows a (i + 1) (spl c (0 + i.toNat * 1) [.bool b]) := by
  obtain ⟨e1, e2⟩ := put4 h.1 h0 h1 (.bool b)
  refine ⟨e1, fun q hq => ?_⟩
  rw [e2]
  by_cases hqi : q = i.toNat
  · subst hqi; rw [if_pos rfl, hb]
  · rw [if_neg hqi]; exact h.2 q (by omega)
theorem eq4 {c : List PV} {a0 a1 a2 a3 : PV} (hl : c.length = 4) (h0 : c[0]? = some a0) (h1 : c[1]? = some a1) (h2 : c[2]? = some a2) (h3 : c[3]? = some a3) : c = [a0, a1, a2, a3] := by
  match c, hl with
  | [b0, b1, b2, b3], _ => simp at h0 h1 h2 h3; rw [h0, h1, h2, h3]
theorem CellsK.all {rows : List Row} {c : List PV} (h : CellsK rows 4 c) : ∃ n0 f0 n1 f1 n2 f2 n3 f3, c = [.sl n0 f0 (sps (ofL 5 rows)), .sl n1 f1 (sps (ofL 7 rows)), .sl n2 f2 (sps (ofL 8 rows)), .sl n3 f3 (sps (ofL 3 rows))] := by
  obtain ⟨n0, f0, e0⟩ := h.2 0 (by omega)
  obtain ⟨n1, f1, e1⟩ := h.2 1 (by omega)
  obtain ⟨n2, f2, e2⟩ := h.2 2 (by omega)
  obtain ⟨n3, f3, e3⟩ := h.2 3 (by omega)
  exact ⟨n0, f0, n1, f1, n2, f2, n3, f3, eq4 h.1 e0 e1 e2 e3⟩
theorem HasC.all {rows : List Row} {a : Int} {c : List PV} (h : HasC rows a 4 c) : c = [.bool (flagG rows a).1, .bool (flagG rows a).2.1, .bool (flagG rows a).2.2.1, .bool (flagG rows a).2.2.2] :=
  eq4 h.1 (h.2 0 (by omega)) (h.2 1 (by omega)) (h.2 2 (by omega)) (h.2 3 (by omega))
theorem kind4 {i : Int} (h0 : 0 ≤ i) (h1 : i < 4) : [PV.int .i64 5, .int .i64 7, .int .i64 8, .int .i64 3].getD i.toNat .unit = .int .i64 (kd i.toNat) := by
  rcases four h0 h1 with rfl | rfl | rfl | rfl <;> rfl
theorem l4_good (rows : List Row) : ∀ l ∈ l4 rows, Rows.Good l := by
  intro l hl
  simp only [l4, List.mem_cons, List.not_mem_nil, or_false] at hl
  rcases hl with rfl | rfl | rfl | rfl <;> exact ofL_good _ _
theorem l4_take (rows : List Row) {i : Int} (h0 : 0 ≤ i) (h1 : i < 4) : (l4 rows).take (i + 1).toNat = (l4 rows).take i.toNat ++ [k4 rows i.toNat] := by
  rcases four h0 h1 with rfl | rfl | rfl | rfl <;> rfl
theorem cut_rng {rows : List Row} {x : Int} (h : CutP (l4 rows) x) : 0 ≤ x ∧ x ≤ 1114112 := by
  rcases h with rfl | ⟨l, hl, s, hs, h⟩
  · omega
  · have := (l4_good rows l hl).2 s hs
    omega
/-- The pieces of truths, made so far. -/
def TrP (rows : List Row) (t : List Int) (i : Int) (s : List (List PV)) : Prop := ∃ P : List (Pc Fl), s = pcsF P ∧ (P.length : Int) ≤ i ∧ PiecesOK rows (t.take i.toNat) P
theorem pTruths (n f : Bool) (rows : List Row) (hl : rows.length < 1000000) : PCall Try.prog 46 [.sl n f (rws rows)] fun v => TrieF 1114112 (flagG rows) v := by
  refine a_ucd_truths _ _ _
    (fun a b c d i c0 => a = 5 ∧ b = 7 ∧ c = 8 ∧ d = 3 ∧ 0 ≤ i ∧ i ≤ 4 ∧ CellsK rows i c0) (fun _ _ _ _ i _ => (4 - i).toNat)
    (fun p4 _ _ s29 x30 i _ s => CellsK rows 4 p4 ∧ ∃ t, s29 = ixs t ∧ x30 = t.length ∧ t.length < 4000000000 ∧ (∀ x, x ∈ t ↔ CutP (l4 rows) x) ∧ 0 ≤ i ∧ i ≤ x30 ∧ TrP rows t i s) (fun _ _ _ _ x30 i _ _ => (x30 - i).toNat)
    (fun p4 a _ _ _ s29 x30 i _ _ _ _ _ _ _ _ _ _ _ _ _ _ s _ p4' a' x11 _ _ s29' x30' i' _ _ s0 _ _ s1 _ _ s2 _ _ s3 k _ s' c1 => p4 = p4' ∧ a = a' ∧ s29 = s29' ∧ x30 = x30' ∧ i = i' ∧ s = s' ∧ s0 = sps (ofL 5 rows) ∧ s1 = sps (ofL 7 rows) ∧ s2 = sps (ofL 8 rows) ∧ s3 = sps (ofL 3 rows) ∧
      0 ≤ k ∧ k ≤ 4 ∧ HasC rows a k c1 ∧ LastOK ((l4 rows).take k.toNat) a x11) (fun _ _ _ _ _ _ _ _ _ _ _ _ _ _ _ _ _ _ _ _ k _ _ _ => (4 - k).toNat) ?_
  unfold r_ucd_truths
  refine ⟨⟨rfl, Nat.le_refl _⟩, _, rfl, _, rfl, _, rfl, _, rfl, ⟨rfl, rfl, rfl, rfl, rfl, Int.le_refl _, by omega, rfl, fun q hq => absurd hq (by omega)⟩, ?_⟩
  rintro _ _ _ _ i c0 ⟨rfl, rfl, rfl, rfl, i0, i1, hck⟩
  have hw : IntKind.i64.wrap (i + 1) = i + 1 := wrap_i64 (by omega) (by omega)
  refine iteD (fun hc => ?_) (fun hc => ?_)
  · simp only [decide_eq_true_eq] at hc
    refine ⟨⟨i0, hc, by simp; omega⟩, kd i.toNat, kind4 i0 hc, ?_⟩
    refine (p29 _ _ rows (kd i.toNat) (by omega)).mono ?_
    rintro _ ⟨n1, f1, rfl⟩
    rw [hw]
    exact ⟨_, _, _, rfl, ⟨i0, hc⟩, ⟨rfl, by rw [hck.1]; omega⟩, rfl, ⟨rfl, rfl, rfl, rfl, by omega, by omega, hck.put i0 hc n1 f1⟩, by dsimp only; omega⟩
  · simp only [decide_eq_true_eq] at hc
    have : i = 4 := by omega
    subst this
    obtain ⟨n0, f0, n1, f1, n2, f2, n3, f3, rfl⟩ := hck.all
    refine ⟨⟨⟨by simp, by simp⟩, rfl⟩, ?_⟩
    refine (pCut false true [(n0, f0, ofL 5 rows), (n1, f1, ofL 7 rows), (n2, f2, ofL 8 rows), (n3, f3, ofL 3 rows)] (by simp) (fun x hx => ?_)).mono ?_
    · simp only [List.mem_cons, List.not_mem_nil, or_false] at hx
      rcases hx with rfl | rfl | rfl | rfl <;> exact ofL_good _ _
    rintro _ ⟨n4, f4, t, rfl, htl, ht⟩
    refine ⟨_, _, _, rfl, ⟨rfl, hck, t, rfl, by rw [ixs_len], htl, ht, Int.le_refl _, by rw [ixs_len]; omega, [], rfl, Int.le_refl _, PiecesOK.nil rows⟩, ?_⟩
    clear ht htl
    rintro p4 n29 f29 _ _ i m _ ⟨hck, t, rfl, rfl, htl, ht, i0, i1, P, rfl, hPl, hP⟩
    have hw : IntKind.i64.wrap (i + 1) = i + 1 := wrap_i64 (by omega) (by omega)
    refine iteD (fun hc => ?_) (fun hc => ?_)
    · simp only [decide_eq_true_eq] at hc
      have hi : i.toNat < t.length := by omega
      have hn : (i + 1).toNat = i.toNat + 1 := by omega
      have hgd : (ixs t).getD i.toNat [] = [.int .i64 t[i.toNat]] := getD_map hi
      have hts : t.take (i.toNat + 1) = t.take i.toNat ++ [t[i.toNat]] := take_snoc hi
      have hcut := (ht t[i.toNat]).1 (List.getElem_mem hi)
      have hrng := cut_rng hcut
      obtain ⟨n0, f0, n1, f1, n2, f2, n3, f3, rfl⟩ := hck.all
      refine ⟨idxOK_map enc1_len i0 (by omega), t[i.toNat], by rw [hgd]; rfl, _, _, _, rfl, _, _, _, rfl, _, _, _, rfl, _, _, _, rfl,
        ⟨rfl, rfl, rfl, rfl, rfl, rfl, rfl, rfl, rfl, rfl, rfl, Int.le_refl _, by omega, ⟨rfl, fun q hq => absurd hq (by omega)⟩, LastOK.nil _⟩, ?_⟩
      generalize t[i.toNat] = a at *
      rintro _ _ x11 n29 f29 _ _ _ n0 f0 _ n1 f1 _ n2 f2 _ n3 f3 _ k m' _ c1 ⟨rfl, rfl, rfl, rfl, rfl, rfl, rfl, rfl, rfl, rfl, k0, k1, hhas, hlast⟩
      have hwk : IntKind.i64.wrap (k + 1) = k + 1 := wrap_i64 (by omega) (by omega)
      refine iteD (fun hc2 => ?_) (fun hc2 => ?_)
      · simp only [decide_eq_true_eq] at hc2
        obtain ⟨n4, f4, hat⟩ := at4 n0 f0 n1 f1 n2 f2 n3 f3 (ofL 5 rows) (ofL 7 rows) (ofL 8 rows) (ofL 3 rows) k0 hc2
        rw [getL4_k4 rows k0 hc2] at hat
        refine ⟨⟨k0, hc2, by simp; omega⟩, n4, f4, _, hat, ?_⟩
        have hwa : IntKind.i32.wrap a = a := wrap_i32 (by omega) (by omega)
        rw [hwa]
        refine (p34 _ _ (k4 rows k.toNat) a (ofL_good _ _) (by omega)).mono ?_
        rintro _ ⟨x, q, rfl, hq1, hq2⟩
        have htk := l4_take rows k0 hc2
        have hmu : (4 - (k + 1)).toNat < (4 - k).toNat := by omega
        refine ⟨_, rfl, rfl, _, rfl, _, rfl, rfl, x.fr, rfl, x.to, rfl, x.a, rfl, x.b, rfl, _, rfl, q, rfl, ?_⟩
        rw [hwk]
        have hsz : ([PV.bool true].length : Nat) = 1 ∧ 0 + k.toNat * 1 + 1 ≤ c1.length := ⟨rfl, by rw [hhas.1]; omega⟩
        cases q with
        | true =>
          obtain ⟨hx1, hx2⟩ := hq1 rfl
          have hv : (x.a == 1) = trueG rows (kd k.toNat) a := by
            unfold trueG; rw [of_span hx1 hx2]; rfl
          refine iteT rfl ⟨⟨k0, hc2⟩, hsz, iteT rfl ⟨rfl, ⟨rfl, rfl, rfl, rfl, rfl, rfl, rfl, rfl, rfl, rfl, by omega, by omega, hhas.put k0 hc2 hv, ?_⟩, hmu⟩⟩
          rw [htk]
          have := hlast.some hx1 hx2 (ofL_good _ _)
          exact this
        | false =>
          obtain ⟨_, hno⟩ := hq2 rfl
          have hv : false = trueG rows (kd k.toNat) a := by
            unfold trueG; rw [none_of hno]
          refine iteF (by simp) ⟨⟨k0, hc2⟩, hsz, iteF (by simp) ⟨rfl, ⟨rfl, rfl, rfl, rfl, rfl, rfl, rfl, rfl, rfl, rfl, by omega, by omega, hhas.put k0 hc2 hv, ?_⟩, hmu⟩⟩
          rw [htk]
          exact hlast.none hno
      · simp only [decide_eq_true_eq] at hc2
        have : k = 4 := by omega
        subst this
        have hc1 := hhas.all
        subst hc1
        have hmu : ((t.length : Int) - (i + 1)).toNat < ((t.length : Int) - i).toNat := by omega
        refine ⟨_, rfl, _, rfl, _, rfl, _, rfl, ?_⟩
        rw [hw]
        refine iteD (fun hc3 => ?_) (fun hc3 => ?_)
        · refine ⟨_, _, _, rfl, _, _, _, rfl, _, _, _, rfl, _, _, _, rfl, ⟨by omega, by omega⟩, _, rfl, ⟨by omega, by omega⟩, _, rfl, ⟨by omega, by omega⟩, _, rfl, ⟨by omega, by omega⟩, _, rfl, ?_⟩
          refine (pUpto a x11 _ _ _ _ _ _ _ _ (ofL 5 rows) (ofL 7 rows) (ofL 8 rows) (ofL 3 rows) (l4_good rows)).mono ?_
          rintro _ rfl
          refine ⟨_, rfl, ⟨fun e he => by simp at he; subst he; rfl, by simp [pcsF]; omega⟩, rfl, ⟨hck, t, rfl, rfl, htl, ht, by omega, by omega, P ++ [⟨a, uptoL a x11 (l4 rows).flatten, flagG rows a⟩], ?_, by simp; omega, ?_⟩, hmu⟩
          · unfold pcsF; rw [List.map_append]; rfl
          · rw [hn, hts]; exact hP.put hrng.1 hrng.2 hlast
        · refine ⟨rfl, ⟨hck, t, rfl, rfl, htl, ht, by omega, by omega, P, rfl, by omega, ?_⟩, hmu⟩
          rw [hn, hts]
          refine hP.skip ?_
          revert hc3
          generalize flagG rows a = fl
          obtain ⟨b0, b1, b2, b3⟩ := fl
          cases b0 <;> cases b1 <;> cases b2 <;> cases b3 <;> simp
    · simp only [decide_eq_true_eq] at hc
      rw [List.take_of_length_le (by omega)] at hP
      refine (p106 1114112 (false, false, false, false) _ _ P (by omega) (fun p hp => ?_) (by omega) (by omega)).mono fun v hv => hv.congr fun i h0 h1 => hP.val ht h0 (by omega)
      have := (hP.sound p hp).1
      omega
end Go.Eng
set_option linter.unusedVariables false
set_option linter.unusedSimpArgs false
namespace Go.Eng.Rows
open Go Go.Eng Go.Eng.Trie
theorem entSet_mapSet (k v p : PV) (M : List (PV × PV)) : entSet (mapIx k M) p (mapSet k v M) = mapSet k p M ∧ mapIx k M < (mapSet k v M).length := by
  unfold entSet mapIx mapSet
  cases h : mapPos k M with
  | none => simp
  | some j =>
    have := mapPos_lt h
    simp [this]
/-- Rows of pairs hold scalars. -/
def PairRows (rows : List Row) : Prop := ∀ x ∈ rows, x.kind = 2 → (1 ≤ x.a ∧ x.a ≤ 1114111) ∧ 0 ≤ x.b ∧ x.b ≤ 1114111
theorem firstG_mem {rows : List Row} {k r : Int} {p : Int × Int} (h : firstG rows k r = some p) : ∃ x ∈ rows, x.kind = k ∧ x.a = p.1 ∧ x.b = p.2 ∧ x.fr ≤ r ∧ r ≤ x.to ∧ 0 ≤ r ∧ r ≤ 1114111 := by
  unfold firstG at h
  split at h
  · rename_i hr
    unfold first at h
    cases hf : rows.find? (fun x => x.has k r) with
    | none => rw [hf] at h; cases h
    | some x =>
      rw [hf] at h; cases h
      have h1 := List.mem_of_find?_eq_some hf
      have h2 := List.find?_some hf
      simp only [Row.has, Bool.and_eq_true, decide_eq_true_eq] at h2
      exact ⟨x, h1, h2.1, rfl, rfl, h2.2.1, h2.2.2, hr.1, hr.2⟩
  · cases h
theorem pairG_rng {rows : List Row} (hp : PairRows rows) (r : Int) : (0 ≤ (pairG rows r).1 ∧ (pairG rows r).1 ≤ 1114111) ∧ 0 ≤ (pairG rows r).2 ∧ (pairG rows r).2 ≤ 1114111 := by
  unfold pairG
  cases h : firstG rows 2 r with
  | none => simp
  | some p =>
    obtain ⟨x, h1, h2, h3, h4, _⟩ := firstG_mem h
    have := hp x h1 h2
    simp only; omega
theorem pairG_ne {rows : List Row} (hp : PairRows rows) {r : Int} {p : Int × Int} (h : firstG rows 2 r = some p) : pairG rows r ≠ (0, 0) := by
  unfold pairG
  rw [h]
  obtain ⟨x, h1, h2, h3, h4, _⟩ := firstG_mem h
  have := hp x h1 h2
  intro e
  simp only at e
  rw [e] at h3
  simp only at h3
  omega
theorem pairG_span {rows : List Row} {r : Int} {s : Sp} (hs : s ∈ ofL 2 rows) (h : s.has r) : pairG rows r = (s.a, s.b) := by
  unfold pairG; rw [of_span hs h]
theorem pairG_of {rows : List Row} {r : Int} (h : pairG rows r ≠ (0, 0)) : ∃ s ∈ ofL 2 rows, s.has r := by
  cases hf : firstG rows 2 r with
  | none => unfold pairG at h; rw [hf] at h; exact absurd rfl h
  | some p => obtain ⟨s, h1, h2, _⟩ := span_of hf; exact ⟨s, h1, h2⟩
theorem span_rng {rows : List Row} (hp : PairRows rows) {s : Sp} (hs : s ∈ ofL 2 rows) : (1 ≤ s.a ∧ s.a ≤ 1114111) ∧ 0 ≤ s.b ∧ s.b ≤ 1114111 := by
  have hg := (ofL_good 2 rows).2 s hs
  obtain ⟨x, h1, h2, h3, h4, _⟩ := firstG_mem (of_span hs (r := s.fr) ⟨Int.le_refl _, hg.2.1⟩)
  have := hp x h1 h2
  simp only at h3 h4
  omega
/-- What may be composed. -/
def goodG (rows : List Row) (r : Int) : Prop := pairG rows r ≠ (0, 0) ∧ outG rows r = false
structure MadeOK (rows : List Row) (D : Int → Prop) (made : List ((Int × Int) × Int)) (sec : List (Int × Bool)) : Prop where
  m1 : ∀ p r, aget p made = some r → D r ∧ goodG rows r ∧ pairG rows r = p ∧ ∀ r', D r' → goodG rows r' → pairG rows r' = p → r ≤ r'
  m2 : ∀ p, aget p made = none → ∀ r', D r' → goodG rows r' → pairG rows r' ≠ p
  s1 : ∀ b v, aget b sec = some v → v = true ∧ ∃ r, D r ∧ goodG rows r ∧ (pairG rows r).2 = b
  s2 : ∀ b, aget b sec = none → ∀ r', D r' → goodG rows r' → (pairG rows r').2 ≠ b
theorem MadeOK.nil (rows : List Row) : MadeOK rows (fun _ => False) [] [] := ⟨fun p r h => (by cases h), fun p _ r' h => h.elim, fun b v h => (by cases h), fun b _ r' h => h.elim⟩
theorem MadeOK.same {rows : List Row} {D D' : Int → Prop} {made : List ((Int × Int) × Int)} {sec : List (Int × Bool)} (h : MadeOK rows D made sec) (hd : ∀ r, goodG rows r → (D r ↔ D' r)) : MadeOK rows D' made sec :=
  ⟨fun p r hr => by
    obtain ⟨h1, h2, h3, h4⟩ := h.m1 p r hr
    exact ⟨(hd r h2).1 h1, h2, h3, fun r' q1 q2 q3 => h4 r' ((hd r' q2).2 q1) q2 q3⟩,
  fun p hr r' q1 q2 => h.m2 p hr r' ((hd r' q2).2 q1) q2,
  fun b v hb => by
    obtain ⟨h1, r, h2, h3, h4⟩ := h.s1 b v hb
    exact ⟨h1, r, (hd r h3).1 h2, h3, h4⟩,
  fun b hb r' q1 q2 => h.s2 b hb r' ((hd r' q2).2 q1) q2⟩
theorem MadeOK.known {rows : List Row} {D : Int → Prop} {made : List ((Int × Int) × Int)} {sec : List (Int × Bool)} (h : MadeOK rows D made sec) {x r0 : Int} (hx : ∀ r, D r → r < x) (hk : aget (pairG rows x) made = some r0) : MadeOK rows (fun r => D r ∨ r = x) made sec := by
  obtain ⟨k1, k2, k3, k4⟩ := h.m1 _ _ hk
  refine ⟨fun p r hr => ?_, fun p hr r' q1 q2 => ?_, fun b v hb => ?_, fun b hb r' q1 q2 => ?_⟩
  · obtain ⟨h1, h2, h3, h4⟩ := h.m1 p r hr
    refine ⟨.inl h1, h2, h3, fun r' q1 q2 q3 => ?_⟩
    rcases q1 with q1 | rfl
    · exact h4 r' q1 q2 q3
    · exact Int.le_of_lt (hx r h1)
  · rcases q1 with q1 | rfl
    · exact h.m2 p hr r' q1 q2
    · intro e; rw [← e, hk] at hr; cases hr
  · obtain ⟨h1, r, h2, h3, h4⟩ := h.s1 b v hb
    exact ⟨h1, r, .inl h2, h3, h4⟩
  · rcases q1 with q1 | rfl
    · exact h.s2 b hb r' q1 q2
    · intro e
      exact h.s2 b hb r0 k1 k2 (by rw [k3, e])
theorem MadeOK.out {rows : List Row} {D : Int → Prop} {made : List ((Int × Int) × Int)} {sec : List (Int × Bool)} (h : MadeOK rows D made sec) {x : Int} (ho : outG rows x = true) : MadeOK rows (fun r => D r ∨ r = x) made sec :=
  h.same fun r hr => ⟨.inl, fun hd => hd.elim id fun e => by subst e; have := hr.2; rw [ho] at this; cases this⟩
theorem MadeOK.put {rows : List Row} {D : Int → Prop} {made : List ((Int × Int) × Int)} {sec : List (Int × Bool)} (h : MadeOK rows D made sec) {x : Int} (hx : ∀ r, D r → r < x) (hn : aget (pairG rows x) made = none) (hg : goodG rows x) :
    MadeOK rows (fun r => D r ∨ r = x) (aset (pairG rows x) x made) (aset (pairG rows x).2 true sec) := by
  refine ⟨fun p r hr => ?_, fun p hr r' q1 q2 => ?_, fun b v hb => ?_, fun b hb r' q1 q2 => ?_⟩
  · rw [aget_aset] at hr
    split at hr
    · rename_i hp; cases hr; subst hp
      refine ⟨.inr rfl, hg, rfl, fun r' q1 q2 q3 => ?_⟩
      rcases q1 with q1 | rfl
      · exact absurd q3 (h.m2 _ hn r' q1 q2)
      · exact Int.le_refl _
    · rename_i hp
      obtain ⟨h1, h2, h3, h4⟩ := h.m1 p r hr
      refine ⟨.inl h1, h2, h3, fun r' q1 q2 q3 => ?_⟩
      rcases q1 with q1 | rfl
      · exact h4 r' q1 q2 q3
      · exact Int.le_of_lt (hx r h1)
  · rw [aget_aset] at hr
    split at hr
    · cases hr
    · rename_i hp
      rcases q1 with q1 | rfl
      · exact h.m2 p hr r' q1 q2
      · exact fun e => hp e.symm
  · rw [aget_aset] at hb
    split at hb
    · rename_i hp; cases hb; exact ⟨rfl, x, .inr rfl, hg, hp.symm⟩
    · obtain ⟨h1, r, h2, h3, h4⟩ := h.s1 b v hb
      exact ⟨h1, r, .inl h2, h3, h4⟩
  · rw [aget_aset] at hb
    split at hb
    · cases hb
    · rename_i hp
      rcases q1 with q1 | rfl
      · exact h.s2 b hb r' q1 q2
      · exact fun e => hp e.symm
end Go.Eng.Rows
set_option linter.unusedVariables false
set_option linter.unusedSimpArgs false
set_option maxRecDepth 100000
set_option linter.constructorNameAsVariable false
namespace Go.Eng
open Go Go.Proofs Go.Eng.Rows Go.Eng.Trie
structure Tri (rows : List Row) (tc tg tj tf tp : PV) : Prop where
  c : TrieI 1114112 (numG rows 1) tc
  g : TrieI 1114112 (numG rows 4) tg
  j : TrieI 1114112 (numG rows 6) tj
  f : TrieF 1114112 (flagG rows) tf
  p : TrieP 1114112 (pairG rows) tp
theorem TrieI.ptr {sz : Int} {F : Int → Int} {v : PV} (h : TrieI sz F v) : ∃ ps, v = .ptr ps := by
  obtain ⟨n, f, n2, f2, idx, blk, rfl, _⟩ := h; exact ⟨_, rfl⟩
theorem TrieF.ptr {sz : Int} {F : Int → Fl} {v : PV} (h : TrieF sz F v) : ∃ ps, v = .ptr ps := by
  obtain ⟨n, f, n2, f2, idx, blk, rfl, _⟩ := h; exact ⟨_, rfl⟩
theorem TrieP.ptr {sz : Int} {F : Int → Int × Int} {v : PV} (h : TrieP sz F v) : ∃ ps, v = .ptr ps := by
  obtain ⟨n, f, n2, f2, idx, blk, rfl, _⟩ := h; exact ⟨_, rfl⟩
theorem firstG_out {rows : List Row} {k r : Int} (h : ¬ (0 ≤ r ∧ r < 1114112)) : firstG rows k r = none := by
  unfold firstG; rw [if_neg (by omega)]
theorem numG_if (rows : List Row) (k r : Int) : (if 0 ≤ r ∧ r < 1114112 then numG rows k r else 0) = numG rows k r := by
  split
  · rfl
  · rename_i h; unfold numG; rw [firstG_out h]
theorem pairG_if (rows : List Row) (r : Int) : (if 0 ≤ r ∧ r < 1114112 then pairG rows r else (0, 0)) = pairG rows r := by
  split
  · rfl
  · rename_i h; unfold pairG; rw [firstG_out h]
theorem flagG_if (rows : List Row) (r : Int) : (if 0 ≤ r ∧ r < 1114112 then flagG rows r else (false, false, false, false)) = flagG rows r := by
  split
  · rfl
  · rename_i h; unfold flagG trueG; simp only [firstG_out h]
section
variable {rows : List Row} {tc tg tj tf tp : PV} (M S : List (PV × PV))
theorem pClass (ht : Tri rows tc tg tj tf tp) {r : Int} (hr : -2147483648 ≤ r ∧ r ≤ 2147483647) : PCall Try.prog 56 [.ptr [tc, tg, tj, tf, tp, .mp M, .mp S], .int .i32 r] fun v => v = .int .i64 (numG rows 1 r) := by
  refine a_ucd_Tables_Class _ _ _ _ _ _ _ _ ?_
  unfold r_ucd_Tables_Class
  obtain ⟨ps, rfl⟩ := ht.c.ptr
  refine .inl ⟨ps, rfl, ?_⟩
  have hw : IntKind.i64.wrap r = r := wrap_i64 (by omega) (by omega)
  rw [hw]
  refine (p115 ht.c r (by omega)).mono ?_
  rintro _ rfl
  exact ⟨_, rfl, by rw [numG_if]⟩
theorem pPair (ht : Tri rows tc tg tj tf tp) {r : Int} (hr : -2147483648 ≤ r ∧ r ≤ 2147483647) : PCall Try.prog 81 [.ptr [tc, tg, tj, tf, tp, .mp M, .mp S], .int .i32 r] fun v =>
    v = .tup [.int .i32 (pairG rows r).1, .int .i32 (pairG rows r).2, .bool (!decide (pairG rows r = (0, 0)))] := by
  refine a_ucd_Tables_Pair _ _ _ _ _ _ _ _ ?_
  unfold r_ucd_Tables_Pair
  obtain ⟨ps, rfl⟩ := ht.p.ptr
  refine .inl ⟨ps, rfl, ?_⟩
  have hw : IntKind.i64.wrap r = r := wrap_i64 (by omega) (by omega)
  rw [hw]
  refine (p84 ht.p r (by omega)).mono ?_
  rintro _ rfl
  rw [pairG_if]
  refine ⟨_, rfl, rfl, _, rfl, _, rfl, ?_⟩
  generalize pairG rows r = p
  obtain ⟨a, b⟩ := p
  simp only [cond_false, Bool.and_true]
  congr 4
  by_cases h1 : a = 0 <;> by_cases h2 : b = 0 <;> simp [h1, h2]
theorem pOut (hp : PairRows rows) (ht : Tri rows tc tg tj tf tp) {r : Int} (hr : -2147483648 ≤ r ∧ r ≤ 2147483647) : PCall Try.prog 50 [.ptr [tc, tg, tj, tf, tp, .mp M, .mp S], .int .i32 r] fun v => v = .bool (outG rows r) := by
  refine a_ucd_Tables_Out _ _ _ _ _ _ _ _ ?_
  unfold r_ucd_Tables_Out
  refine (pPair M S ht hr).mono ?_
  rintro _ rfl
  have hrng := pairG_rng hp r
  have hf : trueG rows 3 r = (flagG rows r).2.2.2 := rfl
  refine ⟨_, rfl, rfl, _, rfl, _, rfl, _, rfl, _, rfl, _, rfl, _, rfl, ?_⟩
  have hw : IntKind.i64.wrap r = r := wrap_i64 (by omega) (by omega)
  rw [hw]
  refine iteD (fun h1 => iteD (fun h2 => ?_) (fun h2 => ?_)) (fun h1 => ?_)
  · simp only [Bool.not_eq_true', decide_eq_false_iff_not] at h1
    simp only [beq_iff_eq] at h2
    unfold outG; simp [h1, h2]
  · simp only [Bool.not_eq_true', decide_eq_false_iff_not] at h1
    simp only [beq_iff_eq] at h2
    obtain ⟨ps, hps⟩ := ht.f.ptr
    refine .inl ⟨ps, by rw [hps], ?_⟩
    rw [← hps]
    refine (p111 ht.f r (by omega)).mono ?_
    rintro _ rfl
    rw [flagG_if]
    refine ⟨_, rfl, rfl, _, rfl, _, rfl, _, rfl, _, rfl, ?_⟩
    refine iteD (fun h3 => ?_) (fun h3 => ?_)
    · rw [← hf] at h3
      unfold outG; simp [h1, h2, h3]
    · rw [← hf] at h3
      refine (pClass M S ht hr).mono ?_
      rintro _ rfl
      refine ⟨_, rfl, ?_⟩
      refine iteD (fun h4 => ?_) (fun h4 => ?_)
      · simp only [bne_iff_ne, ne_eq] at h4
        unfold outG; simp [h1, h2, h4]
      · simp only [bne_iff_ne, ne_eq, Decidable.not_not] at h4
        refine (pClass M S ht (by omega)).mono ?_
        rintro _ rfl
        refine ⟨_, rfl, ?_⟩
        unfold outG
        simp only [Bool.not_eq_true] at h3
        simp only [h1, h2, h3, h4, decide_false, Bool.not_false, Bool.true_and, Bool.false_or, decide_true, Bool.not_true]
        rfl
  · simp only [Bool.not_eq_true', decide_eq_false_iff_not, Decidable.not_not] at h1
    unfold outG; simp [h1]
end
abbrev encMade (M : List ((Int × Int) × Int)) : List (PV × PV) := encM (fun p => .agg (encP p)) (fun n => .int .i32 n) M
abbrev encSec (S : List (Int × Bool)) : List (PV × PV) := encM (fun n => .int .i32 n) (fun b => .bool b) S
def secB (sec : List (Int × Bool)) (r : Int) : Bool := (aget r sec).getD false
theorem pSecond (tc tg tj tf tp : PV) (M : List (PV × PV)) (sec : List (Int × Bool)) (r : Int) : PCall Try.prog 51 [.ptr [tc, tg, tj, tf, tp, .mp M, .mp (encSec sec)], .int .i32 r] fun v => v = .bool (secB sec r) := by
  refine a_ucd_Tables_Second _ _ _ _ _ _ _ _ ?_
  unfold r_ucd_Tables_Second
  have hg := mapGet_enc (ek := fun n => PV.int .i32 n) (ev := fun b => PV.bool b) (eqKey_int .i32) r sec
  refine .inl ⟨_, rfl, keysInt_enc sec, fun v hv => ?_, fun hv => ?_⟩
  · rw [hg] at hv
    cases h : aget r sec with
    | none => rw [h] at hv; cases hv
    | some b => rw [h] at hv; cases hv; exact ⟨b, rfl, by simp [secB, h]⟩
  · rw [hg] at hv
    cases h : aget r sec with
    | none => simp [secB, h]
    | some b => rw [h] at hv; cases hv
def madeV (made : List ((Int × Int) × Int)) (p : Int × Int) : PV := match aget p made with
  | some r => .tup [.int .i32 r, .bool true]
  | none => .tup [.int .i32 0, .bool false]
theorem keyMd (p : Int × Int) : keyOk Try.prog 60 (.agg (encP p)) = true := okEP p
theorem keysMd (made : List ((Int × Int) × Int)) : keysOk Try.prog 60 (encMade made) := by
  unfold encMade; exact EP.valsOk fk143 ck143 made
theorem getMd (made : List ((Int × Int) × Int)) (p : Int × Int) : mapGet (.agg (encP p)) (encMade made) = (aget p made).map fun n => .int .i32 n := mapGet_enc (ek := fun p => PV.agg (encP p)) (ev := fun n => PV.int .i32 n) EP.valEq p made
theorem pCompose (tc tg tj tf tp : PV) (S : List (PV × PV)) (made : List ((Int × Int) × Int)) (a b : Int) : PCall Try.prog 105 [.ptr [tc, tg, tj, tf, tp, .mp (encMade made), .mp S], .int .i32 a, .int .i32 b] fun v =>
    v = if b = 0 then .tup [.int .i32 0, .bool false] else madeV made (a, b) := by
  refine a_ucd_Tables_Compose _ _ _ _ _ _ _ _ _ ?_
  unfold r_ucd_Tables_Compose
  refine iteD (fun h => ?_) (fun h => ?_)
  · simp only [beq_iff_eq] at h; rw [if_pos h]
  · simp only [beq_iff_eq] at h; rw [if_neg h]
    have hg := getMd made (a, b)
    refine .inl ⟨_, rfl, keysMd made, keyMd (a, b), fun v hv => ?_, fun hv => ?_⟩
    · have hv : mapGet (.agg (encP (a, b))) (encMade made) = some v := hv
      rw [hg] at hv
      unfold madeV
      cases h : aget (a, b) made with
      | none => rw [h] at hv; cases hv
      | some r => rw [h] at hv; cases hv; exact ⟨r, rfl, rfl⟩
    · have hv : mapGet (.agg (encP (a, b))) (encMade made) = none := hv
      rw [hg] at hv
      unfold madeV
      cases h : aget (a, b) made with
      | none => rfl
      | some r => rw [h] at hv; cases hv
end Go.Eng
set_option linter.unusedVariables false
set_option linter.unusedSimpArgs false
set_option maxRecDepth 100000
set_option linter.constructorNameAsVariable false
namespace Go.Eng
open Go Go.Proofs Go.Eng.Rows Go.Eng.Trie
/-- The tables of some rows. -/
def Tables (rows : List Row) (v : PV) : Prop := ∃ tc tg tj tf tp made sec, v = .ptr [tc, tg, tj, tf, tp, .mp (encMade made), .mp (encSec sec)] ∧ Tri rows tc tg tj tf tp ∧ MadeOK rows (fun r => 0 ≤ r ∧ r ≤ 1114111) made sec
def toP (s : Sp) : Pc (Int × Int) := ⟨s.fr, s.to, (s.a, s.b)⟩
theorem one_ptr {v : PV} (h : ∃ ps, v = .ptr ps) : isOne v = true := by obtain ⟨ps, rfl⟩ := h; rfl
def DoneL (l : List Sp) (r : Int) : Prop := ∃ s ∈ l, s.has r
theorem pBuild (n f : Bool) (rows : List Row) (hl : rows.length < 1000000) (hp : PairRows rows) : PCall Try.prog 14 [.sl n f (rws rows)] (Tables rows) := by
  have hg := ofL_good 2 rows
  have hlen := hg.len
  refine a_ucd_Build _ _ _
    (fun _ _ s5 _ _ s28 x29 i h0 h1 h2 h3 _ s m2 m3 => s5 = sps (ofL 2 rows) ∧ s28 = sps (ofL 2 rows) ∧ x29 = (ofL 2 rows).length ∧ 0 ≤ i ∧ i ≤ x29 ∧ TrieI 1114112 (numG rows 1) h0 ∧ TrieI 1114112 (numG rows 4) h1 ∧ TrieI 1114112 (numG rows 6) h2 ∧ TrieF 1114112 (flagG rows) h3 ∧
      s = pcsP (((ofL 2 rows).take i.toNat).map toP) ∧ m2 = [] ∧ m3 = []) (fun _ _ _ _ _ _ x29 i _ _ _ _ _ _ _ _ => (x29 - i).toNat)
    (fun _ _ s5 x29 i h0 h1 h2 h3 h4 m2 m3 => s5 = sps (ofL 2 rows) ∧ x29 = (ofL 2 rows).length ∧ 0 ≤ i ∧ i ≤ x29 ∧ Tri rows h0 h1 h2 h3 h4 ∧ ∃ made sec, m2 = encMade made ∧ m3 = encSec sec ∧ MadeOK rows (DoneL ((ofL 2 rows).take i.toNat)) made sec) (fun _ _ _ x29 i _ _ _ _ _ _ _ => (x29 - i).toNat)
    (fun _ _ _ _ _ i _ _ _ _ _ _ _ _ _ _ _ r _ _ s5 x29 i' h0 h1 h2 h3 h4 a b c d m2 m3 => s5 = sps (ofL 2 rows) ∧ x29 = (ofL 2 rows).length ∧ i = i' ∧ 0 ≤ i ∧ Tri rows h0 h1 h2 h3 h4 ∧ ∃ hi : i.toNat < (ofL 2 rows).length, a = (ofL 2 rows)[i.toNat].fr ∧ b = (ofL 2 rows)[i.toNat].to ∧ a ≤ r ∧ r ≤ b + 1 ∧
      ∃ made sec, m2 = encMade made ∧ m3 = encSec sec ∧ MadeOK rows (fun x => DoneL ((ofL 2 rows).take i.toNat) x ∨ (a ≤ x ∧ x < r)) made sec) (fun r _ _ _ _ _ _ _ _ _ _ _ b _ _ _ _ => (b + 1 - r).toNat) ?_
  unfold r_ucd_Build
  refine (pNumbers _ _ rows 1 hl).mono fun v hv => (pNumbers _ _ rows 4 hl).mono fun v1 hv1 => (pNumbers _ _ rows 6 hl).mono fun v2 hv2 => (pTruths _ _ rows hl).mono fun v3 hv3 => ⟨one_ptr hv.ptr, one_ptr hv1.ptr, one_ptr hv2.ptr, one_ptr hv3.ptr, ?_⟩
  refine (p29 _ _ rows 2 (by omega)).mono ?_
  rintro _ ⟨n1, f1, rfl⟩
  refine ⟨_, _, _, rfl, ⟨rfl, rfl, rfl, by rw [sps_len], Int.le_refl _, by rw [sps_len]; omega, hv, hv1, hv2, hv3, rfl, rfl, rfl⟩, ?_⟩
  clear hv hv1 hv2 hv3
  rintro n5 f5 _ n28 f28 _ _ i v v1 v2 v3 m _ _ _ ⟨rfl, rfl, rfl, i0, i1, hv, hv1, hv2, hv3, rfl, rfl, rfl⟩
  have hw : IntKind.i64.wrap (i + 1) = i + 1 := wrap_i64 (by omega) (by omega)
  refine iteD (fun hc => ?_) (fun hc => ?_)
  · simp only [decide_eq_true_eq] at hc
    have hi : i.toNat < (ofL 2 rows).length := by omega
    have hn : (i + 1).toNat = i.toNat + 1 := by omega
    have hgd : (sps (ofL 2 rows)).getD i.toNat [] = encS (ofL 2 rows)[i.toNat] := getD_map hi
    have hix : idxOK (sps (ofL 2 rows)) i 4 := idxOK_map encS_len i0 (by omega)
    have hsr := span_rng hp (List.getElem_mem hi)
    refine ⟨hix, (ofL 2 rows)[i.toNat].fr, by rw [hgd]; rfl, (ofL 2 rows)[i.toNat].to, by rw [hgd]; rfl, (ofL 2 rows)[i.toNat].a, by rw [hgd]; rfl, (ofL 2 rows)[i.toNat].b, by rw [hgd]; rfl, ⟨fun e he => by simp at he; subst he; rfl, by simp [pcsP]; omega⟩, rfl, ?_⟩
    have w1 : IntKind.i32.wrap (ofL 2 rows)[i.toNat].a = (ofL 2 rows)[i.toNat].a := wrap_i32 (by omega) (by omega)
    have w2 : IntKind.i32.wrap (ofL 2 rows)[i.toNat].b = (ofL 2 rows)[i.toNat].b := wrap_i32 (by omega) (by omega)
    rw [hw, w1, w2]
    refine ⟨⟨rfl, rfl, rfl, by omega, by omega, hv, hv1, hv2, hv3, ?_, rfl, rfl⟩, by dsimp only; omega⟩
    rw [hn, take_snoc hi, List.map_append]
    unfold pcsP
    rw [List.map_append]
    rfl
  · simp only [decide_eq_true_eq] at hc
    rw [List.take_of_length_le (by omega)]
    refine (p83 1114112 (0, 0) _ _ ((ofL 2 rows).map toP) (by simp; omega) (fun p hp' => ?_) (by omega) (by omega)).mono fun v4 hv4 => ?_
    · obtain ⟨s, hs, rfl⟩ := List.mem_map.1 hp'
      have := hg.2 s hs
      simp only [toP]; omega
    have hv4 : TrieP 1114112 (pairG rows) v4 := hv4.congr fun i h0 h1 => valL_pair rows i
    refine ⟨one_ptr hv4.ptr, ⟨rfl, rfl, by rw [sps_len], Int.le_refl _, by rw [sps_len]; omega, ⟨hv, hv1, hv2, hv3, hv4⟩, [], [], rfl, rfl, (MadeOK.nil rows).same fun r hr => ⟨False.elim, fun ⟨s, hs, _⟩ => by cases hs⟩⟩, ?_⟩
    clear hv hv1 hv2 hv3 hv4 hw hc i0 i1
    rintro n5 f5 _ _ i v v1 v2 v3 v4 _ _ ⟨rfl, rfl, i0, i1, htri, made, sec, rfl, rfl, hm⟩
    have hw : IntKind.i64.wrap (i + 1) = i + 1 := wrap_i64 (by omega) (by omega)
    refine iteD (fun hc => ?_) (fun hc => ?_)
    · simp only [decide_eq_true_eq] at hc
      have hi : i.toNat < (ofL 2 rows).length := by omega
      have hn : (i + 1).toNat = i.toNat + 1 := by omega
      have hgd : (sps (ofL 2 rows)).getD i.toNat [] = encS (ofL 2 rows)[i.toNat] := getD_map hi
      have hix : idxOK (sps (ofL 2 rows)) i 4 := idxOK_map encS_len i0 (by omega)
      have hsr := hg.2 _ (List.getElem_mem hi)
      have hts : (ofL 2 rows).take (i.toNat + 1) = (ofL 2 rows).take i.toNat ++ [(ofL 2 rows)[i.toNat]] := take_snoc hi
      have hlt : ∀ x, DoneL ((ofL 2 rows).take i.toNat) x → x < (ofL 2 rows)[i.toNat].fr := fun x ⟨s, hs, hx⟩ => by
        obtain ⟨j, hj, rfl⟩ := List.getElem_of_mem hs
        rw [List.length_take] at hj
        rw [List.getElem_take] at hx
        have := (List.pairwise_iff_getElem.1 hg.1) j i.toNat (by omega) hi (by omega)
        unfold Sp.has at hx
        omega
      have w1 : IntKind.i32.wrap (ofL 2 rows)[i.toNat].fr = (ofL 2 rows)[i.toNat].fr := wrap_i32 (by omega) (by omega)
      refine ⟨hix, (ofL 2 rows)[i.toNat].fr, by rw [hgd]; rfl, (ofL 2 rows)[i.toNat].to, by rw [hgd]; rfl, (ofL 2 rows)[i.toNat].a, by rw [hgd]; rfl, (ofL 2 rows)[i.toNat].b, by rw [hgd]; rfl, ?_⟩
      rw [w1]
      refine ⟨⟨rfl, rfl, rfl, rfl, i0, htri, hi, rfl, rfl, Int.le_refl _, by omega, made, sec, rfl, rfl, hm.same fun r hr => ⟨.inl, fun h => h.elim id fun h => by omega⟩⟩, ?_⟩
      clear htri hm
      rintro r n5 f5 _ _ _ v v1 v2 v3 v4 _ _ c d _ _ ⟨rfl, rfl, rfl, _, htri, _, rfl, rfl, r0, r1, made, sec, rfl, rfl, hm⟩
      have hwr : IntKind.i64.wrap r = r := wrap_i64 (by omega) (by omega)
      have hwr1 : IntKind.i32.wrap (r + 1) = r + 1 := wrap_i32 (by omega) (by omega)
      rw [hwr]
      refine iteD (fun hc2 => ?_) (fun hc2 => ?_)
      · simp only [decide_eq_true_eq] at hc2
        have hhas : (ofL 2 rows)[i.toNat].has r := ⟨r0, hc2⟩
        have hpr := pairG_span (List.getElem_mem hi) hhas
        have hpne : pairG rows r ≠ (0, 0) := by
          have := span_rng hp (List.getElem_mem hi)
          rw [hpr]; intro e; injection e with e1 e2; omega
        have hmax : ∀ x, (DoneL ((ofL 2 rows).take i.toNat) x ∨ ((ofL 2 rows)[i.toNat].fr ≤ x ∧ x < r)) → x < r := fun x hx => by
          rcases hx with hx | hx
          · have := hlt x hx; omega
          · exact hx.2
        have hD : ∀ x, ((DoneL ((ofL 2 rows).take i.toNat) x ∨ ((ofL 2 rows)[i.toNat].fr ≤ x ∧ x < r)) ∨ x = r) ↔ (DoneL ((ofL 2 rows).take i.toNat) x ∨ ((ofL 2 rows)[i.toNat].fr ≤ x ∧ x < r + 1)) := fun x => by
          constructor
          · rintro ((h | h) | h)
            · exact .inl h
            · exact .inr (by omega)
            · exact .inr (by omega)
          · rintro (h | h)
            · exact .inl (.inl h)
            · by_cases e : x = r
              · exact .inr e
              · exact .inl (.inr (by omega))
        have hmu : ((ofL 2 rows)[i.toNat].to + 1 - (r + 1)).toNat < ((ofL 2 rows)[i.toNat].to + 1 - r).toNat := by omega
        refine (p84 htri.p r (by omega)).mono ?_
        rintro _ rfl
        rw [pairG_if]
        refine ⟨_, rfl, rfl, _, rfl, _, rfl, keysMd made, keyMd (pairG rows r), fun v7 hv7 => ?_, fun hv7 => ?_⟩
        · have hv7 : mapGet (.agg (encP (pairG rows r))) (encMade made) = some v7 := hv7
          rw [getMd] at hv7
          cases hk : aget (pairG rows r) made with
          | none => rw [hk] at hv7; cases hv7
          | some q =>
            rw [hk] at hv7; cases hv7
            refine ⟨q, rfl, ?_⟩
            rw [hwr1]
            exact ⟨rfl, ⟨rfl, rfl, rfl, i0, htri, hi, rfl, rfl, by omega, by omega, made, sec, rfl, rfl, (hm.known hmax hk).same fun x hx => hD x⟩, hmu⟩
        · have hv7 : mapGet (.agg (encP (pairG rows r))) (encMade made) = none := hv7
          rw [getMd] at hv7
          have hk : aget (pairG rows r) made = none := by cases h : aget (pairG rows r) made with | none => rfl | some q => rw [h] at hv7; cases hv7
          refine (pOut _ _ hp htri (by omega)).mono ?_
          rintro _ rfl
          refine ⟨_, rfl, rfl, ?_⟩
          rw [hwr1]
          refine iteD (fun ho => ?_) (fun ho => ?_)
          · simp only [Bool.not_eq_true'] at ho
            have hm' := (hm.put hmax hk ⟨hpne, ho⟩).same fun x hx => hD x
            obtain ⟨e1, e2⟩ := entSet_mapSet (.agg (encP (pairG rows r))) (mapVal (.agg (encP (pairG rows r))) (.int .i32 0) (encMade made)) (.int .i32 r) (encMade made)
            obtain ⟨e3, e4⟩ := entSet_mapSet (.int .i32 (pairG rows r).2) (mapVal (.int .i32 (pairG rows r).2) (.bool false) (encSec sec)) (.bool true) (encSec sec)
            have e1 := e1.trans (mapSet_enc (ek := fun p => PV.agg (encP p)) (ev := fun n => PV.int .i32 n) EP.valEq (pairG rows r) r made)
            have e3 := e3.trans (mapSet_enc (ek := fun n => PV.int .i32 n) (ev := fun b => PV.bool b) (eqKey_int .i32) (pairG rows r).2 true sec)
            have b1 : (0 : Int) ≤ (mapIx (.agg (encP (pairG rows r))) (encMade made) : Nat) ∧ ((mapIx (.agg (encP (pairG rows r))) (encMade made) : Nat) : Int).toNat < (mapSet (.agg (encP (pairG rows r))) (mapVal (.agg (encP (pairG rows r))) (.int .i32 0) (encMade made)) (encMade made)).length := ⟨by omega, by rw [Int.toNat_natCast]; exact e2⟩
            have b2 : (0 : Int) ≤ (mapIx (.int .i32 (pairG rows r).2) (encSec sec) : Nat) ∧ ((mapIx (.int .i32 (pairG rows r).2) (encSec sec) : Nat) : Int).toNat < (mapSet (.int .i32 (pairG rows r).2) (mapVal (.int .i32 (pairG rows r).2) (.bool false) (encSec sec)) (encSec sec)).length := ⟨by omega, by rw [Int.toNat_natCast]; exact e4⟩
            refine ⟨⟨keysMd made, keyMd _, b1, keysInt_enc sec, b2, ?_⟩, keysMd made, keyMd _, ⟨b1, keysInt_enc sec, b2, ?_⟩, b1, keysInt_enc sec, b2, ?_⟩
            all_goals exact ⟨rfl, ⟨rfl, rfl, rfl, i0, htri, hi, rfl, rfl, by omega, by omega, aset (pairG rows r) r made, aset (pairG rows r).2 true sec, e1, e3, hm'⟩, hmu⟩
          · simp only [Bool.not_eq_true', Bool.not_eq_false] at ho
            exact ⟨rfl, ⟨rfl, rfl, rfl, i0, htri, hi, rfl, rfl, by omega, by omega, made, sec, rfl, rfl, (hm.out ho).same fun x hx => hD x⟩, hmu⟩
      · simp only [decide_eq_true_eq] at hc2
        rw [hw]
        refine ⟨rfl, ⟨rfl, rfl, by omega, by omega, htri, made, sec, rfl, rfl, ?_⟩, by dsimp only; omega⟩
        rw [hn, hts]
        refine hm.same fun x hx => ?_
        unfold DoneL
        constructor
        · rintro (⟨s, hs, h⟩ | h)
          · exact ⟨s, List.mem_append_left _ hs, h⟩
          · exact ⟨_, List.mem_append_right _ (List.mem_singleton.2 rfl), by unfold Sp.has; omega⟩
        · rintro ⟨s, hs, h⟩
          rcases List.mem_append.1 hs with hs | hs
          · exact .inl ⟨s, hs, h⟩
          · simp only [List.mem_singleton] at hs; subst hs
            unfold Sp.has at h; exact .inr (by omega)
    · simp only [decide_eq_true_eq] at hc
      rw [List.take_of_length_le (by omega)] at hm
      refine ⟨v, v1, v2, v3, v4, made, sec, rfl, htri, hm.same fun r hr => ?_⟩
      constructor
      · rintro ⟨s, hs, h⟩
        have := hg.2 s hs
        unfold Sp.has at h
        omega
      · intro _
        exact pairG_of hr.1
end Go.Eng
set_option linter.unusedVariables false
set_option linter.unusedSimpArgs false
namespace Go.Eng.Rows
open Go Go.Eng Go.Eng.Trie
def sylB (r : Int) : Bool := decide (44032 ≤ r) && decide (r ≤ 55203)
def splitL (r : Int) : List Int :=
  if (r - 44032) % 28 = 0 then [4352 + (r - 44032) / 588, 4449 + (r - 44032) / 28 % 21]
  else [4352 + (r - 44032) / 588, 4449 + (r - 44032) / 28 % 21, 4519 + (r - 44032) % 28]
def hsec (r : Int) : Bool := (decide (4449 ≤ r) && decide (r ≤ 4469)) || (decide (4520 ≤ r) && decide (r ≤ 4546))
/-- What a scalar is taken apart into, so deep. -/
def fullL (rows : List Row) : Nat → Int → List Int
  | 0, r => if sylB r then splitL r else [r]
  | d + 1, r => if sylB r then splitL r else if pairG rows r = (0, 0) then [r] else fullL rows d (pairG rows r).1 ++ (if (pairG rows r).2 = 0 then [] else fullL rows d (pairG rows r).2)
def sec4 (rows : List Row) (r : Int) : Bool := rows.any fun x => decide (x.kind = 2) && (decide (x.b = r) && (!decide (r = 0) && !outG rows x.fr))
def ofQ (rows : List Row) (r : Int) : Int := if outG rows r then 1 else if sec4 rows r || hsec r then 2 else 0
def headQ (rows : List Row) (r : Int) : Int := (fullL rows 8 r).headD 0
def stabQ (rows : List Row) (r : Int) : Bool := (decide (numG rows 1 r = 0) && decide (ofQ rows r = 0)) && (decide (numG rows 1 (headQ rows r) = 0) && decide (ofQ rows (headQ rows r) = 0))
theorem fullL_syl {rows : List Row} {d : Nat} {r : Int} (h : sylB r = true) : fullL rows d r = splitL r := by cases d <;> simp [fullL, h]
theorem fullL_no {rows : List Row} {d : Nat} {r : Int} (h : sylB r = false) (h2 : pairG rows r = (0, 0)) : fullL rows d r = [r] := by cases d <;> simp [fullL, h, h2]
theorem splitL_len (r : Int) : (splitL r).length ≤ 3 := by unfold splitL; split <;> simp
theorem fullL_len (rows : List Row) : ∀ (d : Nat) (r : Int), (fullL rows d r).length ≤ 3 * 2 ^ d
  | 0, r => by
    unfold fullL; split
    · have := splitL_len r; simp; omega
    · simp
  | d + 1, r => by
    unfold fullL
    have h2 : 2 ^ (d + 1) = 2 * 2 ^ d := by rw [Nat.pow_succ]; omega
    have h3 : 1 ≤ 2 ^ d := Nat.one_le_two_pow
    split
    · have := splitL_len r; omega
    · split
      · simp; omega
      · have e1 := fullL_len rows d (pairG rows r).1
        rw [List.length_append]
        split
        · simp; omega
        · have e2 := fullL_len rows d (pairG rows r).2; omega
theorem splitL_rng {r : Int} (h : sylB r = true) : ∀ x ∈ splitL r, 0 ≤ x ∧ x ≤ 1114111 := by
  simp only [sylB, Bool.and_eq_true, decide_eq_true_eq] at h
  intro x hx
  unfold splitL at hx
  split at hx <;> simp only [List.mem_cons, List.not_mem_nil, or_false] at hx
  · rcases hx with rfl | rfl <;> omega
  · rcases hx with rfl | rfl | rfl <;> omega
theorem splitL_ne (r : Int) : splitL r ≠ [] := by unfold splitL; split <;> simp
theorem fullL_ne (rows : List Row) : ∀ (d : Nat) (r : Int), fullL rows d r ≠ []
  | 0, r => by unfold fullL; split; exact splitL_ne r; simp
  | d + 1, r => by
    unfold fullL
    split
    · exact splitL_ne r
    · split
      · simp
      · intro e; exact fullL_ne rows d _ (List.append_eq_nil_iff.1 e).1
theorem fullL_rng {rows : List Row} (hp : PairRows rows) : ∀ (d : Nat) (r : Int), ∀ x ∈ fullL rows d r, x = r ∨ (0 ≤ x ∧ x ≤ 1114111)
  | 0, r => fun x hx => by
    unfold fullL at hx
    split at hx
    · rename_i h; exact .inr (splitL_rng h x hx)
    · simp at hx; exact .inl hx
  | d + 1, r => fun x hx => by
    unfold fullL at hx
    have hg := pairG_rng hp r
    split at hx
    · rename_i h; exact .inr (splitL_rng h x hx)
    · split at hx
      · simp at hx; exact .inl hx
      · rcases List.mem_append.1 hx with hx | hx
        · rcases fullL_rng hp d _ x hx with rfl | h
          · exact .inr hg.1
          · exact .inr h
        · split at hx
          · cases hx
          · rcases fullL_rng hp d _ x hx with rfl | h
            · exact .inr hg.2
            · exact .inr h
theorem headQ_mem (rows : List Row) (r : Int) : headQ rows r ∈ fullL rows 8 r := by
  unfold headQ
  have := fullL_ne rows 8 r
  cases h : fullL rows 8 r with
  | nil => exact absurd h this
  | cons a l => simp
/-- Each row of pairs tells of one scalar, and is the first one that does. -/
def PairOne (rows : List Row) : Prop := ∀ x ∈ rows, x.kind = 2 → x.fr = x.to ∧ (0 ≤ x.fr ∧ x.fr ≤ 1114111) ∧ first rows 2 x.fr = some (x.a, x.b)
theorem sec4_iff {rows : List Row} (hp : PairRows rows) (h1 : PairOne rows) (r : Int) : sec4 rows r = true ↔ ∃ x, goodG rows x ∧ (pairG rows x).2 = r := by
  unfold sec4
  rw [List.any_eq_true]
  constructor
  · rintro ⟨x, hx, h⟩
    simp only [Bool.and_eq_true, decide_eq_true_eq, Bool.not_eq_true', decide_eq_false_iff_not] at h
    obtain ⟨hk, hb, hr, ho⟩ := h
    obtain ⟨e1, e2, e3⟩ := h1 x hx hk
    have hf : firstG rows 2 x.fr = some (x.a, x.b) := by unfold firstG; rw [if_pos e2]; exact e3
    have hpg : pairG rows x.fr = (x.a, x.b) := by unfold pairG; rw [hf]
    exact ⟨x.fr, ⟨pairG_ne hp hf, ho⟩, by rw [hpg]; exact hb⟩
  · rintro ⟨x, ⟨hne, ho⟩, hb⟩
    cases hf : firstG rows 2 x with
    | none => exact absurd (by unfold pairG; rw [hf]) hne
    | some p =>
      obtain ⟨y, hy, hk, ha, hb2, hfr, hto, _⟩ := firstG_mem hf
      obtain ⟨e1, e2, e3⟩ := h1 y hy hk
      have hyx : y.fr = x := by omega
      have hpg : pairG rows x = p := by unfold pairG; rw [hf]
      rw [hpg] at hb
      refine ⟨y, hy, ?_⟩
      simp only [Bool.and_eq_true, decide_eq_true_eq, Bool.not_eq_true', decide_eq_false_iff_not]
      refine ⟨hk, by rw [hb2, hb], fun hr0 => ?_, by rw [hyx]; exact ho⟩
      rw [hr0] at hb
      unfold outG at ho
      rw [hpg] at ho hne
      simp [hne, hb] at ho
theorem secB_eq {rows : List Row} (hp : PairRows rows) (h1 : PairOne rows) {made : List ((Int × Int) × Int)} {sec : List (Int × Bool)} (hm : MadeOK rows (fun r => 0 ≤ r ∧ r ≤ 1114111) made sec) (r : Int) : (aget r sec).getD false = sec4 rows r := by
  have inr : ∀ x, goodG rows x → 0 ≤ x ∧ x ≤ 1114111 := fun x hx => by
    cases hf : firstG rows 2 x with
    | none => exact absurd (by unfold pairG; rw [hf]) hx.1
    | some p => obtain ⟨_, _, _, _, _, _, _, h⟩ := firstG_mem hf; exact h
  cases ha : aget r sec with
  | none =>
    have : sec4 rows r = false := by
      cases hs : sec4 rows r with
      | false => rfl
      | true =>
        obtain ⟨x, hx, hb⟩ := (sec4_iff hp h1 r).1 hs
        exact absurd hb (hm.s2 r ha x (inr x hx) hx)
    rw [this]; rfl
  | some v =>
    obtain ⟨rfl, x, _, hx, hb⟩ := hm.s1 r v ha
    rw [(sec4_iff hp h1 r).2 ⟨x, hx, hb⟩]; rfl
end Go.Eng.Rows
set_option linter.unusedVariables false
set_option linter.unusedSimpArgs false
set_option maxRecDepth 100000
set_option linter.constructorNameAsVariable false
namespace Go.Eng
open Go Go.Proofs Go.Eng.Rows Go.Eng.Trie
theorem i32s_app (a b : List Int) : i32s (a ++ b) = i32s a ++ i32s b := by simp [i32s]
theorem i32s_sz (a : List Int) : szOK (i32s a) 1 := szOK_map (enc := fun n => [PV.int .i32 n]) (fun _ => rfl) a
theorem pSyl (r : Int) : PCall Try.prog 101 [.int .i32 r] fun v => v = .bool (sylB r) := by
  refine a_hangul_Syllable _ ?_; unfold r_hangul_Syllable
  unfold sylB
  by_cases h1 : 44032 ≤ r <;> by_cases h2 : r ≤ 55203 <;> simp [h1, h2] <;> omega
theorem pIs (r : Int) : PCall Try.prog 58 [.int .i32 r] fun v => v = .bool (sylB r) := by
  refine a_typebarref05_Is _ ?_; unfold r_typebarref05_Is
  unfold sylB
  by_cases h1 : 44032 ≤ r <;> by_cases h2 : r ≤ 55203 <;> simp [h1, h2]
theorem pSec (r : Int) : PCall Try.prog 52 [.int .i32 r] fun v => v = .bool (hsec r) := by
  refine a_hangul_Second _ ?_; unfold r_hangul_Second
  unfold hsec
  by_cases h1 : 4449 ≤ r <;> by_cases h2 : r ≤ 4469 <;> by_cases h3 : 4520 ≤ r <;> by_cases h4 : r ≤ 4546 <;> simp [h1, h2, h3, h4] <;> omega
theorem pSec5 (r : Int) : PCall Try.prog 55 [.int .i32 r] fun v => v = .bool (hsec r) := by
  refine a_typebarref05_Second _ ?_; unfold r_typebarref05_Second
  unfold hsec
  by_cases h1 : 4449 ≤ r <;> by_cases h2 : r ≤ 4469 <;> by_cases h3 : 4520 ≤ r <;> by_cases h4 : r ≤ 4546 <;> simp [h1, h2, h3, h4]
theorem syl_arith {r : Int} (h : sylB r = true) : (44032 ≤ r ∧ r ≤ 55203) ∧ IntKind.i32.wrap (r - 44032) = r - 44032 ∧ IntKind.i32.wrap (4352 + IntKind.i32.wrap ((r - 44032).tdiv 588)) = 4352 + (r - 44032) / 588 ∧
    IntKind.i32.wrap (4449 + (IntKind.i32.wrap ((r - 44032).tdiv 28)).tmod 21) = 4449 + (r - 44032) / 28 % 21 ∧ IntKind.i32.wrap (4519 + (r - 44032).tmod 28) = 4519 + (r - 44032) % 28 := by
  simp only [sylB, Bool.and_eq_true, decide_eq_true_eq] at h
  have e1 : (r - 44032).tdiv 588 = (r - 44032) / 588 := Int.tdiv_eq_ediv_of_nonneg (by omega)
  have e2 : (r - 44032).tdiv 28 = (r - 44032) / 28 := Int.tdiv_eq_ediv_of_nonneg (by omega)
  have e3 : (r - 44032).tmod 28 = (r - 44032) % 28 := Int.tmod_eq_emod_of_nonneg (by omega)
  have w1 : IntKind.i32.wrap ((r - 44032) / 588) = (r - 44032) / 588 := wrap_i32 (by omega) (by omega)
  have w2 : IntKind.i32.wrap ((r - 44032) / 28) = (r - 44032) / 28 := wrap_i32 (by omega) (by omega)
  have e4 : ((r - 44032) / 28).tmod 21 = (r - 44032) / 28 % 21 := Int.tmod_eq_emod_of_nonneg (by omega)
  rw [e1, e2, e3, w1, w2, e4]
  exact ⟨h, wrap_i32 (by omega) (by omega), wrap_i32 (by omega) (by omega), wrap_i32 (by omega) (by omega), wrap_i32 (by omega) (by omega)⟩
theorem pSplit (r : Int) : PCall Try.prog 84 [.int .i32 r] fun v => if sylB r then v = .sl false true (i32s (splitL r)) else v = .sl true true [] := by
  refine a_hangul_Split _ ?_; unfold r_hangul_Split
  refine (pSyl r).mono ?_
  rintro _ rfl
  refine ⟨_, rfl, ?_⟩
  cases h : sylB r with
  | false => exact iteT rfl rfl
  | true =>
    obtain ⟨hr, a1, a2, a3, a4⟩ := syl_arith h
    refine iteF (by simp) ?_
    rw [a1, a2, a3, a4]
    refine ⟨⟨rfl, by omega⟩, ⟨by omega, by omega⟩, _, rfl, ?_⟩
    by_cases hc : (r - 44032) % 28 = 0
    · refine iteT (by simp; omega) ⟨⟨by unfold slOK; simp, rfl⟩, ?_⟩
      simp [splitL, hc, i32s]
    · refine iteF (by simp; omega) ⟨⟨by unfold slOK; simp, rfl⟩, ?_⟩
      simp [splitL, hc, i32s]
def FullQ (L : List Int) (r1 : LV) (h' : Hp) : Prop := (∃ nl, r1 = .own 0 ∧ h' = [.sl (21, 1) true nl (i32s L)]) ∨ (r1 = .pv (.sl false true (i32s L)) ∧ h' = [])
def FullR (L : List Int) (r1 : LV) (h' : Hp) : Prop := (∃ m nl, r1 = .own 0 ∧ h' = [.sl (21, 1) m nl (i32s L)]) ∨ (r1 = .pv (.sl false true (i32s L)) ∧ h' = [])
theorem FullR.mark {f : Nat} {args : List LV} {L : List Int} (h : ACall Try.prog f args [] (FullR L)) : ACall Try.prog f args [] (FullQ L) := by
  refine ACall.mark 0 [] h ?_
  rintro r h' (⟨m, nl, rfl, rfl⟩ | ⟨rfl, rfl⟩)
  · exact .inl ⟨nl, rfl, rfl⟩
  · exact .inr ⟨rfl, rfl⟩
theorem aSplit5 {r : Int} (hs : sylB r = true) : ACall Try.prog 59 [.pv (.int .i32 r)] [] (FullQ (splitL r)) := by
  refine FullR.mark (a_typebarref05_Split _ ?_); unfold r_typebarref05_Split
  refine (pIs r).mono ?_
  rintro _ rfl
  refine ⟨_, rfl, ?_⟩
  rw [hs]
  refine iteF (by simp) ?_
  obtain ⟨hr, a1, a2, a3, a4⟩ := syl_arith hs
  have w0 : IntKind.i64.wrap r = r := wrap_i64 (by omega) (by omega)
  have w1 : IntKind.i64.wrap (r - 44032) = r - 44032 := wrap_i64 (by omega) (by omega)
  have e1 : (r - 44032).tdiv 588 = (r - 44032) / 588 := Int.tdiv_eq_ediv_of_nonneg (by omega)
  have e2 : (r - 44032).tdiv 28 = (r - 44032) / 28 := Int.tdiv_eq_ediv_of_nonneg (by omega)
  have e3 : (r - 44032).tmod 28 = (r - 44032) % 28 := Int.tmod_eq_emod_of_nonneg (by omega)
  have w2 : IntKind.i64.wrap ((r - 44032) / 588) = (r - 44032) / 588 := wrap_i64 (by omega) (by omega)
  have w3 : IntKind.i64.wrap ((r - 44032) / 28) = (r - 44032) / 28 := wrap_i64 (by omega) (by omega)
  have e4 : ((r - 44032) / 28).tmod 21 = (r - 44032) / 28 % 21 := Int.tmod_eq_emod_of_nonneg (by omega)
  rw [w0, w1, e1, e2, e3, w2, w3, e4]
  have w4 : IntKind.i64.wrap (4352 + (r - 44032) / 588) = 4352 + (r - 44032) / 588 := wrap_i64 (by omega) (by omega)
  have w5 : IntKind.i64.wrap (4449 + (r - 44032) / 28 % 21) = 4449 + (r - 44032) / 28 % 21 := wrap_i64 (by omega) (by omega)
  have w6 : IntKind.i64.wrap (4519 + (r - 44032) % 28) = 4519 + (r - 44032) % 28 := wrap_i64 (by omega) (by omega)
  rw [w4, w5, w6]
  have w7 : IntKind.i32.wrap (4352 + (r - 44032) / 588) = 4352 + (r - 44032) / 588 := wrap_i32 (by omega) (by omega)
  have w8 : IntKind.i32.wrap (4449 + (r - 44032) / 28 % 21) = 4449 + (r - 44032) / 28 % 21 := wrap_i32 (by omega) (by omega)
  have w9 : IntKind.i32.wrap (4519 + (r - 44032) % 28) = 4519 + (r - 44032) % 28 := wrap_i32 (by omega) (by omega)
  rw [w7, w8, w9]
  by_cases hc : (r - 44032) % 28 = 0
  · refine iteF (by simp [hc]) (.inr ⟨by simp [splitL, hc, i32s], rfl⟩)
  · refine iteT (by simp [hc]) ⟨?_, .inl ⟨false, false, rfl, by simp [splitL, hc, i32s]⟩⟩
    exact ⟨rfl, .inr (by simp), i32s_sz [_, _], i32s_sz [_], by simp⟩
section
variable {rows : List Row}
theorem pA (n f : Bool) (k r : Int) (hl : rows.length < 1000000) (hr : -9223372036854775808 ≤ r ∧ r ≤ 9223372036854775807) : PCall Try.prog 89 [.sl n f (rws rows), .int .i64 k, .int .i64 r] fun v => v = .int .i64 (numG rows k r) := by
  refine a_typebarref02_A _ _ _ _ _ ?_; unfold r_typebarref02_A
  refine (p33 n f rows k r (by omega)).mono ?_
  rintro _ ⟨m, rfl, hm⟩
  refine ⟨m, rfl, ?_⟩
  rcases hm with ⟨rfl, hn⟩ | ⟨m0, hm, hr2, hf⟩
  · refine iteT (by simp) ?_
    unfold numG firstG
    split
    · rename_i p hp
      split at hp
      · rename_i hr2; rw [hn hr2.1 hr2.2] at hp; cases hp
      · cases hp
    · rfl
  · refine iteF (by simp; omega) ?_
    have hg : (rws rows).getD m.toNat [] = encR rows[m.toNat] := getD_map hm
    refine ⟨idxOK_map encR_len m0 (by omega), rows[m.toNat].a, by rw [hg]; rfl, ?_⟩
    unfold numG firstG
    rw [if_pos hr2, hf]
theorem pOf4 (n f : Bool) (k r : Int) (hl : rows.length < 1000000) (hr : -2147483648 ≤ r ∧ r ≤ 2147483647) : PCall Try.prog 66 [.sl n f (rws rows), .int .i64 k, .int .i32 r] fun v => v = .int .i64 (numG rows k r) := by
  refine a_typebarref04_Of _ _ _ _ _ ?_; unfold r_typebarref04_Of
  have hw : IntKind.i64.wrap r = r := wrap_i64 (by omega) (by omega)
  rw [hw]
  refine (pA n f k r hl (by omega)).mono ?_
  rintro _ rfl
  exact ⟨_, rfl, rfl⟩
theorem pClass6 (n f : Bool) (r : Int) (hl : rows.length < 1000000) (hr : -2147483648 ≤ r ∧ r ≤ 2147483647) : PCall Try.prog 32 [.sl n f (rws rows), .int .i32 r] fun v => v = .int .i64 (numG rows 1 r) := by
  refine a_typebarref06_Class _ _ _ _ ?_; unfold r_typebarref06_Class
  refine (pOf4 n f 1 r hl hr).mono ?_
  rintro _ rfl
  exact ⟨_, rfl, rfl⟩
theorem pPair4 (hp : PairRows rows) (n f : Bool) (r : Int) (hl : rows.length < 1000000) (hr : -2147483648 ≤ r ∧ r ≤ 2147483647) : PCall Try.prog 60 [.sl n f (rws rows), .int .i32 r] fun v =>
    v = .tup [.int .i32 (pairG rows r).1, .int .i32 (pairG rows r).2, .bool (!decide (pairG rows r = (0, 0)))] := by
  refine a_typebarref04_Pair _ _ _ _ ?_; unfold r_typebarref04_Pair
  have hw : IntKind.i64.wrap r = r := wrap_i64 (by omega) (by omega)
  rw [hw]
  refine (p33 n f rows 2 r (by omega)).mono ?_
  rintro _ ⟨m, rfl, hm⟩
  refine ⟨m, rfl, ?_⟩
  rcases hm with ⟨rfl, hn⟩ | ⟨m0, hm, hr2, hf⟩
  · refine iteT (by simp) ?_
    have : pairG rows r = (0, 0) := by
      unfold pairG firstG
      split
      · rename_i p hp
        split at hp
        · rename_i hr2; rw [hn hr2.1 hr2.2] at hp; cases hp
        · cases hp
      · rfl
    rw [this]; rfl
  · refine iteF (by simp; omega) ?_
    have hg : (rws rows).getD m.toNat [] = encR rows[m.toNat] := getD_map hm
    have hfg : firstG rows 2 r = some (rows[m.toNat].a, rows[m.toNat].b) := by unfold firstG; rw [if_pos hr2]; exact hf
    have hne := pairG_ne hp hfg
    have hpg : pairG rows r = (rows[m.toNat].a, rows[m.toNat].b) := by unfold pairG; rw [hfg]
    have hrng := pairG_rng hp r
    obtain ⟨y, hy, hk, ha, hb2, _⟩ := firstG_mem hfg
    have hya := hp y hy hk
    rw [hpg] at hrng hne ⊢
    simp only at hrng ha hb2
    have w1 : IntKind.i32.wrap rows[m.toNat].a = rows[m.toNat].a := wrap_i32 (by omega) (by omega)
    have w2 : IntKind.i32.wrap rows[m.toNat].b = rows[m.toNat].b := wrap_i32 (by omega) (by omega)
    have hix : idxOK (rws rows) m 5 := idxOK_map encR_len m0 (by omega)
    refine ⟨hix, rows[m.toNat].a, by rw [hg]; rfl, ?_⟩
    refine iteF (by simp; omega) ⟨hix, rows[m.toNat].a, by rw [hg]; rfl, hix, rows[m.toNat].b, by rw [hg]; rfl, ?_⟩
    rw [w1, w2]
    simp [hne]
theorem trueG_num (i : Int) : trueG rows 3 i = decide (numG rows 3 i = 1) := by
  unfold trueG numG
  cases firstG rows 3 i with
  | none => rfl
  | some p => rfl
theorem pOut4 (hp : PairRows rows) (n f : Bool) (r : Int) (hl : rows.length < 1000000) (hr : -2147483648 ≤ r ∧ r ≤ 2147483647) : PCall Try.prog 53 [.sl n f (rws rows), .int .i32 r] fun v => v = .bool (outG rows r) := by
  refine a_typebarref04_Out _ _ _ _ ?_; unfold r_typebarref04_Out
  refine (pPair4 hp n f r hl hr).mono ?_
  rintro _ rfl
  have hrng := pairG_rng hp r
  refine ⟨_, rfl, rfl, _, rfl, _, rfl, _, rfl, _, rfl, _, rfl, _, rfl, ?_⟩
  refine iteD (fun h1 => ?_) (fun h1 => iteD (fun h2 => ?_) (fun h2 => ?_))
  · simp only [Bool.not_not, decide_eq_true_eq] at h1
    unfold outG; simp [h1]
  · simp only [Bool.not_not, decide_eq_true_eq] at h1
    simp only [beq_iff_eq] at h2
    unfold outG; simp [h1, h2]
  · simp only [Bool.not_not, decide_eq_true_eq] at h1
    simp only [beq_iff_eq] at h2
    refine (pOf4 n f 3 r hl hr).mono ?_
    rintro _ rfl
    refine ⟨_, rfl, ?_⟩
    refine iteD (fun h4 => ?_) (fun h4 => ?_)
    · simp only [beq_iff_eq] at h4
      unfold outG; rw [trueG_num]; simp [h1, h2, h4]
    · simp only [beq_iff_eq] at h4
      refine (pOf4 n f 1 r hl hr).mono ?_
      rintro _ rfl
      refine ⟨_, rfl, ?_⟩
      refine iteD (fun h5 => ?_) (fun h5 => ?_)
      · simp only [bne_iff_ne, ne_eq] at h5
        unfold outG; simp [h1, h2, h5]
      · simp only [bne_iff_ne, ne_eq, Decidable.not_not] at h5
        refine (pOf4 n f 1 _ hl (by omega)).mono ?_
        rintro _ rfl
        refine ⟨_, rfl, ?_⟩
        unfold outG; rw [trueG_num]
        simp only [h1, h2, h4, h5, decide_false, Bool.not_false, Bool.true_and, Bool.false_or, decide_true, Bool.not_true]
        rfl
end
end Go.Eng
set_option linter.unusedVariables false
set_option linter.unusedSimpArgs false
set_option maxRecDepth 100000
set_option linter.constructorNameAsVariable false
namespace Go.Eng
open Go Go.Proofs Go.Eng.Rows Go.Eng.Trie
section
variable {rows : List Row}
theorem pSecond4 (hp : PairRows rows) (h1 : PairOne rows) (n f : Bool) (r : Int) (hl : rows.length < 1000000) (hr : -2147483648 ≤ r ∧ r ≤ 2147483647) : PCall Try.prog 54 [.sl n f (rws rows), .int .i32 r] fun v => v = .bool (sec4 rows r) := by
  refine a_typebarref04_Second _ _ _ _ (fun i => 0 ≤ i ∧ i ≤ rows.length ∧ ∀ x ∈ rows.take i.toNat, (decide (x.kind = 2) && (decide (x.b = r) && (!decide (r = 0) && !outG rows x.fr))) = false) (fun i => rows.length - i.toNat) ?_
  unfold r_typebarref04_Second
  refine ⟨⟨rfl, Int.le_refl _, by omega, fun x hx => by simp at hx⟩, ?_⟩
  rintro i ⟨i0, i1, hno⟩
  refine iteD (fun hc => ?_) (fun hc => ?_)
  · simp only [decide_eq_true_eq, rws_len] at hc
    have hi : i.toNat < rows.length := by omega
    have hw : IntKind.i64.wrap (i + 1) = i + 1 := wrap_i64 (by omega) (by omega)
    have hwr : IntKind.i64.wrap r = r := wrap_i64 (by omega) (by omega)
    have hn : (i + 1).toNat = i.toNat + 1 := by omega
    have hg : (rws rows).getD i.toNat [] = encR rows[i.toNat] := getD_map hi
    have hix : idxOK (rws rows) i 5 := idxOK_map encR_len i0 hc
    have hmem : rows[i.toNat] ∈ rows := List.getElem_mem hi
    have step : (decide (rows[i.toNat].kind = 2) && (decide (rows[i.toNat].b = r) && (!decide (r = 0) && !outG rows rows[i.toNat].fr))) = false → (0 ≤ i + 1 ∧ i + 1 ≤ rows.length ∧ ∀ x ∈ rows.take (i + 1).toNat, (decide (x.kind = 2) && (decide (x.b = r) && (!decide (r = 0) && !outG rows x.fr))) = false) ∧ rows.length - (i + 1).toNat < rows.length - i.toNat := fun h => by
      refine ⟨⟨by omega, by omega, fun x hx => ?_⟩, by omega⟩
      rw [hn, take_snoc hi] at hx
      rcases List.mem_append.1 hx with hx | hx
      · exact hno x hx
      · simp only [List.mem_singleton] at hx; subst hx; exact h
    rw [hw, hwr]
    refine ⟨hix, rows[i.toNat].kind, by rw [hg]; rfl, ?_⟩
    refine iteD (fun h2 => ?_) (fun h2 => ?_)
    · simp only [beq_iff_eq] at h2
      refine ⟨hix, rows[i.toNat].b, by rw [hg]; rfl, ?_⟩
      refine iteD (fun h3 => ?_) (fun h3 => ?_)
      · simp only [Bool.and_eq_true, beq_iff_eq, bne_iff_ne, ne_eq] at h3
        obtain ⟨e1, e2, e3⟩ := h1 _ hmem h2
        refine ⟨hix, rows[i.toNat].fr, by rw [hg]; rfl, ?_⟩
        have hwf : IntKind.i32.wrap rows[i.toNat].fr = rows[i.toNat].fr := wrap_i32 (by omega) (by omega)
        rw [hwf]
        refine (pOut4 hp n f _ hl (by omega)).mono ?_
        rintro _ rfl
        refine ⟨_, rfl, ?_⟩
        refine iteD (fun h4 => ?_) (fun h4 => ?_)
        · simp only [Bool.not_eq_true'] at h4
          have : sec4 rows r = true := List.any_eq_true.2 ⟨_, hmem, by simp [h2, h3, h4]⟩
          rw [this]
        · simp only [Bool.not_eq_true', Bool.not_eq_false] at h4
          exact ⟨rfl, step (by simp [h4])⟩
      · refine ⟨rfl, step ?_⟩
        simp only [Bool.and_eq_true, beq_iff_eq, bne_iff_ne, ne_eq, not_and, Decidable.not_not] at h3
        by_cases h5 : rows[i.toNat].b = r
        · simp [h5, h3 h5]
        · simp [h5]
    · simp only [beq_iff_eq] at h2
      exact ⟨rfl, step (by simp [h2])⟩
  · simp only [decide_eq_true_eq, rws_len] at hc
    rw [List.take_of_length_le (by omega)] at hno
    have : sec4 rows r = false := List.any_eq_false.2 fun x hx => by rw [hno x hx]; simp
    rw [this]
/-- The reference's full decomposition. -/
theorem aFull6 (hp : PairRows rows) (n f : Bool) (hl : rows.length < 1000000) : ∀ (d : Nat) (r : Int), d ≤ 8 → (-2147483648 ≤ r ∧ r ≤ 2147483647) →
    ACall Try.prog 26 [.pv (.sl n f (rws rows)), .pv (.int .i32 r), .pv (.int .i64 d)] [] (FullQ (fullL rows d r)) := by
  intro d
  induction d with
  | zero =>
    intro r hd hr
    refine FullR.mark (a_typebarref06_Full _ _ _ _ _ ?_); unfold r_typebarref06_Full
    refine (pIs r).mono ?_
    rintro _ rfl
    refine ⟨_, rfl, ?_⟩
    refine iteD (fun hs => ?_) (fun hs => ?_)
    · rw [fullL_syl hs]
      refine (aSplit5 hs).mono ?_
      rintro r1 h' (⟨nl, rfl, rfl⟩ | ⟨rfl, rfl⟩)
      · exact .inl ⟨(nl, _), ⟨rfl, rfl⟩, trivial, .inl ⟨true, nl, rfl, rfl⟩⟩
      · exact .inr ⟨_, ⟨rfl, rfl⟩, trivial, .inr ⟨rfl, rfl⟩⟩
    · simp only [Bool.not_eq_true] at hs
      refine (pPair4 hp n f r hl hr).mono ?_
      rintro _ rfl
      refine ⟨_, rfl, rfl, _, rfl, _, rfl, _, rfl, _, rfl, _, rfl, _, rfl, ?_⟩
      refine iteT (by simp) (.inr ⟨?_, rfl⟩)
      simp [fullL, hs, i32s]
  | succ d ih =>
    intro r hd hr
    have hg := pairG_rng hp r
    have hw : IntKind.i64.wrap (((d + 1 : Nat) : Int) - 1) = (d : Int) := by rw [show (((d + 1 : Nat) : Int) - 1) = (d : Int) by omega]; exact wrap_i64 (by omega) (by omega)
    refine FullR.mark (a_typebarref06_Full _ _ _ _ _ ?_); unfold r_typebarref06_Full
    rw [hw]
    refine (pIs r).mono ?_
    rintro _ rfl
    refine ⟨_, rfl, ?_⟩
    refine iteD (fun hs => ?_) (fun hs => ?_)
    · rw [fullL_syl hs]
      refine (aSplit5 hs).mono ?_
      rintro r1 h' (⟨nl, rfl, rfl⟩ | ⟨rfl, rfl⟩)
      · exact .inl ⟨(nl, _), ⟨rfl, rfl⟩, trivial, .inl ⟨true, nl, rfl, rfl⟩⟩
      · exact .inr ⟨_, ⟨rfl, rfl⟩, trivial, .inr ⟨rfl, rfl⟩⟩
    · simp only [Bool.not_eq_true] at hs
      refine (pPair4 hp n f r hl hr).mono ?_
      rintro _ rfl
      refine ⟨_, rfl, rfl, _, rfl, _, rfl, _, rfl, _, rfl, _, rfl, _, rfl, ?_⟩
      by_cases h0 : pairG rows r = (0, 0)
      · refine iteT (by simp [h0]) (.inr ⟨?_, rfl⟩)
        rw [fullL_no hs h0]; rfl
      · refine iteF (by simp [h0]; omega) ?_
        have hpow : 2 ^ d ≤ 2 ^ 8 := Nat.pow_le_pow_right (by omega) (by omega)
        have ea := fullL_len rows d (pairG rows r).1
        have eb := fullL_len rows d (pairG rows r).2
        have na := fullL_ne rows d (pairG rows r).2
        have heq : fullL rows (d + 1) r = fullL rows d (pairG rows r).1 ++ (if (pairG rows r).2 = 0 then [] else fullL rows d (pairG rows r).2) := by
          rw [fullL]; simp [hs, h0]
        rw [heq]
        refine (ih (pairG rows r).1 (by omega) (by omega)).mono ?_
        have second : ∀ (K : LV → Hp → Prop), (pairG rows r).2 ≠ 0 → (∀ nl, K (.own 0) [.sl (21, 1) true nl (i32s (fullL rows d (pairG rows r).2))]) → K (.pv (.sl false true (i32s (fullL rows d (pairG rows r).2)))) [] → ACall Try.prog 26 [.pv (.sl n f (rws rows)), .pv (.int .i32 (pairG rows r).2), .pv (.int .i64 d)] [] K := fun K _ k1 k2 => by
          refine (ih (pairG rows r).2 (by omega) (by omega)).mono ?_
          rintro r1 h' (⟨nl, rfl, rfl⟩ | ⟨rfl, rfl⟩)
          · exact k1 nl
          · exact k2
        have sz : ∀ L : List Int, L.length ≤ 768 → ((i32s (fullL rows d (pairG rows r).1)).length + (i32s L).length) * 4 ≤ 140737488355328 := fun L h => by simp only [i32s_length]; omega
        rintro r1 h' (⟨nl, rfl, rfl⟩ | ⟨rfl, rfl⟩)
        · refine .inl ⟨(nl, _), ⟨rfl, rfl⟩, trivial, iteD (fun hb => ?_) (fun hb => ?_)⟩
          · simp only [bne_iff_ne, ne_eq] at hb
            rw [if_neg hb]
            refine second _ hb (fun nl2 => .inl ⟨(nl2, _), ⟨rfl, rfl⟩, trivial, ⟨i32s_sz _, sz _ (by omega)⟩, .inl ⟨true, _, rfl, by rw [i32s_app]; rfl⟩⟩) (.inr ⟨_, ⟨rfl, rfl⟩, trivial, ⟨i32s_sz _, sz _ (by omega)⟩, .inl ⟨true, _, rfl, by rw [i32s_app]; rfl⟩⟩)
          · simp only [bne_iff_ne, ne_eq, Decidable.not_not] at hb
            rw [if_pos hb, List.append_nil]
            exact .inl ⟨true, nl, rfl, rfl⟩
        · refine .inr ⟨_, ⟨rfl, rfl⟩, trivial, iteD (fun hb => ?_) (fun hb => ?_)⟩
          · simp only [bne_iff_ne, ne_eq] at hb
            rw [if_neg hb]
            have ap : ApOK true (i32s (fullL rows d (pairG rows r).1)) (i32s (fullL rows d (pairG rows r).2)) 1 4 := ⟨rfl, .inr (by simpa [i32s] using na), i32s_sz _, i32s_sz _, sz _ (by omega)⟩
            refine second _ hb (fun nl2 => .inl ⟨(nl2, _), ⟨rfl, rfl⟩, trivial, ap, .inl ⟨false, _, rfl, by rw [i32s_app]; rfl⟩⟩) (.inr ⟨_, ⟨rfl, rfl⟩, trivial, ap, .inl ⟨false, _, rfl, by rw [i32s_app]⟩⟩)
          · simp only [bne_iff_ne, ne_eq, Decidable.not_not] at hb
            rw [if_pos hb, List.append_nil]
            exact .inr ⟨rfl, rfl⟩
end
end Go.Eng
set_option linter.unusedVariables false
set_option linter.unusedSimpArgs false
set_option maxRecDepth 100000
set_option linter.constructorNameAsVariable false
namespace Go.Eng
open Go Go.Proofs Go.Eng.Rows Go.Eng.Trie
theorem nilB (n : Bool) : (bif false then n else !n) = true ↔ n = false := by cases n <;> simp
section
variable {rows : List Row} {tc tg tj tf tp : PV} (M S : List (PV × PV))
def TakeQ (T : PV) (L : List Int) (r1 : LV) (h' : Hp) : Prop := ∃ nl, r1 = .tup [] ∧ h' = [.box [.pv T, .own 1], .sl (21, 1) true nl (i32s L)]
theorem aTake (hp : PairRows rows) (ht : Tri rows tc tg tj tf tp) : ∀ (d : Nat) (r : Int) (nl : Bool) (pre : List Int), d ≤ 8 → (-2147483648 ≤ r ∧ r ≤ 2147483647) → pre.length + 3 * 2 ^ d ≤ 1000000000 →
    ACall Try.prog 57 [.box 0 0, .pv (.int .i32 r), .pv (.int .i64 d)] [.box [.pv (.ptr [tc, tg, tj, tf, tp, .mp M, .mp S]), .own 1], .sl (21, 1) false nl (i32s pre)] (TakeQ (.ptr [tc, tg, tj, tf, tp, .mp M, .mp S]) (pre ++ fullL rows d r)) := by
  intro d
  induction d with
  | zero =>
    intro r nl pre hd hr hb
    refine a_decomp_taker_take _ _ _ _ _ _ _ _ _ _ _ ?_; unfold r_decomp_taker_take
    refine (pSplit r).mono ?_
    intro v hv
    by_cases hs : sylB r = true
    · rw [if_pos hs] at hv; subst hv
      refine ⟨_, _, _, rfl, iteT (by simp) ⟨⟨i32s_sz _, ?_⟩, _, rfl, by rw [fullL_syl hs, i32s_app]⟩⟩
      have := splitL_len r
      simp only [i32s_length]; omega
    · rw [if_neg hs] at hv; subst hv
      simp only [Bool.not_eq_true] at hs
      refine ⟨_, _, _, rfl, iteF (by simp) ?_⟩
      refine (pPair M S ht hr).mono ?_
      rintro _ rfl
      refine ⟨_, rfl, rfl, _, rfl, _, rfl, _, rfl, _, rfl, _, rfl, _, rfl, iteT (by simp) ⟨⟨i32s_sz [_], ?_⟩, nl && false, rfl, ?_⟩⟩
      · simp only [i32s_length]; omega
      · have : fullL rows 0 r = [r] := by simp [fullL, hs]
        rw [this, i32s_app]; rfl
  | succ d ih =>
    intro r nl pre hd hr hb
    have hg := pairG_rng hp r
    have hw : IntKind.i64.wrap (((d + 1 : Nat) : Int) - 1) = (d : Int) := by rw [show (((d + 1 : Nat) : Int) - 1) = (d : Int) by omega]; exact wrap_i64 (by omega) (by omega)
    have h2 : 2 ^ (d + 1) = 2 * 2 ^ d := by rw [Nat.pow_succ]; omega
    have h3 : 1 ≤ 2 ^ d := Nat.one_le_two_pow
    refine a_decomp_taker_take _ _ _ _ _ _ _ _ _ _ _ ?_; unfold r_decomp_taker_take
    rw [hw]
    refine (pSplit r).mono ?_
    intro v hv
    by_cases hs : sylB r = true
    · rw [if_pos hs] at hv; subst hv
      refine ⟨_, _, _, rfl, iteT (by simp) ⟨⟨i32s_sz _, ?_⟩, _, rfl, by rw [fullL_syl hs, i32s_app]⟩⟩
      have := splitL_len r
      simp only [i32s_length]; omega
    · rw [if_neg hs] at hv; subst hv
      simp only [Bool.not_eq_true] at hs
      refine ⟨_, _, _, rfl, iteF (by simp) ?_⟩
      refine (pPair M S ht hr).mono ?_
      rintro _ rfl
      refine ⟨_, rfl, rfl, _, rfl, _, rfl, _, rfl, _, rfl, _, rfl, _, rfl, ?_⟩
      by_cases h0 : pairG rows r = (0, 0)
      · refine iteT (by simp [h0]) ⟨⟨i32s_sz [_], ?_⟩, nl && false, rfl, ?_⟩
        · simp only [i32s_length]; omega
        · rw [fullL_no hs h0, i32s_app]; rfl
      · refine iteF (by simp [h0]; omega) ?_
        have ea := fullL_len rows d (pairG rows r).1
        have heq : fullL rows (d + 1) r = fullL rows d (pairG rows r).1 ++ (if (pairG rows r).2 = 0 then [] else fullL rows d (pairG rows r).2) := by
          rw [fullL]; simp [hs, h0]
        rw [heq]
        refine (ih (pairG rows r).1 nl pre (by omega) (by omega) (by omega)).mono ?_
        rintro r1 h' ⟨nl1, rfl, rfl⟩
        refine ⟨(nl1, _), ⟨rfl, rfl⟩, ⟨trivial, trivial, trivial⟩, iteD (fun hb2 => ?_) (fun hb2 => ?_)⟩
        · simp only [bne_iff_ne, ne_eq] at hb2
          rw [if_neg hb2]
          refine (ih (pairG rows r).2 nl1 (pre ++ fullL rows d (pairG rows r).1) (by omega) (by omega) (by rw [List.length_append]; omega)).mono ?_
          rintro r2 h2 ⟨nl2, rfl, rfl⟩
          exact ⟨(nl2, _), ⟨rfl, rfl⟩, ⟨trivial, trivial, trivial⟩, nl2, rfl, by rw [← List.append_assoc]; rfl⟩
        · simp only [bne_iff_ne, ne_eq, Decidable.not_not] at hb2
          rw [if_pos hb2, List.append_nil]
          exact ⟨nl1, rfl, rfl⟩
/-- As 'aTake', of one that has nothing. -/
theorem aTake0 (hp : PairRows rows) (ht : Tri rows tc tg tj tf tp) : ∀ (d : Nat) (r : Int), d ≤ 8 → (-2147483648 ≤ r ∧ r ≤ 2147483647) →
    ACall Try.prog 57 [.box 0 0, .pv (.int .i32 r), .pv (.int .i64 d)] [.box [.pv (.ptr [tc, tg, tj, tf, tp, .mp M, .mp S]), .pv (.sl true true [])]] (TakeQ (.ptr [tc, tg, tj, tf, tp, .mp M, .mp S]) (fullL rows d r)) := by
  intro d
  have mk : ∀ {L : List Int} {args : List LV} {h : Hp}, ACall Try.prog 57 args h (fun r1 h' => ∃ m nl, r1 = .tup [] ∧ h' = [.box [.pv (.ptr [tc, tg, tj, tf, tp, .mp M, .mp S]), .own 1], .sl (21, 1) m nl (i32s L)]) → ACall Try.prog 57 args h (TakeQ (.ptr [tc, tg, tj, tf, tp, .mp M, .mp S]) L) := fun {L args h} hc => by
    refine ACall.mark 0 [] hc ?_
    rintro r h' ⟨m, nl, rfl, rfl⟩
    exact ⟨nl, rfl, rfl⟩
  have base : ∀ (L : List Int), L.length ≤ 768 → ApOK true [] (i32s L) 1 4 := fun L hL => ⟨rfl, .inl rfl, fun e he => (by cases he), i32s_sz L, by simp only [List.length_nil, i32s_length]; omega⟩
  induction d with
  | zero =>
    intro r hd hr
    refine mk (a_decomp_taker_take0 _ _ _ _ _ _ _ _ _ ?_); unfold r_decomp_taker_take0
    refine (pSplit r).mono ?_
    intro v hv
    by_cases hs : sylB r = true
    · rw [if_pos hs] at hv; subst hv
      have := splitL_len r
      exact ⟨_, _, _, rfl, iteT (by simp) ⟨base _ (by omega), _, _, rfl, by rw [fullL_syl hs]; rfl⟩⟩
    · rw [if_neg hs] at hv; subst hv
      simp only [Bool.not_eq_true] at hs
      refine ⟨_, _, _, rfl, iteF (by simp) ?_⟩
      refine (pPair M S ht hr).mono ?_
      rintro _ rfl
      refine ⟨_, rfl, rfl, _, rfl, _, rfl, _, rfl, _, rfl, _, rfl, _, rfl, iteT (by simp) ⟨base [_] (by simp), false, false, rfl, ?_⟩⟩
      have : fullL rows 0 r = [r] := by simp [fullL, hs]
      rw [this]; rfl
  | succ d ih =>
    intro r hd hr
    have hg := pairG_rng hp r
    have hw : IntKind.i64.wrap (((d + 1 : Nat) : Int) - 1) = (d : Int) := by rw [show (((d + 1 : Nat) : Int) - 1) = (d : Int) by omega]; exact wrap_i64 (by omega) (by omega)
    have hpow : 2 ^ d ≤ 2 ^ 8 := Nat.pow_le_pow_right (by omega) (by omega)
    refine mk (a_decomp_taker_take0 _ _ _ _ _ _ _ _ _ ?_); unfold r_decomp_taker_take0
    rw [hw]
    refine (pSplit r).mono ?_
    intro v hv
    by_cases hs : sylB r = true
    · rw [if_pos hs] at hv; subst hv
      have := splitL_len r
      exact ⟨_, _, _, rfl, iteT (by simp) ⟨base _ (by omega), _, _, rfl, by rw [fullL_syl hs]; rfl⟩⟩
    · rw [if_neg hs] at hv; subst hv
      simp only [Bool.not_eq_true] at hs
      refine ⟨_, _, _, rfl, iteF (by simp) ?_⟩
      refine (pPair M S ht hr).mono ?_
      rintro _ rfl
      refine ⟨_, rfl, rfl, _, rfl, _, rfl, _, rfl, _, rfl, _, rfl, _, rfl, ?_⟩
      by_cases h0 : pairG rows r = (0, 0)
      · refine iteT (by simp [h0]) ⟨base [_] (by simp), false, false, rfl, ?_⟩
        rw [fullL_no hs h0]; rfl
      · refine iteF (by simp [h0]; omega) ?_
        have ea := fullL_len rows d (pairG rows r).1
        have heq : fullL rows (d + 1) r = fullL rows d (pairG rows r).1 ++ (if (pairG rows r).2 = 0 then [] else fullL rows d (pairG rows r).2) := by
          rw [fullL]; simp [hs, h0]
        rw [heq]
        refine (ih (pairG rows r).1 (by omega) (by omega)).mono ?_
        rintro r1 h' ⟨nl1, rfl, rfl⟩
        refine ⟨(nl1, _), ⟨rfl, rfl⟩, ⟨trivial, trivial⟩, iteD (fun hb2 => ?_) (fun hb2 => ?_)⟩
        · simp only [bne_iff_ne, ne_eq] at hb2
          rw [if_neg hb2]
          refine (aTake M S hp ht d (pairG rows r).2 nl1 (fullL rows d (pairG rows r).1) (by omega) (by omega) (by omega)).mono ?_
          rintro r2 h2 ⟨nl2, rfl, rfl⟩
          exact ⟨(nl2, _), ⟨rfl, rfl⟩, ⟨trivial, trivial, trivial⟩, true, nl2, rfl, rfl⟩
        · simp only [bne_iff_ne, ne_eq, Decidable.not_not] at hb2
          rw [if_pos hb2, List.append_nil]
          exact ⟨true, nl1, rfl, rfl⟩
theorem pFull (hp : PairRows rows) (ht : Tri rows tc tg tj tf tp) {r : Int} (hr : -2147483648 ≤ r ∧ r ≤ 2147483647) : PCall Try.prog 25 [.ptr [tc, tg, tj, tf, tp, .mp M, .mp S], .int .i32 r] fun v => ∃ nl, v = .sl nl false (i32s (fullL rows 8 r)) := by
  refine a_decomp_Full _ _ _ _ _ _ _ _ ?_; unfold r_decomp_Full
  refine ⟨rfl, ?_⟩
  refine (aTake0 M S hp ht 8 r (by omega) hr).mono ?_
  rintro r1 h' ⟨nl, rfl, rfl⟩
  exact ⟨(nl, _), ⟨rfl, rfl⟩, ⟨trivial, trivial⟩, nl, rfl⟩
end
end Go.Eng
set_option linter.unusedVariables false
set_option linter.unusedSimpArgs false
namespace Go.Eng.Rows
open Go Go.Eng Go.Eng.Trie
/-- What a text is, scalar by scalar. -/
def checkQ (rows : List Row) : Bool → Int → List Int → Int
  | m, _, [] => if m then 2 else 0
  | m, last, r :: l => if (decide (ofQ rows r = 1) || (!decide (numG rows 1 r = 0) && decide (numG rows 1 r < last))) then 1 else checkQ rows (m || decide (ofQ rows r = 2)) (numG rows 1 r) l
def ptsL (rows : List Row) : Int → List Int → List Int
  | _, [] => []
  | k, r :: l => if stabQ rows r then k :: ptsL rows (k + 1) l else ptsL rows (k + 1) l
theorem ptsL_snoc (rows : List Row) (r : Int) : ∀ (l : List Int) (k : Int), ptsL rows k (l ++ [r]) = ptsL rows k l ++ (if stabQ rows r then [k + l.length] else [])
  | [], k => by simp [ptsL]
  | x :: l, k => by
    simp only [List.cons_append, ptsL, ptsL_snoc rows r l (k + 1), List.length_cons]
    have : k + 1 + (l.length : Int) = k + ((l.length + 1 : Nat) : Int) := by omega
    split <;> split <;> simp [this]
theorem ptsL_len (rows : List Row) : ∀ (l : List Int) (k : Int), (ptsL rows k l).length ≤ l.length
  | [], k => by simp [ptsL]
  | x :: l, k => by
    have := ptsL_len rows l (k + 1)
    simp only [ptsL, List.length_cons]
    split <;> simp <;> omega
theorem ptsL_mono (rows : List Row) (l m : List Int) (k : Int) : ∃ t, ptsL rows k (l ++ m) = ptsL rows k l ++ t := by
  induction l generalizing k with
  | nil => exact ⟨ptsL rows k m, by simp [ptsL]⟩
  | cons x l ih =>
    obtain ⟨t, ht⟩ := ih (k + 1)
    refine ⟨t, ?_⟩
    simp only [List.cons_append, ptsL, ht]
    split <;> simp
theorem ofQ_val (rows : List Row) (r : Int) : ofQ rows r = 0 ∨ ofQ rows r = 1 ∨ ofQ rows r = 2 := by
  unfold ofQ; split
  · exact .inr (.inl rfl)
  · split
    · exact .inr (.inr rfl)
    · exact .inl rfl
/-! ### What is true of a table, asked of it -/
def pairRowsB (rows : List Row) : Bool := rows.all fun x => !decide (x.kind = 2) || ((decide (1 ≤ x.a) && decide (x.a ≤ 1114111)) && (decide (0 ≤ x.b) && decide (x.b ≤ 1114111)))
theorem pairRows_of {rows : List Row} (h : pairRowsB rows = true) : PairRows rows := fun x hx hk => by
  have := List.all_eq_true.1 h x hx
  simpa [hk] using this
def pairOneB (rows : List Row) : Bool := rows.all fun x => !decide (x.kind = 2) || (decide (x.fr = x.to) && ((decide (0 ≤ x.fr) && decide (x.fr ≤ 1114111)) && decide (first rows 2 x.fr = some (x.a, x.b))))
theorem pairOne_of {rows : List Row} (h : pairOneB rows = true) : PairOne rows := fun x hx hk => by
  have := List.all_eq_true.1 h x hx
  simpa [hk] using this
def clsPosB (rows : List Row) : Bool := rows.all fun x => !decide (x.kind = 1) || decide (0 ≤ x.a)
def ClsPos (rows : List Row) : Prop := ∀ r, 0 ≤ numG rows 1 r
theorem clsPos_of {rows : List Row} (h : clsPosB rows = true) : ClsPos rows := fun r => by
  unfold numG
  cases hf : firstG rows 1 r with
  | none => exact Int.le_refl _
  | some p =>
    obtain ⟨x, hx, hk, ha, _⟩ := firstG_mem hf
    have := List.all_eq_true.1 h x hx
    simp only [hk, decide_true, Bool.not_true, Bool.false_or, decide_eq_true_eq] at this
    simp only; omega
end Go.Eng.Rows
set_option linter.unusedVariables false
set_option maxRecDepth 100000
namespace Go.Eng
open Go Go.Proofs Go.Eng.Rows Go.Eng.Trie
theorem tab_pairs : PairRows tab := pairRows_of (by kernel_rfl)
theorem tab_one : PairOne tab := pairOne_of (by kernel_rfl)
theorem tab_cls : ClsPos tab := clsPos_of (by kernel_rfl)
theorem q1 : checkQ tab false 0 [101, 769] = 2 := by kernel_rfl
theorem q2 : checkQ tab false 0 [233] = 0 := by kernel_rfl
theorem q3 : checkQ tab false 0 [769, 807] = 1 := by kernel_rfl
theorem q4 : checkQ tab false 0 [8491] = 1 := by kernel_rfl
theorem q5 : stabQ tab 101 = true := by kernel_rfl
theorem q6 : stabQ tab 769 = false := by kernel_rfl
theorem q7 : stabQ tab 4449 = false := by kernel_rfl
end Go.Eng
set_option linter.unusedVariables false
set_option linter.unusedSimpArgs false
set_option maxRecDepth 100000
set_option linter.constructorNameAsVariable false
namespace Go.Eng
open Go Go.Proofs Go.Eng.Rows Go.Eng.Trie
def R32 (l : List Int) : Prop := ∀ x ∈ l, -2147483648 ≤ x ∧ x ≤ 2147483647
theorem enc32_len (x : Int) : ([PV.int .i32 x] : List PV).length = 1 := rfl
theorem i32_at {l : List Int} {i : Int} (h0 : 0 ≤ i) (hi : i.toNat < l.length) : idxOK (i32s l) i 1 ∧ (i32s l).getD i.toNat [] = [.int .i32 l[i.toNat]] :=
  ⟨idxOK_map enc32_len h0 (by omega), getD_map hi⟩
section
variable {rows : List Row} {v : PV}
theorem qOut (hp : PairRows rows) (hv : Tables rows v) {r : Int} (hr : -2147483648 ≤ r ∧ r ≤ 2147483647) : PCall Try.prog 50 [v, .int .i32 r] fun x => x = .bool (outG rows r) := by
  obtain ⟨tc, tg, tj, tf, tp, made, sec, rfl, ht, hm⟩ := hv
  exact pOut _ _ hp ht hr
theorem qClass (hv : Tables rows v) {r : Int} (hr : -2147483648 ≤ r ∧ r ≤ 2147483647) : PCall Try.prog 56 [v, .int .i32 r] fun x => x = .int .i64 (numG rows 1 r) := by
  obtain ⟨tc, tg, tj, tf, tp, made, sec, rfl, ht, hm⟩ := hv
  exact pClass _ _ ht hr
theorem qFull (hp : PairRows rows) (hv : Tables rows v) {r : Int} (hr : -2147483648 ≤ r ∧ r ≤ 2147483647) : PCall Try.prog 25 [v, .int .i32 r] fun x => ∃ nl, x = .sl nl false (i32s (fullL rows 8 r)) := by
  obtain ⟨tc, tg, tj, tf, tp, made, sec, rfl, ht, hm⟩ := hv
  exact pFull _ _ hp ht hr
theorem qOf (hp : PairRows rows) (h1 : PairOne rows) (hv : Tables rows v) {r : Int} (hr : -2147483648 ≤ r ∧ r ≤ 2147483647) : PCall Try.prog 15 [v, .int .i32 r] fun x => x = .int .i64 (ofQ rows r) := by
  obtain ⟨tc, tg, tj, tf, tp, made, sec, rfl, ht, hm⟩ := hv
  refine a_quick_Of _ _ _ _ _ _ _ _ ?_; unfold r_quick_Of
  refine (pOut _ _ hp ht hr).mono ?_
  rintro _ rfl
  refine ⟨_, rfl, ?_⟩
  refine iteD (fun ho => ?_) (fun ho => ?_)
  · unfold ofQ; rw [if_pos ho]
  · refine (pSecond tc tg tj tf tp _ sec r).mono ?_
    rintro _ rfl
    have hs : secB sec r = sec4 rows r := secB_eq hp h1 hm r
    rw [hs]
    refine ⟨_, rfl, ?_⟩
    refine iteD (fun h2 => ?_) (fun h2 => ?_)
    · refine iteT h2 ?_
      unfold ofQ; rw [if_neg ho, if_pos (by simp [h2])]
    · refine (pSec r).mono ?_
      rintro _ rfl
      refine ⟨_, rfl, ?_⟩
      refine iteD (fun h3 => ?_) (fun h3 => ?_)
      · unfold ofQ; rw [if_neg ho, if_pos (by simp [h3])]
      · unfold ofQ; rw [if_neg ho, if_neg (by simp only [Bool.not_eq_true] at h2 h3; simp [h2, h3])]
theorem headQ_rng (hp : PairRows rows) {r : Int} (hr : -2147483648 ≤ r ∧ r ≤ 2147483647) : -2147483648 ≤ headQ rows r ∧ headQ rows r ≤ 2147483647 := by
  rcases fullL_rng hp 8 r _ (headQ_mem rows r) with h | h
  · rw [h]; exact hr
  · omega
theorem head_get {l : List Int} (h : 0 < l.length) : l[0] = l.headD 0 := by
  cases l with
  | nil => simp at h
  | cons a l => rfl
theorem full_head (rows : List Row) (r : Int) : idxOK (i32s (fullL rows 8 r)) 0 1 ∧ (i32s (fullL rows 8 r)).getD 0 [] = [.int .i32 (headQ rows r)] := by
  have hne := fullL_ne rows 8 r
  have hlen : 0 < (fullL rows 8 r).length := List.length_pos_iff.2 hne
  obtain ⟨h1, h2⟩ := i32_at (l := fullL rows 8 r) (i := 0) (Int.le_refl _) (by simpa using hlen)
  refine ⟨h1, h2.trans ?_⟩
  have : (fullL rows 8 r)[(0 : Int).toNat]'(by simpa using hlen) = headQ rows r := head_get hlen
  rw [this]
theorem qStable (hp : PairRows rows) (h1 : PairOne rows) (hv : Tables rows v) {r : Int} (hr : -2147483648 ≤ r ∧ r ≤ 2147483647) : PCall Try.prog 17 [v, .int .i32 r] fun x => x = .bool (stabQ rows r) := by
  have hv' := hv
  obtain ⟨tc, tg, tj, tf, tp, made, sec, rfl, ht, hm⟩ := hv
  have hh := headQ_rng hp hr
  refine a_quick_Stable _ _ _ _ _ _ _ _ (fun a b i => r = a ∧ headQ rows r = b ∧ 0 ≤ i ∧ i ≤ 2 ∧ (1 ≤ i → numG rows 1 r = 0 ∧ ofQ rows r = 0) ∧ (2 ≤ i → numG rows 1 (headQ rows r) = 0 ∧ ofQ rows (headQ rows r) = 0)) (fun _ _ i => (2 - i).toNat) ?_
  unfold r_quick_Stable
  refine (pFull _ _ hp ht hr).mono ?_
  rintro _ ⟨nl, rfl⟩
  obtain ⟨f1, f2⟩ := full_head rows r
  refine ⟨_, _, _, rfl, f1, headQ rows r, by rw [f2]; rfl, ⟨rfl, rfl, rfl, Int.le_refl _, by omega, fun h => absurd h (by omega), fun h => absurd h (by omega)⟩, ?_⟩
  rintro _ _ i ⟨rfl, rfl, i0, i1, k1, k2⟩
  refine iteD (fun hc => ?_) (fun hc => ?_)
  · simp only [decide_eq_true_eq] at hc
    have hw : IntKind.i64.wrap (i + 1) = i + 1 := wrap_i64 (by omega) (by omega)
    have key : ∀ (x : Int), (-2147483648 ≤ x ∧ x ≤ 2147483647) → [PV.int .i32 r, .int .i32 (headQ rows r)].getD i.toNat .unit = .int .i32 x →
        ((numG rows 1 x = 0 ∧ ofQ rows x = 0) → (1 ≤ i + 1 → numG rows 1 r = 0 ∧ ofQ rows r = 0) ∧ (2 ≤ i + 1 → numG rows 1 (headQ rows r) = 0 ∧ ofQ rows (headQ rows r) = 0)) → (¬ (numG rows 1 x = 0 ∧ ofQ rows x = 0) → stabQ rows r = false) →
        ∃ n2 : Int, [PV.int .i32 r, .int .i32 (headQ rows r)].getD i.toNat .unit = .int .i32 n2 ∧ PCall Try.prog 56 [.ptr [tc, tg, tj, tf, tp, .mp (encMade made), .mp (encSec sec)], .int .i32 n2] fun v1 => ∃ n3 : Int, v1 = .int .i64 n3 ∧
          if (n3 != 0) = true then PV.bool false = PV.bool (stabQ rows r) else PCall Try.prog 15 [.ptr [tc, tg, tj, tf, tp, .mp (encMade made), .mp (encSec sec)], .int .i32 n2] fun v2 => ∃ n4 : Int, v2 = .int .i64 n4 ∧
            if (n4 != 0) = true then PV.bool false = PV.bool (stabQ rows r) else (1 ≤ i + 1 → numG rows 1 r = 0 ∧ ofQ rows r = 0) ∧ (2 ≤ i + 1 → numG rows 1 (headQ rows r) = 0 ∧ ofQ rows (headQ rows r) = 0) := fun x hx hg hyes hno => by
      refine ⟨x, hg, ?_⟩
      refine (pClass _ _ ht hx).mono ?_
      rintro _ rfl
      refine ⟨_, rfl, ?_⟩
      refine iteD (fun h4 => ?_) (fun h4 => ?_)
      · simp only [bne_iff_ne, ne_eq] at h4
        rw [hno fun h => h4 h.1]
      · simp only [bne_iff_ne, ne_eq, Decidable.not_not] at h4
        refine (qOf hp h1 hv' hx).mono ?_
        rintro _ rfl
        refine ⟨_, rfl, ?_⟩
        refine iteD (fun h5 => ?_) (fun h5 => ?_)
        · simp only [bne_iff_ne, ne_eq] at h5
          rw [hno fun h => h5 h.2]
        · simp only [bne_iff_ne, ne_eq, Decidable.not_not] at h5
          exact hyes ⟨h4, h5⟩
    have hi : i = 0 ∨ i = 1 := by omega
    have hmu : (2 - (i + 1)).toNat < (2 - i).toNat := by omega
    have key2 : ∃ n2 : Int, [PV.int .i32 r, .int .i32 (headQ rows r)].getD i.toNat .unit = .int .i32 n2 ∧ PCall Try.prog 56 [.ptr [tc, tg, tj, tf, tp, .mp (encMade made), .mp (encSec sec)], .int .i32 n2] fun v1 => ∃ n3 : Int, v1 = .int .i64 n3 ∧
          if (n3 != 0) = true then PV.bool false = PV.bool (stabQ rows r) else PCall Try.prog 15 [.ptr [tc, tg, tj, tf, tp, .mp (encMade made), .mp (encSec sec)], .int .i32 n2] fun v2 => ∃ n4 : Int, v2 = .int .i64 n4 ∧
            if (n4 != 0) = true then PV.bool false = PV.bool (stabQ rows r) else (1 ≤ i + 1 → numG rows 1 r = 0 ∧ ofQ rows r = 0) ∧ (2 ≤ i + 1 → numG rows 1 (headQ rows r) = 0 ∧ ofQ rows (headQ rows r) = 0) := by
      rcases hi with rfl | rfl
      · refine key r hr rfl (fun h => ⟨fun _ => h, fun h2 => absurd h2 (by omega)⟩) fun h => ?_
        unfold stabQ
        by_cases e1 : numG rows 1 r = 0
        · have e2 : ofQ rows r ≠ 0 := fun e2 => h ⟨e1, e2⟩
          simp [e2]
        · simp [e1]
      · refine key (headQ rows r) hh rfl (fun h => ⟨fun _ => k1 (by omega), fun _ => h⟩) fun h => ?_
        unfold stabQ
        by_cases e1 : numG rows 1 (headQ rows r) = 0
        · have e2 : ofQ rows (headQ rows r) ≠ 0 := fun e2 => h ⟨e1, e2⟩
          simp [e2]
        · simp [e1]
    obtain ⟨n2, g1, g2⟩ := key2
    refine ⟨⟨i0, hc, by simp; omega⟩, n2, g1, g2.mono ?_⟩
    rintro v1 ⟨n3, rfl, hk⟩
    refine ⟨n3, rfl, iteD (fun h => by rw [if_pos h] at hk; exact hk) (fun h => ?_)⟩
    rw [if_neg h] at hk
    refine hk.mono ?_
    rintro v2 ⟨n4, rfl, hk2⟩
    refine ⟨n4, rfl, iteD (fun h => by rw [if_pos h] at hk2; exact hk2) (fun h => ?_)⟩
    rw [if_neg h] at hk2
    rw [hw]
    exact ⟨rfl, ⟨rfl, rfl, by omega, by omega, hk2⟩, hmu⟩
  · simp only [decide_eq_true_eq] at hc
    obtain ⟨a1, a2⟩ := k1 (by omega)
    obtain ⟨a3, a4⟩ := k2 (by omega)
    unfold stabQ; simp [a1, a2, a3, a4]
end
end Go.Eng
set_option linter.unusedVariables false
set_option linter.unusedSimpArgs false
set_option maxRecDepth 100000
set_option linter.constructorNameAsVariable false
namespace Go.Eng
open Go Go.Proofs Go.Eng.Rows Go.Eng.Trie
section
variable {rows : List Row} {v : PV}
theorem drop_one {l : List Int} {i : Nat} (h : i < l.length) : l.drop i = l[i] :: l.drop (i + 1) := List.drop_eq_getElem_cons h
theorem qCheck (hp : PairRows rows) (h1 : PairOne rows) (hv : Tables rows v) (n f : Bool) (l : List Int) (hl : l.length < 1000000000) (hr : R32 l) : PCall Try.prog 21 [v, .sl n f (i32s l)] fun x => x = .int .i64 (checkQ rows false 0 l) := by
  have hv' := hv
  obtain ⟨tc, tg, tj, tf, tp, made, sec, rfl, ht, hm⟩ := hv
  refine a_quick_Check _ _ _ _ _ _ _ _ _ _ (fun x last i => 0 ≤ i ∧ i ≤ l.length ∧ ∃ m : Bool, x = (if m then 2 else 0) ∧ checkQ rows false 0 l = checkQ rows m last (l.drop i.toNat)) (fun _ _ i => l.length - i.toNat) ?_
  unfold r_quick_Check
  refine ⟨⟨rfl, Int.le_refl _, by omega, false, rfl, rfl⟩, ?_⟩
  rintro _ last i ⟨i0, i1, m, rfl, he⟩
  refine iteD (fun hc => ?_) (fun hc => ?_)
  · simp only [decide_eq_true_eq, i32s_length] at hc
    have hi : i.toNat < l.length := by omega
    have hw : IntKind.i64.wrap (i + 1) = i + 1 := wrap_i64 (by omega) (by omega)
    have hn : (i + 1).toNat = i.toNat + 1 := by omega
    obtain ⟨g1, g2⟩ := i32_at i0 hi
    have hx := hr _ (List.getElem_mem hi)
    rw [drop_one hi, checkQ] at he
    rw [hw]
    refine ⟨g1, l[i.toNat], by rw [g2]; rfl, ?_⟩
    generalize l[i.toNat] = r at *
    refine (pClass _ _ ht hx).mono ?_
    rintro _ rfl
    refine ⟨_, rfl, ?_⟩
    have hmu : l.length - (i + 1).toNat < l.length - i.toNat := by omega
    refine iteD (fun h2 => ?_) (fun h2 => ?_)
    · simp only [Bool.and_eq_true, bne_iff_ne, ne_eq, decide_eq_true_eq] at h2
      rw [he, if_pos (by simp [h2.1]; right; omega)]
    · simp only [Bool.and_eq_true, bne_iff_ne, ne_eq, decide_eq_true_eq, not_and] at h2
      have h2' : (!decide (numG rows 1 r = 0) && decide (numG rows 1 r < last)) = false := by
        by_cases h0 : numG rows 1 r = 0
        · simp [h0]
        · have := h2 h0; simp [h0]; omega
      rw [h2', Bool.or_false] at he
      refine (qOf hp h1 hv' hx).mono ?_
      rintro _ rfl
      refine ⟨_, rfl, ?_⟩
      refine iteD (fun h3 => ?_) (fun h3 => iteD (fun h4 => ?_) (fun h4 => ?_))
      · simp only [beq_iff_eq] at h3
        rw [he, if_pos (by simp [h3])]
      · simp only [beq_iff_eq] at h3 h4
        rw [if_neg (by simp [h3]), h4] at he
        exact ⟨rfl, ⟨by omega, by omega, true, rfl, by rw [he, hn]; simp⟩, hmu⟩
      · simp only [beq_iff_eq] at h3 h4
        rw [if_neg (by simp [h3])] at he
        exact ⟨rfl, ⟨by omega, by omega, m, rfl, by rw [he, hn]; simp [h4]⟩, hmu⟩
  · simp only [decide_eq_true_eq, i32s_length] at hc
    rw [List.drop_of_length_le (by omega)] at he
    rw [he, checkQ]
theorem ixs_app (a b : List Int) : ixs (a ++ b) = ixs a ++ ixs b := by simp [ixs]
theorem qPoints (hp : PairRows rows) (h1 : PairOne rows) (hv : Tables rows v) (n f : Bool) (l : List Int) (hl : l.length < 1000000000) (hr : R32 l) : PCall Try.prog 23 [v, .sl n f (i32s l)] fun x => ∃ n f, x = .sl n f (ixs (ptsL rows 0 l)) := by
  have hv' := hv
  obtain ⟨tc, tg, tj, tf, tp, made, sec, rfl, ht, hm⟩ := hv
  refine a_quick_Points _ _ _ _ _ _ _ _ _ _ (fun i _ s => 0 ≤ i ∧ i ≤ l.length ∧ s = ixs (ptsL rows 0 (l.take i.toNat))) (fun i _ _ => l.length - i.toNat) ?_
  unfold r_quick_Points
  refine ⟨⟨rfl, Int.le_refl _, by omega, rfl⟩, ?_⟩
  rintro i m _ ⟨i0, i1, rfl⟩
  refine iteD (fun hc => ?_) (fun hc => ?_)
  · simp only [decide_eq_true_eq, i32s_length] at hc
    have hi : i.toNat < l.length := by omega
    have hw : IntKind.i64.wrap (i + 1) = i + 1 := wrap_i64 (by omega) (by omega)
    have hn : (i + 1).toNat = i.toNat + 1 := by omega
    obtain ⟨g1, g2⟩ := i32_at i0 hi
    have hx := hr _ (List.getElem_mem hi)
    have hlen : ((l.take i.toNat).length : Int) = i := by rw [List.length_take]; omega
    have hpl := ptsL_len rows (l.take i.toNat) 0
    have hs := ptsL_snoc rows l[i.toNat] (l.take i.toNat) 0
    rw [← take_snoc hi, hlen, Int.zero_add] at hs
    rw [hw]
    refine ⟨g1, l[i.toNat], by rw [g2]; rfl, ?_⟩
    refine (qStable hp h1 hv' hx).mono ?_
    rintro _ rfl
    refine ⟨_, rfl, ?_⟩
    have hmu : l.length - (i + 1).toNat < l.length - i.toNat := by omega
    refine iteD (fun h2 => ?_) (fun h2 => ?_)
    · rw [if_pos h2] at hs
      refine ⟨⟨fun e he => by simp at he; subst he; rfl, ?_⟩, rfl, ⟨by omega, by omega, ?_⟩, hmu⟩
      · rw [ixs_len]; rw [List.length_take] at hpl; omega
      · rw [hn, hs, ixs_app]; rfl
    · rw [if_neg h2, List.append_nil] at hs
      exact ⟨rfl, ⟨by omega, by omega, by rw [hn, hs]⟩, hmu⟩
  · simp only [decide_eq_true_eq, i32s_length] at hc
    rw [List.take_of_length_le (by omega)]
    exact ⟨_, _, rfl⟩
/-! ### The references -/
theorem pOf8 (hp : PairRows rows) (h1 : PairOne rows) (n f : Bool) (r : Int) (hl : rows.length < 1000000) (hr : -2147483648 ≤ r ∧ r ≤ 2147483647) : PCall Try.prog 16 [.sl n f (rws rows), .int .i32 r] fun v => v = .int .i64 (ofQ rows r) := by
  refine a_typebarref08_Of _ _ _ _ ?_; unfold r_typebarref08_Of
  refine (pOut4 hp n f r hl hr).mono ?_
  rintro _ rfl
  refine ⟨_, rfl, iteD (fun ho => ?_) (fun ho => ?_)⟩
  · unfold ofQ; rw [if_pos ho]
  · refine (pSecond4 hp h1 n f r hl hr).mono ?_
    rintro _ rfl
    refine ⟨_, rfl, iteD (fun h2 => ?_) (fun h2 => ?_)⟩
    · unfold ofQ; rw [if_neg ho, if_pos (by simp [h2])]
    · refine (pSec5 r).mono ?_
      rintro _ rfl
      refine ⟨_, rfl, iteD (fun h3 => ?_) (fun h3 => ?_)⟩
      · unfold ofQ; rw [if_neg ho, if_pos (by simp [h3])]
      · unfold ofQ; rw [if_neg ho, if_neg (by simp only [Bool.not_eq_true] at h2 h3; simp [h2, h3])]
theorem pStable8 (hp : PairRows rows) (h1 : PairOne rows) (n f : Bool) (r : Int) (hl : rows.length < 1000000) (hr : -2147483648 ≤ r ∧ r ≤ 2147483647) : PCall Try.prog 18 [.sl n f (rws rows), .int .i32 r] fun v => v = .bool (stabQ rows r) := by
  have hh := headQ_rng hp hr
  refine a_typebarref08_Stable _ _ _ _ ?_; unfold r_typebarref08_Stable
  obtain ⟨f1, f2⟩ := full_head rows r
  have tail : PCall Try.prog 32 [.sl n f (rws rows), .int .i32 r] fun v => ∃ n2 : Int, v = .int .i64 n2 ∧
      if (n2 == 0) = true then PCall Try.prog 16 [.sl n f (rws rows), .int .i32 r] fun v1 => ∃ n3 : Int, v1 = .int .i64 n3 ∧
        if (n3 == 0) = true then PCall Try.prog 32 [.sl n f (rws rows), .int .i32 (headQ rows r)] fun v2 => ∃ n4 : Int, v2 = .int .i64 n4 ∧
          if (n4 == 0) = true then PCall Try.prog 16 [.sl n f (rws rows), .int .i32 (headQ rows r)] fun v3 => ∃ n5 : Int, v3 = .int .i64 n5 ∧ PV.bool (n5 == 0) = .bool (stabQ rows r)
          else PV.bool false = .bool (stabQ rows r)
        else PV.bool false = .bool (stabQ rows r)
      else PV.bool false = .bool (stabQ rows r) := by
    refine (pClass6 n f r hl hr).mono ?_
    rintro _ rfl
    refine ⟨_, rfl, iteD (fun h2 => ?_) (fun h2 => ?_)⟩
    · simp only [beq_iff_eq] at h2
      refine (pOf8 hp h1 n f r hl hr).mono ?_
      rintro _ rfl
      refine ⟨_, rfl, iteD (fun h3 => ?_) (fun h3 => ?_)⟩
      · simp only [beq_iff_eq] at h3
        refine (pClass6 n f _ hl hh).mono ?_
        rintro _ rfl
        refine ⟨_, rfl, iteD (fun h4 => ?_) (fun h4 => ?_)⟩
        · simp only [beq_iff_eq] at h4
          refine (pOf8 hp h1 n f _ hl hh).mono ?_
          rintro _ rfl
          refine ⟨_, rfl, ?_⟩
          unfold stabQ; simp only [h2, h3, h4, decide_true, Bool.true_and]; rfl
        · simp only [beq_iff_eq] at h4
          unfold stabQ; simp [h4]
      · simp only [beq_iff_eq] at h3
        unfold stabQ; simp [h3]
    · simp only [beq_iff_eq] at h2
      unfold stabQ; simp [h2]
  refine (aFull6 hp n f hl 8 r (by omega) hr).mono ?_
  rintro r1 h' (⟨nl, rfl, rfl⟩ | ⟨rfl, rfl⟩)
  · exact .inl ⟨(nl, _), ⟨rfl, rfl⟩, trivial, f1, headQ rows r, by show (List.drop 0 ((i32s (fullL rows 8 r)).getD 0 [])).head? = _; rw [f2]; rfl, tail⟩
  · exact .inr ⟨_, ⟨rfl, rfl⟩, trivial, f1, headQ rows r, by rw [f2]; rfl, tail⟩
end
end Go.Eng
set_option linter.unusedVariables false
set_option maxRecDepth 100000
set_option linter.constructorNameAsVariable false
namespace Go.Eng
open Go Go.Proofs
def r_typebarlaw06_Few (n f : Bool) (es : List (List PV)) (k : Int) (R : PV → Prop) : Prop :=
 if decide ((↑es.length : Int) > k) = true then (slOK es.length none (some k) none ∧ szOK es 1) ∧ R (PV.sl n (f && decide (k = (↑es.length : Int))) (List.drop 0 (List.take k.toNat es))) else R (PV.sl n f es)
theorem e_typebarlaw06_Few (n f : Bool) (es : List (List PV)) (k : Int) (R : PV → Prop) : aFn Try.prog (fun _ => none) Try.f20 [0, 1, 4, 8] (fun _ => none) (Try.f20.body.getD .skip) [.sl n f es, .int .i64 k] R = r_typebarlaw06_Few n f es k R := by kernel_rfl
theorem a_typebarlaw06_Few (n f : Bool) (es : List (List PV)) (k : Int) {R : PV → Prop} (h : r_typebarlaw06_Few n f es k R) : PCall Try.prog 20 [.sl n f es, .int .i64 k] R :=
  PCall.of Try.func20 (by kernel_rfl) (by kernel_rfl) (Nat.le_of_ble_eq_true (by kernel_rfl)) (Eq.mpr (e_typebarlaw06_Few n f es k R) h)

def r_typebarlaw08_awake  (R : PV → Prop) : Prop :=
 PCall Try.prog 13 [] fun (v : PV) ↦ ∃ (n : Bool), ∃ (f : Bool), ∃ (es : List (List PV)), v = PV.sl n f es ∧ PCall Try.prog 14 [PV.sl n f es] fun (v1 : PV) ↦ PCall Try.prog 21 [v1, PV.sl false true [[PV.int .i32 (101 : Int)], [PV.int .i32
 (769 : Int)]]] fun (v2 : PV) ↦ ∃ (n1 : Int), v2 = PV.int .i64 n1 ∧ if (n1 == (2 : Int)) = true then PCall Try.prog 21 [v1, PV.sl false true [[PV.int .i32 (233 : Int)]]] fun (v3 : PV) ↦ ∃ (n2 : Int), v3 = PV.int .i64 n2 ∧ if (n2 == (0 :
 Int)) = true then PCall Try.prog 21 [v1, PV.sl false true [[PV.int .i32 (769 : Int)], [PV.int .i32 (807 : Int)]]] fun (v4 : PV) ↦ ∃ (n3 : Int), v4 = PV.int .i64 n3 ∧ if (n3 == (1 : Int)) = true then PCall Try.prog 21 [v1, PV.sl false true
 [[PV.int .i32 (8491 : Int)]]] fun (v5 : PV) ↦ ∃ (n4 : Int), v5 = PV.int .i64 n4 ∧ if (n4 == (1 : Int)) = true then PCall Try.prog 17 [v1, PV.int .i32 (101 : Int)] fun (v6 : PV) ↦ ∃ (b : Bool), v6 = PV.bool b ∧ if b = true then PCall
 Try.prog 17 [v1, PV.int .i32 (769 : Int)] fun (v7 : PV) ↦ ∃ (b1 : Bool), v7 = PV.bool b1 ∧ if (!b1) = true then PCall Try.prog 17 [v1, PV.int .i32 (4449 : Int)] fun (v8 : PV) ↦ ∃ (b2 : Bool), v8 = PV.bool b2 ∧ R (PV.bool !b2) else R
 (PV.bool false) else R (PV.bool false) else R (PV.bool false) else R (PV.bool false) else R (PV.bool false) else R (PV.bool false)
theorem e_typebarlaw08_awake  (R : PV → Prop) : aFn Try.prog (fun _ => none) Try.f19 [0, 1] (fun _ => none) (Try.f19.body.getD .skip) [] R = r_typebarlaw08_awake  R := by kernel_rfl
theorem a_typebarlaw08_awake  {R : PV → Prop} (h : r_typebarlaw08_awake  R) : PCall Try.prog 19 [] R :=
  PCall.of Try.func19 (by kernel_rfl) (by kernel_rfl) (Nat.le_of_ble_eq_true (by kernel_rfl)) (Eq.mpr (e_typebarlaw08_awake  R) h)

def r_typebarlaw08_QuickOf (n f : Bool) (es : List (List PV)) (J : (Bool) → (Bool) → (List (List PV)) → (PV) → (Int) → Prop) (μ : (Bool) → (Bool) → (List (List PV)) → (PV) → (Int) → Nat) (R : PV → Prop) : Prop :=
 PCall Try.prog 13 [] fun (v : PV) ↦ ∃ (n1 : Bool), ∃ (f1 : Bool), ∃ (es1 : List (List PV)), v = PV.sl n1 f1 es1 ∧ PCall Try.prog 14 [PV.sl n1 f1 es1] fun (v1 : PV) ↦ (Same1 ([(0, LV.pv (PV.sl n f es)), (3, LV.pv (PV.sl n1 f1 es1)), (4,
 LV.pv v1), (5, LV.pv (PV.int .i64 (0 : Int)))], []) ∧ J n1 f1 es1 v1 (0 : Int)) ∧ ∀ (n3 f3 : Bool) (s3 : List (List PV)) (x4 : PV) (x5 : Int), J n3 f3 s3 x4 x5 → if (decide (x5 < (↑es.length : Int)) && decide (x5 < (60 : Int))) = true then
 idxOK es x5 1 ∧ ∃ (n2 : Int), (es.getD x5.toNat []).head? = some (PV.int .i32 n2) ∧ idxOK es x5 1 ∧ ∃ (n4 : Int), (es.getD x5.toNat []).head? = some (PV.int .i32 n4) ∧ PCall Try.prog 15 [x4, PV.int .i32 n2] fun (v2 : PV) ↦ ∃ (n5 : Int), v2
 = PV.int .i64 n5 ∧ PCall Try.prog 16 [PV.sl n3 f3 s3, PV.int .i32 n4] fun (v3 : PV) ↦ ∃ (n6 : Int), v3 = PV.int .i64 n6 ∧ if (n5 != n6) = true then R (PV.bool false) else idxOK es x5 1 ∧ ∃ (n7 : Int), (es.getD x5.toNat []).head? = some
 (PV.int .i32 n7) ∧ idxOK es x5 1 ∧ ∃ (n8 : Int), (es.getD x5.toNat []).head? = some (PV.int .i32 n8) ∧ PCall Try.prog 17 [x4, PV.int .i32 n7] fun (v4 : PV) ↦ ∃ (b : Bool), v4 = PV.bool b ∧ PCall Try.prog 18 [PV.sl n3 f3 s3, PV.int .i32 n8]
 fun (v5 : PV) ↦ ∃ (b1 : Bool), v5 = PV.bool b1 ∧ if (b != b1) = true then R (PV.bool false) else Same1 ([(0, LV.pv (PV.sl n f es)), (3, LV.pv (PV.sl n3 f3 s3)), (4, LV.pv x4), (5, LV.pv (PV.int .i64 (IntKind.i64.wrap (x5 + (1 : Int)))))],
 []) ∧ J n3 f3 s3 x4 (IntKind.i64.wrap (x5 + (1 : Int))) ∧ μ n3 f3 s3 x4 (IntKind.i64.wrap (x5 + (1 : Int))) < μ n3 f3 s3 x4 x5 else PCall Try.prog 19 [] fun (v2 : PV) ↦ ∃ (b : Bool), v2 = PV.bool b ∧ R (PV.bool b)
theorem e_typebarlaw08_QuickOf (n f : Bool) (es : List (List PV)) (J : (Bool) → (Bool) → (List (List PV)) → (PV) → (Int) → Prop) (μ : (Bool) → (Bool) → (List (List PV)) → (PV) → (Int) → Nat) (R : PV → Prop) : aFn Try.prog (fun _ => none) Try.f3 [0, 2, 3, 4, 5, 16, 46] (fun zz_ => match zz_ with | 4 => some ⟨Bool × Bool × (List (List PV)) × PV × Int, fun s => (fun (n3 : Bool) (f3 : Bool) (s3 : List (List PV)) (x4 : PV) (x5 : Int) => ([(0, LV.pv (PV.sl n f es)), (3, .pv (.sl n3 f3 s3)), (4, .pv x4), (5, .pv (.int IntKind.i64 x5))], [])) s.1 s.2.1 s.2.2.1 s.2.2.2.1 s.2.2.2.2, fun _ s => J s.1 s.2.1 s.2.2.1 s.2.2.2.1 s.2.2.2.2, fun s => μ s.1 s.2.1 s.2.2.1 s.2.2.2.1 s.2.2.2.2, fun e h => (gN e 3, gF e 3, gS e 3, gP e 4, gI e 5), [], [0, 3, 4, 5], [], fun p => ∀ (n3 : Bool) (f3 : Bool) (s3 : List (List PV)) (x4 : PV) (x5 : Int), p (n3, f3, s3, x4, x5), fun p h s => h s.1 s.2.1 s.2.2.1 s.2.2.2.1 s.2.2.2.2⟩ | _ => none) (Try.f3.body.getD .skip) [.sl n f es] R = r_typebarlaw08_QuickOf n f es J μ R := by kernel_rfl
theorem a_typebarlaw08_QuickOf (n f : Bool) (es : List (List PV)) (J : (Bool) → (Bool) → (List (List PV)) → (PV) → (Int) → Prop) (μ : (Bool) → (Bool) → (List (List PV)) → (PV) → (Int) → Nat) {R : PV → Prop} (h : r_typebarlaw08_QuickOf n f es J μ R) : PCall Try.prog 3 [.sl n f es] R :=
  PCall.of Try.func3 (by kernel_rfl) (by kernel_rfl) (Nat.le_of_ble_eq_true (by kernel_rfl)) (Eq.mpr (e_typebarlaw08_QuickOf n f es J μ R) h)

def r_typebarlaw08_QuickCheck (n f : Bool) (es : List (List PV)) (R : PV → Prop) : Prop :=
 PCall Try.prog 20 [PV.sl n f es, PV.int .i64 (150 : Int)] fun (v : PV) ↦ ∃ (n1 : Bool), ∃ (f1 : Bool), ∃ (es1 : List (List PV)), v = PV.sl n1 f1 es1 ∧ PCall Try.prog 13 [] fun (v1 : PV) ↦ ∃ (n2 : Bool), ∃ (f2 : Bool), ∃ (es2 : List (List
 PV)), v1 = PV.sl n2 f2 es2 ∧ PCall Try.prog 14 [PV.sl n2 f2 es2] fun (v2 : PV) ↦ PCall Try.prog 21 [v2, PV.sl n1 f1 es1] fun (v3 : PV) ↦ ∃ (n3 : Int), v3 = PV.int .i64 n3 ∧ PCall Try.prog 22 [PV.sl n2 f2 es2, PV.sl n1 f1 es1] fun (v4 : PV)
 ↦ ∃ (n4 : Int), v4 = PV.int .i64 n4 ∧ if (n3 == n4) = true then PCall Try.prog 19 [] fun (v5 : PV) ↦ ∃ (b : Bool), v5 = PV.bool b ∧ R (PV.bool b) else R (PV.bool false)
theorem e_typebarlaw08_QuickCheck (n f : Bool) (es : List (List PV)) (R : PV → Prop) : aFn Try.prog (fun _ => none) Try.f4 [0, 2, 3] (fun _ => none) (Try.f4.body.getD .skip) [.sl n f es] R = r_typebarlaw08_QuickCheck n f es R := by kernel_rfl
theorem a_typebarlaw08_QuickCheck (n f : Bool) (es : List (List PV)) {R : PV → Prop} (h : r_typebarlaw08_QuickCheck n f es R) : PCall Try.prog 4 [.sl n f es] R :=
  PCall.of Try.func4 (by kernel_rfl) (by kernel_rfl) (Nat.le_of_ble_eq_true (by kernel_rfl)) (Eq.mpr (e_typebarlaw08_QuickCheck n f es R) h)

def r_typebarlaw08_QuickPoints (n f : Bool) (es : List (List PV)) (J : (Bool) → (Bool) → (List (List PV)) → (Bool) → (Bool) → (List (List PV)) → (Bool) → (Bool) → (List (List PV)) → (Int) → (Int) → Prop) (μ : (Bool) → (Bool) → (List (List PV)) → (Bool) → (Bool) → (List (List PV)) → (Bool) → (Bool) → (List (List PV)) → (Int) → (Int) → Nat) (R : PV → Prop) : Prop :=
 PCall Try.prog 20 [PV.sl n f es, PV.int .i64 (150 : Int)] fun (v : PV) ↦ ∃ (n1 : Bool), ∃ (f1 : Bool), ∃ (es1 : List (List PV)), v = PV.sl n1 f1 es1 ∧ PCall Try.prog 13 [] fun (v1 : PV) ↦ ∃ (n2 : Bool), ∃ (f2 : Bool), ∃ (es2 : List (List
 PV)), v1 = PV.sl n2 f2 es2 ∧ PCall Try.prog 14 [PV.sl n2 f2 es2] fun (v2 : PV) ↦ PCall Try.prog 23 [v2, PV.sl n1 f1 es1] fun (v3 : PV) ↦ ∃ (n3 : Bool), ∃ (f3 : Bool), ∃ (es3 : List (List PV)), v3 = PV.sl n3 f3 es3 ∧ (Same1 ([(0, LV.pv
 (PV.sl n1 f1 es1)), (3, LV.pv (PV.sl n2 f2 es2)), (4, LV.pv (PV.sl n3 f3 es3)), (5, LV.pv (PV.int .i64 (0 : Int))), (6, LV.pv (PV.int .i64 (0 : Int)))], []) ∧ J n1 f1 es1 n2 f2 es2 n3 f3 es3 (0 : Int) (0 : Int)) ∧ ∀ (n0 f0 : Bool) (s0 :
 List (List PV)) (n31 f31 : Bool) (s3 : List (List PV)) (n4 f4 : Bool) (s4 : List (List PV)) (x5 x6 : Int), J n0 f0 s0 n31 f31 s3 n4 f4 s4 x5 x6 → if decide (x6 < (↑s0.length : Int)) = true then idxOK s0 x6 1 ∧ ∃ (n5 : Int), (s0.getD
 x6.toNat []).head? = some (PV.int .i32 n5) ∧ PCall Try.prog 18 [PV.sl n31 f31 s3, PV.int .i32 n5] fun (v4 : PV) ↦ ∃ (b : Bool), v4 = PV.bool b ∧ if b = true then if decide (x5 ≥ (↑s4.length : Int)) = true then R (PV.bool false) else idxOK
 s4 x5 1 ∧ ∃ (n6 : Int), (s4.getD x5.toNat []).head? = some (PV.int .i64 n6) ∧ if (n6 != x6) = true then R (PV.bool false) else Same1 ([(0, LV.pv (PV.sl n0 f0 s0)), (3, LV.pv (PV.sl n31 f31 s3)), (4, LV.pv (PV.sl n4 f4 s4)), (5, LV.pv
 (PV.int .i64 (IntKind.i64.wrap (x5 + (1 : Int))))), (6, LV.pv (PV.int .i64 (IntKind.i64.wrap (x6 + (1 : Int)))))], []) ∧ J n0 f0 s0 n31 f31 s3 n4 f4 s4 (IntKind.i64.wrap (x5 + (1 : Int))) (IntKind.i64.wrap (x6 + (1 : Int))) ∧ μ n0 f0 s0 n31
 f31 s3 n4 f4 s4 (IntKind.i64.wrap (x5 + (1 : Int))) (IntKind.i64.wrap (x6 + (1 : Int))) < μ n0 f0 s0 n31 f31 s3 n4 f4 s4 x5 x6 else Same1 ([(0, LV.pv (PV.sl n0 f0 s0)), (3, LV.pv (PV.sl n31 f31 s3)), (4, LV.pv (PV.sl n4 f4 s4)), (5, LV.pv
 (PV.int .i64 x5)), (6, LV.pv (PV.int .i64 (IntKind.i64.wrap (x6 + (1 : Int)))))], []) ∧ J n0 f0 s0 n31 f31 s3 n4 f4 s4 x5 (IntKind.i64.wrap (x6 + (1 : Int))) ∧ μ n0 f0 s0 n31 f31 s3 n4 f4 s4 x5 (IntKind.i64.wrap (x6 + (1 : Int))) < μ n0 f0
 s0 n31 f31 s3 n4 f4 s4 x5 x6 else if (x5 == (↑s4.length : Int)) = true then PCall Try.prog 19 [] fun (v4 : PV) ↦ ∃ (b : Bool), v4 = PV.bool b ∧ R (PV.bool b) else R (PV.bool false)
theorem e_typebarlaw08_QuickPoints (n f : Bool) (es : List (List PV)) (J : (Bool) → (Bool) → (List (List PV)) → (Bool) → (Bool) → (List (List PV)) → (Bool) → (Bool) → (List (List PV)) → (Int) → (Int) → Prop) (μ : (Bool) → (Bool) → (List (List PV)) → (Bool) → (Bool) → (List (List PV)) → (Bool) → (Bool) → (List (List PV)) → (Int) → (Int) → Nat) (R : PV → Prop) : aFn Try.prog (fun _ => none) Try.f5 [0, 2, 3, 4, 5, 6, 17, 25, 37] (fun zz_ => match zz_ with | 6 => some ⟨Bool × Bool × (List (List PV)) × Bool × Bool × (List (List PV)) × Bool × Bool × (List (List PV)) × Int × Int, fun s => (fun (n0 : Bool) (f0 : Bool) (s0 : List (List PV)) (n3 : Bool) (f3 : Bool) (s3 : List (List PV)) (n4 : Bool) (f4 : Bool) (s4 : List (List PV)) (x5 : Int) (x6 : Int) => ([(0, .pv (.sl n0 f0 s0)), (3, .pv (.sl n3 f3 s3)), (4, .pv (.sl n4 f4 s4)), (5, .pv (.int IntKind.i64 x5)), (6, .pv (.int IntKind.i64 x6))], [])) s.1 s.2.1 s.2.2.1 s.2.2.2.1 s.2.2.2.2.1 s.2.2.2.2.2.1 s.2.2.2.2.2.2.1 s.2.2.2.2.2.2.2.1 s.2.2.2.2.2.2.2.2.1 s.2.2.2.2.2.2.2.2.2.1 s.2.2.2.2.2.2.2.2.2.2, fun _ s => J s.1 s.2.1 s.2.2.1 s.2.2.2.1 s.2.2.2.2.1 s.2.2.2.2.2.1 s.2.2.2.2.2.2.1 s.2.2.2.2.2.2.2.1 s.2.2.2.2.2.2.2.2.1 s.2.2.2.2.2.2.2.2.2.1 s.2.2.2.2.2.2.2.2.2.2, fun s => μ s.1 s.2.1 s.2.2.1 s.2.2.2.1 s.2.2.2.2.1 s.2.2.2.2.2.1 s.2.2.2.2.2.2.1 s.2.2.2.2.2.2.2.1 s.2.2.2.2.2.2.2.2.1 s.2.2.2.2.2.2.2.2.2.1 s.2.2.2.2.2.2.2.2.2.2, fun e h => (gN e 0, gF e 0, gS e 0, gN e 3, gF e 3, gS e 3, gN e 4, gF e 4, gS e 4, gI e 5, gI e 6), [], [0, 3, 4, 5, 6], [], fun p => ∀ (n0 : Bool) (f0 : Bool) (s0 : List (List PV)) (n3 : Bool) (f3 : Bool) (s3 : List (List PV)) (n4 : Bool) (f4 : Bool) (s4 : List (List PV)) (x5 : Int) (x6 : Int), p (n0, f0, s0, n3, f3, s3, n4, f4, s4, x5, x6), fun p h s => h s.1 s.2.1 s.2.2.1 s.2.2.2.1 s.2.2.2.2.1 s.2.2.2.2.2.1 s.2.2.2.2.2.2.1 s.2.2.2.2.2.2.2.1 s.2.2.2.2.2.2.2.2.1 s.2.2.2.2.2.2.2.2.2.1 s.2.2.2.2.2.2.2.2.2.2⟩ | _ => none) (Try.f5.body.getD .skip) [.sl n f es] R = r_typebarlaw08_QuickPoints n f es J μ R := by kernel_rfl
theorem a_typebarlaw08_QuickPoints (n f : Bool) (es : List (List PV)) (J : (Bool) → (Bool) → (List (List PV)) → (Bool) → (Bool) → (List (List PV)) → (Bool) → (Bool) → (List (List PV)) → (Int) → (Int) → Prop) (μ : (Bool) → (Bool) → (List (List PV)) → (Bool) → (Bool) → (List (List PV)) → (Bool) → (Bool) → (List (List PV)) → (Int) → (Int) → Nat) {R : PV → Prop} (h : r_typebarlaw08_QuickPoints n f es J μ R) : PCall Try.prog 5 [.sl n f es] R :=
  PCall.of Try.func5 (by kernel_rfl) (by kernel_rfl) (Nat.le_of_ble_eq_true (by kernel_rfl)) (Eq.mpr (e_typebarlaw08_QuickPoints n f es J μ R) h)

def r_typebarref01_Same (n f : Bool) (es : List (List PV)) (n2 f2 : Bool) (es2 : List (List PV)) (J : (Int) → Prop) (μ : (Int) → Nat) (R : PV → Prop) : Prop :=
 if ((↑es.length : Int) != (↑es2.length : Int)) = true then R (PV.bool false) else (Same1 ([(0, LV.pv (PV.sl n f es)), (1, LV.pv (PV.sl n2 f2 es2)), (5, LV.pv (PV.int .i64 (0 : Int)))], []) ∧ J (0 : Int)) ∧ ∀ (x5 : Int), J x5 → if decide (x5
 < (↑es.length : Int)) = true then idxOK es x5 1 ∧ ∃ (n1 : Int), (es.getD x5.toNat []).head? = some (PV.int .i32 n1) ∧ idxOK es2 x5 1 ∧ ∃ (n3 : Int), (es2.getD x5.toNat []).head? = some (PV.int .i32 n3) ∧ if (n1 != n3) = true then R (PV.bool
 false) else Same1 ([(0, LV.pv (PV.sl n f es)), (1, LV.pv (PV.sl n2 f2 es2)), (5, LV.pv (PV.int .i64 (IntKind.i64.wrap (x5 + (1 : Int)))))], []) ∧ J (IntKind.i64.wrap (x5 + (1 : Int))) ∧ μ (IntKind.i64.wrap (x5 + (1 : Int))) < μ x5 else R
 (PV.bool true)
theorem e_typebarref01_Same (n f : Bool) (es : List (List PV)) (n2 f2 : Bool) (es2 : List (List PV)) (J : (Int) → Prop) (μ : (Int) → Nat) (R : PV → Prop) : aFn Try.prog (fun _ => none) Try.f24 [0, 1, 4, 5, 10, 14, 25] (fun zz_ => match zz_ with | 4 => some ⟨Int × Unit, fun s => (fun (x5 : Int) => ([(0, LV.pv (PV.sl n f es)), (1, LV.pv (PV.sl n2 f2 es2)), (5, .pv (.int IntKind.i64 x5))], [])) s.1, fun _ s => J s.1, fun s => μ s.1, fun e h => (((gI e 5), ())), [], [0, 1, 5], [], fun p => ∀ (x5 : Int), p (x5, ()), fun p h s => h s.1⟩ | _ => none) (Try.f24.body.getD .skip) [.sl n f es, .sl n2 f2 es2] R = r_typebarref01_Same n f es n2 f2 es2 J μ R := by kernel_rfl
theorem a_typebarref01_Same (n f : Bool) (es : List (List PV)) (n2 f2 : Bool) (es2 : List (List PV)) (J : (Int) → Prop) (μ : (Int) → Nat) {R : PV → Prop} (h : r_typebarref01_Same n f es n2 f2 es2 J μ R) : PCall Try.prog 24 [.sl n f es, .sl n2 f2 es2] R :=
  PCall.of Try.func24 (by kernel_rfl) (by kernel_rfl) (Nat.le_of_ble_eq_true (by kernel_rfl)) (Eq.mpr (e_typebarref01_Same n f es n2 f2 es2 J μ R) h)

def r_typebarlaw06_awake  (R : PV → Prop) : Prop :=
 PCall Try.prog 13 [] fun (v : PV) ↦ ∃ (n : Bool), ∃ (f : Bool), ∃ (es : List (List PV)), v = PV.sl n f es ∧ PCall Try.prog 14 [PV.sl n f es] fun (v1 : PV) ↦ PCall Try.prog 30 [v1, PV.sl false true [[PV.int .i32 (7863 : Int)]]] fun (v2 : PV)
 ↦ ∃ (n1 : Bool), ∃ (f1 : Bool), ∃ (es1 : List (List PV)), v2 = PV.sl n1 f1 es1 ∧ PCall Try.prog 24 [PV.sl n1 f1 es1, PV.sl false true [[PV.int .i32 (97 : Int)], [PV.int .i32 (803 : Int)], [PV.int .i32 (774 : Int)]]] fun (v3 : PV) ↦ ∃ (b :
 Bool), v3 = PV.bool b ∧ if b = true then PCall Try.prog 30 [v1, PV.sl false true [[PV.int .i32 (97 : Int)], [PV.int .i32 (774 : Int)], [PV.int .i32 (803 : Int)]]] fun (v4 : PV) ↦ ∃ (n2 : Bool), ∃ (f2 : Bool), ∃ (es2 : List (List PV)), v4 =
 PV.sl n2 f2 es2 ∧ PCall Try.prog 24 [PV.sl n2 f2 es2, PV.sl false true [[PV.int .i32 (97 : Int)], [PV.int .i32 (803 : Int)], [PV.int .i32 (774 : Int)]]] fun (v5 : PV) ↦ ∃ (b1 : Bool), v5 = PV.bool b1 ∧ if b1 = true then PCall Try.prog 25
 [v1, PV.int .i32 (8491 : Int)] fun (v6 : PV) ↦ ∃ (n3 : Bool), ∃ (f3 : Bool), ∃ (es3 : List (List PV)), v6 = PV.sl n3 f3 es3 ∧ PCall Try.prog 24 [PV.sl n3 f3 es3, PV.sl false true [[PV.int .i32 (65 : Int)], [PV.int .i32 (778 : Int)]]] fun
 (v7 : PV) ↦ ∃ (b2 : Bool), v7 = PV.bool b2 ∧ R (PV.bool b2) else R (PV.bool false) else R (PV.bool false)
theorem e_typebarlaw06_awake  (R : PV → Prop) : aFn Try.prog (fun _ => none) Try.f27 [0, 1] (fun _ => none) (Try.f27.body.getD .skip) [] R = r_typebarlaw06_awake  R := by kernel_rfl
theorem a_typebarlaw06_awake  {R : PV → Prop} (h : r_typebarlaw06_awake  R) : PCall Try.prog 27 [] R :=
  PCall.of Try.func27 (by kernel_rfl) (by kernel_rfl) (Nat.le_of_ble_eq_true (by kernel_rfl)) (Eq.mpr (e_typebarlaw06_awake  R) h)

def r_typebarlaw06_DecompFull (n f : Bool) (es : List (List PV)) (J : (Bool) → (Bool) → (List (List PV)) → (PV) → (Int) → Prop) (μ : (Bool) → (Bool) → (List (List PV)) → (PV) → (Int) → Nat) (R : PV → Prop) : Prop :=
 PCall Try.prog 13 [] fun (v : PV) ↦ ∃ (n1 : Bool), ∃ (f1 : Bool), ∃ (es1 : List (List PV)), v = PV.sl n1 f1 es1 ∧ PCall Try.prog 14 [PV.sl n1 f1 es1] fun (v1 : PV) ↦ (Same1 ([(0, LV.pv (PV.sl n f es)), (3, LV.pv (PV.sl n1 f1 es1)), (4,
 LV.pv v1), (5, LV.pv (PV.int .i64 (0 : Int)))], []) ∧ J n1 f1 es1 v1 (0 : Int)) ∧ ∀ (n3 f3 : Bool) (s3 : List (List PV)) (x4 : PV) (x5 : Int), J n3 f3 s3 x4 x5 → if (decide (x5 < (↑es.length : Int)) && decide (x5 < (60 : Int))) = true then
 idxOK es x5 1 ∧ ∃ (n2 : Int), (es.getD x5.toNat []).head? = some (PV.int .i32 n2) ∧ idxOK es x5 1 ∧ ∃ (n4 : Int), (es.getD x5.toNat []).head? = some (PV.int .i32 n4) ∧ PCall Try.prog 25 [x4, PV.int .i32 n2] fun (v2 : PV) ↦ ∃ (n5 : Bool), ∃
 (f2 : Bool), ∃ (es2 : List (List PV)), v2 = PV.sl n5 f2 es2 ∧ ACall Try.prog 26 [LV.pv (PV.sl n3 f3 s3), LV.pv (PV.int .i32 n4), LV.pv (PV.int .i64 (8 : Int))] [] fun (r : LV) (h' : Hp) ↦ (∃ (t : Bool × List (List PV)), (r = LV.own 0 ∧ h' =
 [Ob.sl ((21 : Nat), 1) true t.fst t.snd]) ∧ True ∧ PCall Try.prog 24 [PV.sl n5 f2 es2, PV.sl t.fst false t.snd] fun (v3 : PV) ↦ ∃ (b : Bool), v3 = PV.bool b ∧ true = true ∧ if (!b) = true then R (PV.bool false) else Same1 ([(0, LV.pv (PV.sl
 n f es)), (3, LV.pv (PV.sl n3 f3 s3)), (4, LV.pv x4), (5, LV.pv (PV.int .i64 (IntKind.i64.wrap (x5 + (1 : Int)))))], []) ∧ J n3 f3 s3 x4 (IntKind.i64.wrap (x5 + (1 : Int))) ∧ μ n3 f3 s3 x4 (IntKind.i64.wrap (x5 + (1 : Int))) < μ n3 f3 s3 x4
 x5) ∨ ∃ (t : List (List PV)), (r = LV.pv (PV.sl false true t) ∧ h' = []) ∧ True ∧ PCall Try.prog 24 [PV.sl n5 f2 es2, PV.sl false true t] fun (v3 : PV) ↦ ∃ (b : Bool), v3 = PV.bool b ∧ if (!b) = true then R (PV.bool false) else Same1 ([(0,
 LV.pv (PV.sl n f es)), (3, LV.pv (PV.sl n3 f3 s3)), (4, LV.pv x4), (5, LV.pv (PV.int .i64 (IntKind.i64.wrap (x5 + (1 : Int)))))], []) ∧ J n3 f3 s3 x4 (IntKind.i64.wrap (x5 + (1 : Int))) ∧ μ n3 f3 s3 x4 (IntKind.i64.wrap (x5 + (1 : Int))) <
 μ n3 f3 s3 x4 x5 else PCall Try.prog 27 [] fun (v2 : PV) ↦ ∃ (b : Bool), v2 = PV.bool b ∧ R (PV.bool b)
theorem e_typebarlaw06_DecompFull (n f : Bool) (es : List (List PV)) (J : (Bool) → (Bool) → (List (List PV)) → (PV) → (Int) → Prop) (μ : (Bool) → (Bool) → (List (List PV)) → (PV) → (Int) → Nat) (R : PV → Prop) : aFn Try.prog (fun zz_ => match zz_ with | 26 => some ⟨Bool × List (List PV), fun _ hs t => (.own hs.length, hs ++ [.sl (21, 1) true t.1 t.2]), some ⟨List (List PV), fun _ hs t => (.pv (.sl false true t), hs)⟩⟩ | _ => none) Try.f6 [0, 2, 3, 4, 5, 16, 32] (fun zz_ => match zz_ with | 4 => some ⟨Bool × Bool × (List (List PV)) × PV × Int, fun s => (fun (n3 : Bool) (f3 : Bool) (s3 : List (List PV)) (x4 : PV) (x5 : Int) => ([(0, LV.pv (PV.sl n f es)), (3, .pv (.sl n3 f3 s3)), (4, .pv x4), (5, .pv (.int IntKind.i64 x5))], [])) s.1 s.2.1 s.2.2.1 s.2.2.2.1 s.2.2.2.2, fun _ s => J s.1 s.2.1 s.2.2.1 s.2.2.2.1 s.2.2.2.2, fun s => μ s.1 s.2.1 s.2.2.1 s.2.2.2.1 s.2.2.2.2, fun e h => (gN e 3, gF e 3, gS e 3, gP e 4, gI e 5), [], [0, 3, 4, 5], [], fun p => ∀ (n3 : Bool) (f3 : Bool) (s3 : List (List PV)) (x4 : PV) (x5 : Int), p (n3, f3, s3, x4, x5), fun p h s => h s.1 s.2.1 s.2.2.1 s.2.2.2.1 s.2.2.2.2⟩ | _ => none) (Try.f6.body.getD .skip) [.sl n f es] R = r_typebarlaw06_DecompFull n f es J μ R := by kernel_rfl
theorem a_typebarlaw06_DecompFull (n f : Bool) (es : List (List PV)) (J : (Bool) → (Bool) → (List (List PV)) → (PV) → (Int) → Prop) (μ : (Bool) → (Bool) → (List (List PV)) → (PV) → (Int) → Nat) {R : PV → Prop} (h : r_typebarlaw06_DecompFull n f es J μ R) : PCall Try.prog 6 [.sl n f es] R :=
  PCall.of Try.func6 (by kernel_rfl) (by kernel_rfl) (Nat.le_of_ble_eq_true (by kernel_rfl)) (Eq.mpr (e_typebarlaw06_DecompFull n f es J μ R) h)

end Go.Eng
set_option linter.unusedVariables false
set_option linter.unusedSimpArgs false
set_option maxRecDepth 100000
set_option linter.constructorNameAsVariable false
namespace Go.Eng
open Go Go.Proofs Go.Eng.Rows Go.Eng.Trie
def lastQ (rows : List Row) (l : List Int) (i : Int) : Int := if i ≤ 0 then 0 else numG rows 1 (l.getD (i - 1).toNat 0)
theorem pCheck8 {rows : List Row} (hp : PairRows rows) (h1 : PairOne rows) (hc0 : ClsPos rows) (n f n2 f2 : Bool) (l : List Int) (hll : l.length < 1000000000) (hl : rows.length < 1000000) (hr : R32 l) : PCall Try.prog 22 [.sl n f (rws rows), .sl n2 f2 (i32s l)] fun v => v = .int .i64 (checkQ rows false 0 l) := by
  refine a_typebarref08_Check _ _ _ _ _ _ (fun m i => 0 ≤ i ∧ i ≤ l.length ∧ checkQ rows false 0 l = checkQ rows m (lastQ rows l i) (l.drop i.toNat)) (fun _ i => l.length - i.toNat) ?_
  unfold r_typebarref08_Check
  refine ⟨⟨rfl, Int.le_refl _, by omega, rfl⟩, ?_⟩
  rintro m i ⟨i0, i1, he⟩
  refine iteD (fun hc => ?_) (fun hc => ?_)
  · simp only [decide_eq_true_eq, i32s_length] at hc
    have hi : i.toNat < l.length := by omega
    have hw : IntKind.i64.wrap (i + 1) = i + 1 := wrap_i64 (by omega) (by omega)
    have hn : (i + 1).toNat = i.toNat + 1 := by omega
    obtain ⟨g1, g2⟩ := i32_at i0 hi
    have hx := hr _ (List.getElem_mem hi)
    have hlast : lastQ rows l (i + 1) = numG rows 1 l[i.toNat] := by
      unfold lastQ; rw [if_neg (by omega), show (i + 1 - 1).toNat = i.toNat by omega]; simp [hi]
    rw [drop_one hi, checkQ, ← hn] at he
    have hmu : l.length - (i + 1).toNat < l.length - i.toNat := by omega
    refine ⟨g1, l[i.toNat], by rw [g2]; rfl, ?_⟩
    refine (pOf8 hp h1 n f _ hl hx).mono ?_
    rintro _ rfl
    refine ⟨_, rfl, iteD (fun h3 => ?_) (fun h3 => ?_)⟩
    · simp only [beq_iff_eq] at h3
      rw [he, if_pos (by simp [h3])]
    · simp only [beq_iff_eq] at h3
      rw [hw]
      have fin : (!decide (numG rows 1 l[i.toNat] = 0) && decide (numG rows 1 l[i.toNat] < lastQ rows l i)) = false →
          (ofQ rows l[i.toNat] = 2 → 0 ≤ i + 1 ∧ i + 1 ≤ l.length ∧ checkQ rows false 0 l = checkQ rows true (lastQ rows l (i + 1)) (l.drop (i + 1).toNat)) ∧
          (ofQ rows l[i.toNat] ≠ 2 → 0 ≤ i + 1 ∧ i + 1 ≤ l.length ∧ checkQ rows false 0 l = checkQ rows m (lastQ rows l (i + 1)) (l.drop (i + 1).toNat)) := fun h => by
        rw [hlast]
        rw [h, Bool.or_false, if_neg (by simp [h3])] at he
        exact ⟨fun h4 => ⟨by omega, by omega, by rw [he, h4]; simp⟩, fun h4 => ⟨by omega, by omega, by rw [he]; simp [h4]⟩⟩
      have tail : ∀ {A B : Prop}, (!decide (numG rows 1 l[i.toNat] = 0) && decide (numG rows 1 l[i.toNat] < lastQ rows l i)) = false →
          ((0 ≤ i + 1 ∧ i + 1 ≤ l.length ∧ checkQ rows false 0 l = checkQ rows true (lastQ rows l (i + 1)) (l.drop (i + 1).toNat)) → A) → ((0 ≤ i + 1 ∧ i + 1 ≤ l.length ∧ checkQ rows false 0 l = checkQ rows m (lastQ rows l (i + 1)) (l.drop (i + 1).toNat)) → B) →
          if (ofQ rows l[i.toNat] == 2) = true then A else B := fun h ha hb => by
        obtain ⟨f1, f2⟩ := fin h
        exact iteD (fun h4 => ha (f1 (by simpa using h4))) (fun h4 => hb (f2 (by simpa using h4)))
      refine iteD (fun h4 => ?_) (fun h4 => ?_)
      · simp only [decide_eq_true_eq] at h4
        refine ⟨g1, l[i.toNat], by rw [g2]; rfl, ?_⟩
        refine (pClass6 n f _ hl hx).mono ?_
        rintro _ rfl
        refine ⟨_, rfl, iteD (fun h5 => ?_) (fun h5 => ?_)⟩
        · simp only [bne_iff_ne, ne_eq] at h5
          have hi1 : (i - 1).toNat < l.length := by omega
          have hw1 : IntKind.i64.wrap (i - 1) = i - 1 := wrap_i64 (by omega) (by omega)
          obtain ⟨k1, k2⟩ := i32_at (l := l) (i := i - 1) (by omega) hi1
          have hx1 := hr _ (List.getElem_mem hi1)
          have hlq : lastQ rows l i = numG rows 1 l[(i - 1).toNat] := by
            unfold lastQ; rw [if_neg (by omega), List.getD_eq_getElem?_getD, List.getElem?_eq_getElem hi1]; rfl
          rw [hw1]
          refine ⟨k1, l[(i - 1).toNat], by rw [k2]; rfl, g1, l[i.toNat], by rw [g2]; rfl, ?_⟩
          refine (pClass6 n f _ hl hx1).mono ?_
          rintro _ rfl
          refine ⟨_, rfl, ?_⟩
          refine (pClass6 n f _ hl hx).mono ?_
          rintro _ rfl
          generalize numG rows 1 l[(i - 1).toNat] = q at hlq ⊢
          refine ⟨_, rfl, iteD (fun h6 => ?_) (fun h6 => ?_)⟩
          · simp only [decide_eq_true_eq] at h6
            rw [he, if_pos (by rw [hlq]; simp [h5]; right; omega)]
          · simp only [decide_eq_true_eq] at h6
            exact tail (by rw [hlq]; simp [h5]; omega) (fun h => ⟨rfl, h, hmu⟩) (fun h => ⟨rfl, h, hmu⟩)
        · simp only [bne_iff_ne, ne_eq, Decidable.not_not] at h5
          exact tail (by simp [h5]) (fun h => ⟨rfl, h, hmu⟩) (fun h => ⟨rfl, h, hmu⟩)
      · simp only [decide_eq_true_eq] at h4
        have hlq : lastQ rows l i = 0 := by unfold lastQ; rw [if_pos (by omega)]
        have := hc0 l[i.toNat]
        exact tail (by rw [hlq]; simp; intro _; omega) (fun h => ⟨rfl, h, hmu⟩) (fun h => ⟨rfl, h, hmu⟩)
  · simp only [decide_eq_true_eq, i32s_length] at hc
    rw [List.drop_of_length_le (by omega)] at he
    rw [he, checkQ]
    cases m
    · exact iteF (by simp) rfl
    · exact iteT rfl rfl
theorem pFew (n f : Bool) (l : List Int) (k : Nat) (hk : k < 1000) : PCall Try.prog 20 [.sl n f (i32s l), .int .i64 k] fun v => ∃ n f, v = .sl n f (i32s (l.take k)) := by
  refine a_typebarlaw06_Few _ _ _ _ ?_; unfold r_typebarlaw06_Few
  refine iteD (fun hc => ?_) (fun hc => ?_)
  · simp only [decide_eq_true_eq, i32s_length] at hc
    refine ⟨⟨by unfold slOK; simp; omega, i32s_sz _⟩, n, _, by rw [show ((k : Int)).toNat = k by omega]; simp only [i32s, List.map_take, List.drop_zero]; rfl⟩
  · simp only [decide_eq_true_eq, i32s_length] at hc
    rw [List.take_of_length_le (by omega)]
    exact ⟨_, _, rfl⟩
end Go.Eng
set_option linter.unusedVariables false
set_option linter.unusedSimpArgs false
set_option maxRecDepth 100000
set_option linter.constructorNameAsVariable false
namespace Go.Eng
open Go Go.Proofs Go.Eng.Rows Go.Eng.Trie
theorem tab_lt : tab.length < 1000000 := by have := tab_len; omega
theorem tBuild (n f : Bool) : PCall Try.prog 14 [.sl n f (rws tab)] (Tables tab) := pBuild n f tab tab_lt tab_pairs
theorem r32_of {l : List Int} (h : ∀ x ∈ l, -2147483648 ≤ x ∧ x ≤ 2147483647) : R32 l := h
theorem R32.take {l : List Int} (h : R32 l) (k : Nat) : R32 (l.take k) := fun x hx => h x (List.mem_of_mem_take hx)
theorem awake8 : PCall Try.prog 19 [] fun v => v = .bool true := by
  refine a_typebarlaw08_awake ?_; unfold r_typebarlaw08_awake
  refine p42.mono ?_
  rintro _ ⟨n, f, rfl⟩
  refine ⟨_, _, _, rfl, ?_⟩
  refine (tBuild n f).mono fun t ht => ?_
  have chk : ∀ (l : List Int), l.length < 10 → R32 l → PCall Try.prog 21 [t, .sl false true (i32s l)] fun x => x = .int .i64 (checkQ tab false 0 l) := fun l h1 h2 => qCheck tab_pairs tab_one ht _ _ l (by omega) h2
  refine (chk [101, 769] (by simp) (fun x hx => by simp at hx; omega)).mono ?_
  rintro _ rfl
  refine ⟨_, rfl, iteT (by rw [q1]; rfl) ?_⟩
  refine (chk [233] (by simp) (fun x hx => by simp at hx; omega)).mono ?_
  rintro _ rfl
  refine ⟨_, rfl, iteT (by rw [q2]; rfl) ?_⟩
  refine (chk [769, 807] (by simp) (fun x hx => by simp at hx; omega)).mono ?_
  rintro _ rfl
  refine ⟨_, rfl, iteT (by rw [q3]; rfl) ?_⟩
  refine (chk [8491] (by simp) (fun x hx => by simp at hx; omega)).mono ?_
  rintro _ rfl
  refine ⟨_, rfl, iteT (by rw [q4]; rfl) ?_⟩
  refine (qStable tab_pairs tab_one ht (r := 101) (by omega)).mono ?_
  rintro _ rfl
  refine ⟨_, rfl, iteT q5 ?_⟩
  refine (qStable tab_pairs tab_one ht (r := 769) (by omega)).mono ?_
  rintro _ rfl
  refine ⟨_, rfl, iteT (by rw [q6]; rfl) ?_⟩
  refine (qStable tab_pairs tab_one ht (r := 4449) (by omega)).mono ?_
  rintro _ rfl
  exact ⟨_, rfl, by rw [q7]; rfl⟩
theorem pQuickOf (n f : Bool) (l : List Int) (hr : R32 l) : PCall Try.prog 3 [.sl n f (i32s l)] fun v => v = .bool true := by
  refine a_typebarlaw08_QuickOf _ _ _ (fun _ _ s3 x4 i => s3 = rws tab ∧ Tables tab x4 ∧ 0 ≤ i ∧ i ≤ l.length) (fun _ _ _ _ i => l.length - i.toNat) ?_
  unfold r_typebarlaw08_QuickOf
  refine p42.mono ?_
  rintro _ ⟨n1, f1, rfl⟩
  refine ⟨_, _, _, rfl, ?_⟩
  refine (tBuild n1 f1).mono fun t ht => ⟨⟨rfl, rfl, ht, Int.le_refl _, by omega⟩, ?_⟩
  clear ht t
  rintro n3 f3 _ t i ⟨rfl, ht, i0, i1⟩
  refine iteD (fun hc => ?_) (fun hc => ?_)
  · simp only [Bool.and_eq_true, decide_eq_true_eq, i32s_length] at hc
    have hi : i.toNat < l.length := by omega
    have hw : IntKind.i64.wrap (i + 1) = i + 1 := wrap_i64 (by omega) (by omega)
    obtain ⟨g1, g2⟩ := i32_at i0 hi
    have hx := hr _ (List.getElem_mem hi)
    refine ⟨g1, l[i.toNat], by rw [g2]; rfl, g1, l[i.toNat], by rw [g2]; rfl, ?_⟩
    rw [hw]
    refine (qOf tab_pairs tab_one ht hx).mono ?_
    rintro _ rfl
    refine ⟨_, rfl, ?_⟩
    refine (pOf8 tab_pairs tab_one _ _ _ tab_lt hx).mono ?_
    rintro _ rfl
    refine ⟨_, rfl, iteF (by simp) ⟨g1, l[i.toNat], by rw [g2]; rfl, g1, l[i.toNat], by rw [g2]; rfl, ?_⟩⟩
    refine (qStable tab_pairs tab_one ht hx).mono ?_
    rintro _ rfl
    refine ⟨_, rfl, ?_⟩
    refine (pStable8 tab_pairs tab_one _ _ _ tab_lt hx).mono ?_
    rintro _ rfl
    exact ⟨_, rfl, iteF (by simp) ⟨rfl, ⟨rfl, ht, by omega, by omega⟩, by dsimp only; omega⟩⟩
  · refine awake8.mono ?_
    rintro _ rfl
    exact ⟨_, rfl, rfl⟩
theorem pQuickCheck (n f : Bool) (l : List Int) (hr : R32 l) : PCall Try.prog 4 [.sl n f (i32s l)] fun v => v = .bool true := by
  refine a_typebarlaw08_QuickCheck _ _ _ ?_; unfold r_typebarlaw08_QuickCheck
  refine (pFew n f l 150 (by omega)).mono ?_
  rintro _ ⟨n1, f1, rfl⟩
  refine ⟨_, _, _, rfl, ?_⟩
  refine p42.mono ?_
  rintro _ ⟨n2, f2, rfl⟩
  refine ⟨_, _, _, rfl, ?_⟩
  refine (tBuild n2 f2).mono fun t ht => ?_
  have hlen : (l.take 150).length < 1000000000 := by rw [List.length_take]; omega
  refine (qCheck tab_pairs tab_one ht _ _ _ hlen (hr.take _)).mono ?_
  rintro _ rfl
  refine ⟨_, rfl, ?_⟩
  refine (pCheck8 tab_pairs tab_one tab_cls _ _ _ _ _ hlen tab_lt (hr.take _)).mono ?_
  rintro _ rfl
  refine ⟨_, rfl, iteT (by simp) ?_⟩
  refine awake8.mono ?_
  rintro _ rfl
  exact ⟨_, rfl, rfl⟩
theorem pQuickPoints (n f : Bool) (l : List Int) (hr : R32 l) : PCall Try.prog 5 [.sl n f (i32s l)] fun v => v = .bool true := by
  have hlen : (l.take 150).length < 1000000000 := by rw [List.length_take]; omega
  have hr2 := hr.take 150
  refine a_typebarlaw08_QuickPoints _ _ _ (fun _ _ s0 _ _ s3 _ _ s4 k i => s0 = i32s (l.take 150) ∧ s3 = rws tab ∧ s4 = ixs (ptsL tab 0 (l.take 150)) ∧ 0 ≤ i ∧ i ≤ (l.take 150).length ∧ k = (ptsL tab 0 ((l.take 150).take i.toNat)).length) (fun _ _ _ _ _ _ _ _ _ _ i => (l.take 150).length - i.toNat) ?_
  unfold r_typebarlaw08_QuickPoints
  refine (pFew n f l 150 (by omega)).mono ?_
  rintro _ ⟨n1, f1, rfl⟩
  refine ⟨_, _, _, rfl, ?_⟩
  refine p42.mono ?_
  rintro _ ⟨n2, f2, rfl⟩
  refine ⟨_, _, _, rfl, ?_⟩
  refine (tBuild n2 f2).mono fun t ht => ?_
  generalize l.take 150 = m at *
  refine (qPoints tab_pairs tab_one ht _ _ m hlen hr2).mono ?_
  rintro _ ⟨n3, f3, rfl⟩
  refine ⟨_, _, _, rfl, ⟨rfl, rfl, rfl, rfl, Int.le_refl _, by omega, rfl⟩, ?_⟩
  rintro n0 f0 _ n4 f4 _ n5 f5 _ k i ⟨rfl, rfl, rfl, i0, i1, rfl⟩
  refine iteD (fun hc => ?_) (fun hc => ?_)
  · simp only [decide_eq_true_eq, i32s_length] at hc
    have hi : i.toNat < m.length := by omega
    have hn : (i + 1).toNat = i.toNat + 1 := by omega
    have hw : IntKind.i64.wrap (i + 1) = i + 1 := wrap_i64 (by omega) (by omega)
    obtain ⟨g1, g2⟩ := i32_at i0 hi
    have hx := hr2 _ (List.getElem_mem hi)
    have hs := ptsL_snoc tab m[i.toNat] (m.take i.toNat) 0
    rw [← take_snoc hi, show ((m.take i.toNat).length : Int) = i by rw [List.length_take]; omega, Int.zero_add, ← hn] at hs
    obtain ⟨t2, ht2⟩ := ptsL_mono tab (m.take (i + 1).toNat) (m.drop (i + 1).toNat) 0
    rw [List.take_append_drop, hs] at ht2
    have hpl := ptsL_len tab (m.take i.toNat) 0
    rw [List.length_take] at hpl
    have hmu : m.length - (i + 1).toNat < m.length - i.toNat := by omega
    refine ⟨g1, m[i.toNat], by rw [g2]; rfl, ?_⟩
    rw [hw]
    refine (pStable8 tab_pairs tab_one _ _ _ tab_lt hx).mono ?_
    rintro _ rfl
    refine ⟨_, rfl, iteD (fun h2 => ?_) (fun h2 => ?_)⟩
    · rw [if_pos h2] at hs ht2
      generalize hq : ptsL tab 0 (m.take i.toNat) = q at *
      have hlt : q.length < (ptsL tab 0 m).length := by rw [ht2]; simp
      have hat : (ptsL tab 0 m)[q.length] = i := by
        have : (ptsL tab 0 m)[q.length]? = some i := by rw [ht2]; simp
        exact (List.getElem?_eq_some_iff.1 this).2
      have hgd : (ixs (ptsL tab 0 m)).getD q.length [] = [.int .i64 (ptsL tab 0 m)[q.length]] := getD_map hlt
      refine iteF (by simp [ixs_len]; omega) ⟨idxOK_map enc1_len (by omega) (by omega), i, by rw [show ((q.length : Int)).toNat = q.length by omega, hgd, hat]; rfl, iteF (by simp) ⟨rfl, ⟨rfl, rfl, rfl, by omega, by omega, ?_⟩, hmu⟩⟩
      rw [hs, List.length_append, wrap_i64 (by omega) (by omega)]; rfl
    · rw [if_neg h2, List.append_nil] at hs
      exact ⟨rfl, ⟨rfl, rfl, rfl, by omega, by omega, by rw [hs]⟩, hmu⟩
  · simp only [decide_eq_true_eq, i32s_length] at hc
    rw [List.take_of_length_le (by omega)]
    refine iteT (by simp [ixs_len]) ?_
    refine awake8.mono ?_
    rintro _ rfl
    exact ⟨_, rfl, rfl⟩
theorem u22 : Try.prog.underlying 22 = some (.slice 21) := by kernel_rfl
theorem u21 : Try.prog.underlying 21 = some (.int .i32) := by kernel_rfl
theorem typed_i32 {v : PV} (h : TypedV Try.prog 8 22 v) : ∃ nl l, v = .sl nl false (i32s l) ∧ R32 l := by
  obtain ⟨nl, l, e, hl, _, hr⟩ := typed_i32s u22 u21 (typedV_plain (by kernel_rfl) h)
  cases e
  exact ⟨nl, l, rfl, hr⟩
theorem lawQuickOf {pvs : List PV} (h : TypedAll Try.prog 8 Try.f3.params.toList pvs) : PCall Try.prog 3 pvs fun v => v = .bool true := by
  obtain ⟨v0, r0, rfl, h0, rfl⟩ : TypedAll Try.prog 8 [22] pvs := h
  obtain ⟨nl, l, rfl, hr⟩ := typed_i32 h0
  exact pQuickOf _ _ l hr
theorem lawQuickCheck {pvs : List PV} (h : TypedAll Try.prog 8 Try.f4.params.toList pvs) : PCall Try.prog 4 pvs fun v => v = .bool true := by
  obtain ⟨v0, r0, rfl, h0, rfl⟩ : TypedAll Try.prog 8 [22] pvs := h
  obtain ⟨nl, l, rfl, hr⟩ := typed_i32 h0
  exact pQuickCheck _ _ l hr
theorem lawQuickPoints {pvs : List PV} (h : TypedAll Try.prog 8 Try.f5.params.toList pvs) : PCall Try.prog 5 pvs fun v => v = .bool true := by
  obtain ⟨v0, r0, rfl, h0, rfl⟩ : TypedAll Try.prog 8 [22] pvs := h
  obtain ⟨nl, l, rfl, hr⟩ := typed_i32 h0
  exact pQuickPoints _ _ l hr
end Go.Eng
