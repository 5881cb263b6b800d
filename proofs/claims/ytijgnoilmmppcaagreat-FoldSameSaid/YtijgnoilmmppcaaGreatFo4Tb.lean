/- States run over the code: what each function gives, and what follows. -/
import Derived.Test.YtijgnoilmmppcaaGreatFo4Ta
open Go.IntKind (i64 i32)
set_option linter.unusedVariables false
set_option linter.unusedSimpArgs false
set_option maxRecDepth 100000
set_option linter.constructorNameAsVariable false
namespace Go.Eng
open Go Go.Proofs Go.Eng.Trie
def cI (b : aR Int) : List PV := cells encI b
def kvI (k : Int) : PV := .int .i64 k
def eW (kn : List (aR Int × Int)) : List (PV × PV) := cC (fun b => .agg (cI b)) kvI kn
def hE (ev : List (Int × Int)) : List (PV × PV) := cC (fun v => .int .i64 v) kvI ev
def kS (sz : Int) (kn : List (aR Int × Int)) (ev : List (Int × Int)) (ixm ixn bkm bkn : Bool) (idx : List Int) (blk : List (aR Int)) : Hp :=
 [.box [.box 1 0, .mp 2, .mp 3], .box [.pv (.int .i64 sz), .own 4, .own 5], .mp (eW kn), .mp (hE ev), .sl (3, 1) ixm ixn (aX idx), .sl (186, 128) bkm bkn (bB encI blk)]
theorem l5 (b : aR Int) : (cI b).length = 128 := EI.cells_len b
theorem yW (b : aR Int) : List.take 128 (List.drop 0 (cI b)) = cI b := by rw [List.drop_zero, List.take_of_length_le (by rw [l5]; omega)]
theorem zf3 : eG Tryz.prog 186 = true := by kernel_rfl
theorem zf4 : fE Tryz.prog 186 = (List.replicate 128 [3]).flatten := by kernel_rfl
theorem zp3 (b : aR Int) (kn : List (aR Int × Int)) : cH (.agg (cI b)) (eW kn) = (cD b kn).map kvI := lT (ek := fun b => PV.agg (cI b)) (ev := kvI) EI.blkEq b kn
theorem zp4 (b : aR Int) (k : Int) (kn : List (aR Int × Int)) : bI (.agg (cI b)) (kvI k) (eW kn) = eW (bY b k kn) := iX (ek := fun b => PV.agg (cI b)) (ev := kvI) EI.blkEq b k kn
theorem okI (b : aR Int) : a8 Tryz.prog 186 (.agg (cI b)) = true := EI.blkOk zf3 zf4 b
theorem zf5 (kn : List (aR Int × Int)) : cR Tryz.prog 186 (eW kn) := EI.blksOk zf3 zf4 kn
theorem zf6 {sz : Int} {F : Int -> Int} {idx : List Int} {blk : List (aR Int)} {kn : List (aR Int × Int)} {ev : List (Int × Int)} (hk : TInv sz F idx blk kn ev) (hb : blk.length <= 10000000) (ixn bkn : Bool) (b : aR Int) :
 ACall Tryz.prog 127 [.box 0 0, .pv (.agg (cI b))] (kS sz kn ev false ixn false bkn idx blk) fun r h' => ∃ k kn' bn' blk', r = .pv (kvI k) /\ h' = kS sz kn' ev false ixn true bn' idx blk' /\ TInv sz F idx blk' kn' ev /\ 0 <= k /\ blk'[k.toNat]? = some b /\ blk'.length <= blk.length + 1 := by
 refine ACall.mark 1000 [5] (R := fun r h' => ∃ k kn' bm' bn' blk', r = .pv (kvI k) /\ h' = kS sz kn' ev false ixn bm' bn' idx blk' /\ TInv sz F idx blk' kn' ev /\ 0 <= k /\ blk'[k.toNat]? = some b /\ blk'.length <= blk.length + 1) ?_ ?_
 ·refine zpz _ _ _ _ _ _ _ _ _ _ ?_
  unfold zfy
  rw [yW, zp3]
  have h128 : 128 <= (List.drop 0 (cI b)).length := by rw [List.drop_zero, l5]; omega
  refine ⟨h128, zf5 kn, okI b, fun v hv => ?_, fun hv => ?_⟩
  ·cases hg : cD b kn with
   | none => rw [hg] at hv; cases hv
   | some k =>
     rw [hg] at hv; cases hv
     obtain ⟨k0, k1⟩ := hk.kn_ok b k hg
     exact ⟨k, rfl, k, kn, false, bkn, blk, rfl, rfl, hk, k0, k1, by omega⟩
  ·have hsz : aT [cI b] 128 /\ ((bB encI blk).length + 1) * 1024 <= 140737488355328 := ⟨fun e he => by simp at he; subst he; exact l5 b, by rw [jW]; omega⟩
   have fin : ∃ k kn' bm' bn' blk', LV.pv (.int .i64 ((bB encI blk).length : Int)) = .pv (kvI k) /\
    [Ob.box [.box 1 0, .mp 2, .mp 3], .box [.pv (.int .i64 sz), .own 4, .own 5], .mp (bI (.agg (cI b)) (.int .i64 ((bB encI blk).length : Int)) (eW kn)), .mp (hE ev), .sl (3, 1) false ixn (aX idx), .sl (186, 128) true (bkn && false) (bB encI blk ++ [cI b])] = kS sz kn' ev false ixn bm' bn' idx blk' /\ TInv sz F idx blk' kn' ev /\ 0 <= k /\ blk'[k.toNat]? = some b /\ blk'.length <= blk.length + 1 := by
    refine ⟨blk.length, bY b (blk.length : Int) kn, true, bkn && false, blk ++ [b], by rw [jW]; rfl, ?_, hk.place b, by omega, by simp, by simp⟩
    have := zp4 b (blk.length : Int) kn
    unfold kvI at this
    rw [jW, this]
    simp [kS, bB, cI]
   exact ⟨h128, zf5 kn, okI b, h128, ⟨l5 b, hsz, fin⟩, l5 b, ⟨hsz, fin⟩, hsz, fin⟩
 ·rintro r h' ⟨k, kn', bm', bn', blk', rfl, rfl, h1, h2, h3, h4⟩
  exact ⟨k, kn', bn', blk', rfl, rfl, h1, h2, h3, h4⟩
theorem zp5 (v : Int) (ev : List (Int × Int)) : cH (.int .i64 v) (hE ev) = (cD v ev).map kvI := lT (ek := fun v => PV.int .i64 v) (ev := kvI) (pX .i64) v ev
theorem zp6 (v k : Int) (ev : List (Int × Int)) : bI (.int .i64 v) (kvI k) (hE ev) = hE (bY v k ev) := iX (ek := fun v => PV.int .i64 v) (ev := kvI) (pX .i64) v k ev
theorem yX (l : List Int) (j : Nat) (hj : j < l.length) (v : Int) : aP (l.flatMap encI) (0 + j * 1) [.int .i64 v] = (l.set j v).flatMap encI := by
 have := EI.put l j hj v
 simp only [List.length_cons, List.length_nil, Nat.zero_add] at this ⊢
 exact this
theorem yY (l : List Int) : (l.flatMap encI).length = l.length := by
 have := EI.flen l
 simpa using this
theorem zf7 : List.replicate 128 (PV.int .i64 0) = (List.replicate 128 (0 : Int)).flatMap encI := by
 generalize 128 = n
 induction n with
 | zero => rfl
 | succ n ih => simp only [List.replicate_succ, List.flatMap_cons, ih]; rfl
theorem zp7 {l : List Int} {v : Int} (hl : l.length = 128) (h : ∀ q, q < 128 -> l[q]? = some v) : l = List.replicate 128 v := by
 refine List.ext_getElem? fun q => ?_
 rcases Nat.lt_or_ge q 128 with hq | hq
 ·rw [h q hq, List.getElem?_replicate, if_pos hq]
 ·rw [List.getElem?_eq_none (by omega), List.getElem?_eq_none (by simp; omega)]
theorem zp8 {sz : Int} {F : Int -> Int} {idx : List Int} {blk : List (aR Int)} {kn : List (aR Int × Int)} {ev : List (Int × Int)} (hk : TInv sz F idx blk kn ev) (hb : blk.length <= 10000000) (ixn bkn : Bool) (v : Int) :
 ACall Tryz.prog 126 [.box 0 0, .pv (.int .i64 v)] (kS sz kn ev false ixn false bkn idx blk) fun r h' => ∃ k kn' ev' bn' blk', r = .pv (kvI k) /\ h' = kS sz kn' ev' false ixn true bn' idx blk' /\ TInv sz F idx blk' kn' ev' /\ 0 <= k /\ blk'[k.toNat]? = some (rep v) /\ blk'.length <= blk.length + 1 := by
 refine ACall.mark 1000 [5] (R := fun r h' => ∃ k kn' ev' bm' bn' blk', r = .pv (kvI k) /\ h' = kS sz kn' ev' false ixn bm' bn' idx blk' /\ TInv sz F idx blk' kn' ev' /\ 0 <= k /\ blk'[k.toNat]? = some (rep v) /\ blk'.length <= blk.length + 1) ?_ ?_
 ·refine zp0 _ _ _ _ _ _ _ _ _ _ (fun x m2 m3 c => 0 <= x /\ x <= 128 /\ m2 = eW kn /\ m3 = hE ev /\ ∃ l : List Int, l.length = 128 /\ c = l.flatMap encI /\ ∀ q, q < x.toNat -> l[q]? = some v) (fun x _ _ _ => 128 - x.toNat) ?_
  unfold zfz
  rw [zp5]
  refine ⟨lV ev, fun u hu => ?_, fun hu => ⟨⟨rfl, Int.le_refl _, by omega, rfl, rfl, List.replicate 128 0, by simp, zf7, fun q hq => by simp at hq⟩, ?_⟩⟩
  ·cases hg : cD v ev with
   | none => rw [hg] at hu; cases hu
   | some k =>
     rw [hg] at hu; cases hu
     obtain ⟨k0, k1⟩ := hk.ev_ok v k hg
     exact ⟨k, rfl, k, kn, ev, false, bkn, blk, rfl, rfl, hk, k0, k1, by omega⟩
  ·rintro x _ _ _ ⟨x0, x1, rfl, rfl, l, hl, rfl, hq⟩
   refine aD (fun hc => ?_) (fun hc => ?_)
   ·simp only [decide_eq_true_eq] at hc
    have hw : i64.wrap (x + 1) = x + 1 := aC (by omega) (by omega)
    have hn : (x + 1).toNat = x.toNat + 1 := by omega
    rw [yX l x.toNat (by omega) v, hw, yY]
    refine ⟨⟨x0, hc⟩, ⟨rfl, by omega⟩, rfl, ⟨by omega, by omega, rfl, rfl, l.set x.toNat v, by simpa using hl, rfl, fun q hq' => ?_⟩, by dsimp only; omega⟩
    rw [hn] at hq'
    rw [List.getElem?_set]
    by_cases e : x.toNat = q
    ·rw [if_pos e, if_pos (by omega)]
    ·rw [if_neg e]; exact hq q (by omega)
   ·simp only [decide_eq_true_eq] at hc
    have hx : x = 128 := by omega
    subst hx
    have hrep := zp7 hl hq
    subst hrep
    have hcI : (List.replicate 128 v).flatMap encI = cI (rep v) := rfl
    rw [hcI, yW]
    refine ⟨by rw [List.drop_zero, l5]; omega, ?_⟩
    refine (zf6 hk hb ixn bkn (rep v)).mono ?_
    rintro _ _ ⟨k, kn', bn', blk', rfl, rfl, h1, h2, h3, h4⟩
    refine ⟨(k, eW kn', bn', bB encI blk'), ⟨rfl, rfl⟩, ⟨trivial, ⟨rfl, rfl, rfl⟩, trivial, trivial, trivial, trivial, trivial⟩, lV ev, ?_⟩
    have := zp6 v k ev
    unfold kvI at this
    simp only [this]
    exact ⟨k, kn', bY v k ev, _, bn', blk', rfl, rfl, h1.even h2 h3, h2, h3, h4⟩
 ·rintro r h' ⟨k, kn', ev', bm', bn', blk', rfl, rfl, h1, h2, h3, h4⟩
  exact ⟨k, kn', ev', bn', blk', rfl, rfl, h1, h2, h3, h4⟩
end Go.Eng



namespace Go.Eng
open Go Go.Proofs Go.Eng.Trie
theorem zp9 {α : Type} {v : α} {j : Nat} {u : α} (h : (Trie.rep v).1[j]? = some u) : u = v /\ j < 128 := by
 simp only [Trie.rep, List.getElem?_replicate] at h
 split at h
 ·rename_i hj; cases h; exact ⟨rfl, hj⟩
 ·cases h
theorem zqa (sz z : Int) (n f : Bool) (l : List (Pc Int)) (hl : l.length < 4611686018427387904) (hok : ∀ p ∈ l, Pc.ok p) (hs1 : 1 <= sz) (hs2 : sz <= 1114112) :
 PCall Tryz.prog 88 [.int .i64 sz, .int .i64 z, .sl n f (jX l)] fun v => TrieI sz (eV l z) v := by
 have hF := fun i => p0 l z i (sz - 1)
 generalize hFF : eV l z = F at *
 refine zp1 _ _ _ _ _
  (fun x9 x10 x11 _ s2 _ s3 m4 m5 => ∃ idx blk kn ev, s2 = aX idx /\ s3 = bB encI blk /\ m4 = eW kn /\ m5 = hE ev /\ TInv sz F idx blk kn ev /\ x11 = 128 * idx.length /\ blk.length <= idx.length /\ x11 < sz + 128 /\ (∀ j, x11 <= j -> j <= x10 -> F j = x9) /\ x10 <= sz - 1)
  (fun _ _ x11 _ _ _ _ _ _ => (sz + 128 - x11).toNat)
  (fun _ _ y11 _ _ _ _ _ _ _ x9 x10 x11 x13 _ s2 _ s3 m4 m5 => ∃ idx blk kn ev, s2 = aX idx /\ s3 = bB encI blk /\ m4 = eW kn /\ m5 = hE ev /\ TInv sz F idx blk kn ev /\ x11 = 128 * idx.length /\ x11 < sz + 128 /\ (∀ j, x11 <= j -> j <= x10 -> F j = x9) /\ x10 <= sz - 1 /\ 0 <= x13 /\ blk[x13.toNat]? = some (rep x9) /\
   ((x11 = y11 /\ x11 < sz /\ (x11 + 127 <= x10 ∨ sz - 1 <= x10) /\ blk.length <= idx.length + 1) ∨ (y11 + 128 <= x11 /\ blk.length <= idx.length)))
  (fun _ _ x11 _ _ _ _ _ _ _ => (sz + 128 - x11).toNat)
  (fun _ _ y11 _ _ _ _ _ _ _ _ x9 x10 x11 x c _ s3 _ s4 m5 m6 => ∃ idx blk kn ev, s3 = aX idx /\ s4 = bB encI blk /\ m5 = eW kn /\ m6 = hE ev /\ TInv sz F idx blk kn ev /\ x11 = 128 * idx.length /\ blk.length <= idx.length /\ x11 = y11 /\ x11 < sz /\ 0 <= x /\ x <= 128 /\ x10 <= sz - 1 /\ (∀ j, x11 + x <= j -> j <= x10 -> F j = x9) /\
   ∃ b : List Int, b.length = 128 /\ c = b.flatMap encI /\ ∀ (q : Nat) u, b[q]? = some u -> q < x.toNat -> x11 + q < sz -> u = F (x11 + q))
  (fun _ _ _ x _ _ _ _ _ _ _ => (128 - x).toNat) ?_
 unfold zf0
 have hw1 : i64.wrap (sz - 1) = sz - 1 := aC (by omega) (by omega)
 rw [hw1]
 refine bK (by simp; omega) ?_
 refine (yU n f l z 0 (sz - 1) hl hok).mono ?_
 rintro _ rfl
 obtain ⟨_, f2, f3, f4⟩ := hF 0 (by omega)
 refine ⟨_, rfl, rfl, _, rfl, _, rfl, _, rfl, _, rfl, ⟨rfl, [], [], [], [], rfl, rfl, rfl, rfl, TInv.nil, rfl, Nat.le_refl _, by omega, f4, f3⟩, ?_⟩
 clear f2 f3 f4
 rintro v0 u0 x _ _ _ _ _ _ ⟨idx, blk, kn, ev, rfl, rfl, rfl, rfl, hk, hx, hb, hx2, hv0, hu0⟩
 refine aD (fun hc => ?_) (fun hc => ?_)
 ·simp only [decide_eq_true_eq] at hc
  have hw2 : i64.wrap (x + 128) = x + 128 := aC (by omega) (by omega)
  rw [hw2]
  have hmin : ∀ a : Int, i64.wrap ((if sz < a + 128 then sz else a + 128) - 1) = (if sz < a + 128 then sz else a + 128) - 1 ∨ ¬ (0 <= a /\ a <= 1114112) := fun a => by
   by_cases ha : 0 <= a /\ a <= 1114112
   ·left; split <;> exact aC (by omega) (by omega)
   ·exact .inr ha
  have hmx := (hmin x).resolve_right (by omega)
  rw [hmx]
  refine aD (fun hgt => ?ga) (fun hgt => ?gb)
  case' ga =>
   refine (yU n f l z x (sz - 1) hl hok).mono ?_
   rintro _ rfl
   obtain ⟨_, hux, hu, hv⟩ := hF x (by omega)
   refine ⟨_, rfl, rfl, _, rfl, _, rfl, _, rfl, _, rfl, ?_⟩
   revert hv hu
   generalize (findL l z x (sz - 1)).1 = v
   generalize (findL l z x (sz - 1)).2 = u
   clear hv0 hu0 hux
   intro hu hv
  case' gb =>
   revert hv0 hu0 hgt
   generalize v0 = v
   generalize u0 = u
   intro hv hu hgt
  all_goals
   clear hgt
   refine aD (fun hc2 => ?_) (fun hc2 => ?_)
   ·simp only [decide_eq_true_eq, ge_iff_le] at hc2
    have hc3 : x + 127 <= u ∨ sz - 1 <= u := by split at hc2 <;> omega
    refine (zp8 hk (by omega) _ _ v).mono ?_
    rintro _ _ ⟨k, kn', ev', bn', blk', rfl, rfl, g1, g2, g3, g4⟩
    refine ⟨(k, eW kn', hE ev', bn', bB encI blk'), ⟨rfl, rfl⟩, ⟨trivial, ⟨rfl, rfl, rfl⟩, trivial, trivial, trivial, trivial, trivial⟩, ⟨rfl, idx, blk', kn', ev', rfl, rfl, rfl, rfl, g1, hx, hx2, hv, hu, g2, g3, .inl ⟨rfl, hc, hc3, by omega⟩⟩, ?_⟩
    rintro w t y k' _ _ _ _ _ _ ⟨idx2, blk2, kn2, ev2, rfl, rfl, rfl, rfl, hk2, hy, hy2, hw, ht, hk0, hkb, hor⟩
    have hwy : i64.wrap (y + 128) = y + 128 := aC (by omega) (by omega)
    rw [hwy, (hmin y).resolve_right (by omega)]
    refine aD (fun hc4 => ?_) (fun hc4 => ?_)
    ·simp only [Bool.and_eq_true, decide_eq_true_eq, ge_iff_le] at hc4
     have hc5 : y + 127 <= t ∨ sz - 1 <= t := by have := hc4.2; split at this <;> omega
     refine ⟨⟨fun e he => by simp at he; subst he; rfl, by rw [i6]; omega⟩, rfl, ⟨idx2 ++ [k'], blk2, kn2, ev2, by simp [aX], rfl, rfl, rfl, hk2.push hk0 hkb fun j u' hj hlt => ?_, by simp; omega, by omega, fun j h1 h2 => hw j (by omega) h2, ht, hk0, hkb, .inr ⟨by omega, by simp; omega⟩⟩, by dsimp only; omega⟩
     obtain ⟨rfl, hj2⟩ := zp9 hj
     exact (hw _ (by omega) (by omega)).symm
    ·have hnot : y + 128 <= y + 128 := Int.le_refl _
     have hw128 : i64.wrap (y - 128) = y - 128 := aC (by omega) (by omega)
     have hback : i64.wrap (y - 128 + 128) = y := by rw [aC (by omega) (by omega)]; omega
     rw [hw128, hback]
     simp only [Bool.and_eq_true, decide_eq_true_eq, ge_iff_le, not_and] at hc4
     have hor2 : x + 128 <= y /\ blk2.length <= idx2.length := by
      rcases hor with ⟨h1, h2, h3, h4⟩ | h
      ·exfalso
       have := hc4 h2
       split at this <;> omega
      ·exact h
     exact ⟨rfl, ⟨idx2, blk2, kn2, ev2, rfl, rfl, rfl, rfl, hk2, hy, hor2.2, hy2, hw, ht⟩, by dsimp only; omega⟩
   ·clear hc2
    refine ⟨⟨rfl, idx, blk, kn, ev, rfl, rfl, rfl, rfl, hk, hx, hb, rfl, hc, Int.le_refl _, by omega, hu, fun j h1 h2 => hv j (by omega) h2, List.replicate 128 0, by simp, zf7, fun q u' _ hq _ => by simp at hq⟩, ?_⟩
    rintro w t y i _ _ _ _ _ _ _ ⟨idx2, blk2, kn2, ev2, rfl, rfl, rfl, rfl, hk2, hy, hb2, hyx, hy2, i0, i1, ht, hw, b, hbl, rfl, hbq⟩
    have hwyi : i64.wrap (y + i) = y + i := aC (by omega) (by omega)
    have hwi : i64.wrap (i + 1) = i + 1 := aC (by omega) (by omega)
    have hwy : i64.wrap (y + 128) = y + 128 := aC (by omega) (by omega)
    rw [hwyi, hwi, hwy]
    have step : ∀ (v' u' : Int), (∀ j, y + i <= j -> j <= u' -> F j = v') -> u' <= sz - 1 -> (y + i < sz -> F (y + i) = v') -> i < 128 ->
     ∃ idx blk kn ev, aX idx2 = aX idx /\ bB encI blk2 = bB encI blk /\ eW kn2 = eW kn /\ hE ev2 = hE ev /\ TInv sz F idx blk kn ev /\ y = 128 * idx.length /\ blk.length <= idx.length /\ y = x /\ y < sz /\ 0 <= i + 1 /\ i + 1 <= 128 /\ u' <= sz - 1 /\ (∀ j, y + (i + 1) <= j -> j <= u' -> F j = v') /\
      ∃ c : List Int, c.length = 128 /\ (b.set i.toNat v').flatMap encI = c.flatMap encI /\ ∀ (q : Nat) u, c[q]? = some u -> q < (i + 1).toNat -> y + q < sz -> u = F (y + q) := fun v' u' h1 h2 h3 h4 => by
     refine ⟨idx2, blk2, kn2, ev2, rfl, rfl, rfl, rfl, hk2, hy, hb2, hyx, hy2, by omega, by omega, h2, fun j a1 a2 => h1 j (by omega) a2, b.set i.toNat v', by simpa using hbl, rfl, fun q u hq hq2 hq3 => ?_⟩
     rw [List.getElem?_set] at hq
     by_cases e : i.toNat = q
     ·rw [if_pos e, if_pos (by omega)] at hq
      cases hq
      have e2 : y + (q : Int) = y + i := by omega
      rw [e2]
      exact (h3 (by omega)).symm
     ·rw [if_neg e] at hq
      exact hbq q u hq (by omega) hq3
    refine aD (fun hc5 => ?_) (fun hc5 => ?_)
    ·simp only [decide_eq_true_eq] at hc5
     refine aD (fun hc6 => ?_) (fun hc6 => ?_)
     ·simp only [Bool.and_eq_true, decide_eq_true_eq, gt_iff_lt] at hc6
      refine (yU n f l z (y + i) (sz - 1) hl hok).mono ?_
      rintro _ rfl
      obtain ⟨q1, q2, q3, q4⟩ := hF (y + i) (by omega)
      refine ⟨_, rfl, rfl, _, rfl, _, rfl, _, rfl, _, rfl, ⟨i0, hc5⟩, ⟨rfl, by rw [yY]; omega⟩, rfl, ?_, by dsimp only; omega⟩
      rw [yX b i.toNat (by omega)]
      exact step _ _ q4 q3 (fun _ => q1.symm) hc5
     ·simp only [Bool.and_eq_true, decide_eq_true_eq, gt_iff_lt, not_and] at hc6
      refine ⟨⟨i0, hc5⟩, ⟨rfl, by rw [yY]; omega⟩, rfl, ?_, by dsimp only; omega⟩
      rw [yX b i.toNat (by omega)]
      exact step _ _ hw ht (fun h => hw (y + i) (Int.le_refl _) ((Int.lt_or_le t (y + i)).elim (fun h2 => absurd h (hc6 h2)) id)) hc5
    ·simp only [decide_eq_true_eq] at hc5
     have hi : i = 128 := by omega
     subst hi
     obtain ⟨B, hB⟩ : ∃ B : aR Int, B.1 = b := ⟨⟨b, hbl⟩, rfl⟩
     subst hB
     have hcI : B.1.flatMap encI = cI B := rfl
     rw [hcI, yW]
     refine ⟨by rw [List.drop_zero, l5]; omega, (fun h => ⟨h, h⟩) ?_⟩
     refine (zf6 hk2 (by omega) _ _ B).mono ?_
     rintro _ _ ⟨k, kn', bn', blk', rfl, rfl, h1, h2, h3, h4⟩
     refine ⟨(k, eW kn', bn', bB encI blk'), ⟨rfl, rfl⟩, ⟨trivial, ⟨rfl, rfl, rfl⟩, trivial, trivial, trivial, trivial, trivial⟩, ⟨fun e he => by simp at he; subst he; rfl, by rw [i6]; omega⟩, rfl, ⟨idx2 ++ [k], blk', kn', ev2, by simp [aX, kvI], rfl, rfl, rfl, h1.push h2 h3 fun j u' hj hlt => ?_, by simp; omega, by simp; omega, by omega, fun j a1 a2 => hw j (by omega) a2, ht⟩, by dsimp only; omega⟩
     have hj2 : j < 128 := by have := (List.getElem?_eq_some_iff.1 hj).1; simp only [hbl] at this; exact this
     rw [<- hy]
     exact hbq j u' hj (by omega) (by omega)
 ·simp only [decide_eq_true_eq] at hc
  exact ⟨_, _, _, _, idx, blk, rfl, by omega, hk.idx_ok⟩
end Go.Eng



namespace Go.Eng
open Go Go.Proofs
def yZ (n f : Bool) (es : LL) (za zb zc zd : Bool) (i last : Int) (x3 x14 : Int) (h1_0 h1_1 h1_2 h1_3 : Bool) : Env × Hp := ([(2, Y6 i), (3, Y6 x3), (5, LV.box 0 0), (8, LV.box 1 0), (12, LV.pv (PV.sl n f es)), (13, Y6 ↑es.length), (14, Y6 x14)], [.box [LV.pv (PV.bool za), LV.pv (PV.bool zb), LV.pv (PV.bool zc), LV.pv (PV.bool zd)], .box [.pv (.bool h1_0), .pv (.bool h1_1), .pv (.bool h1_2), .pv (.bool h1_3)]])
section
variable (n f : Bool) (es : LL) (za zb zc zd : Bool) (i last : Int) (J : Int -> Int -> Bool -> Bool -> Bool -> Bool -> Prop) (μ : Int -> Int -> Bool -> Bool -> Bool -> Bool -> Nat)
def zf8 (R : PV -> Prop) : Prop :=
 (aG (yZ n f es za zb zc zd i last last (0 : Int) false false false false) /\ J last (0 : Int) false false false false) /\ ∀ (x3 x14 : Int) (h1_0 h1_1 h1_2 h1_3 : Bool), J x3 x14 h1_0 h1_1 h1_2 h1_3 ->
 let K2 := fun (y0_ y1_ : Int) (y2_ y3_ y4_ y5_ : Bool) => aG (yZ n f es za zb zc zd i last y0_ y1_ y2_ y3_ y4_ y5_) /\ J y0_ y1_ y2_ y3_ y4_ y5_ /\ μ y0_ y1_ y2_ y3_ y4_ y5_ < μ x3 x14 h1_0 h1_1 h1_2
  h1_3; if decide (x14 < (↑es.length : Int)) = true then aK es x14 6 /\ ∃ n1, (es.getD x14.toNat []).head? = some (Z6 n1) /\ ∃ n2, (es.getD x14.toNat []).tail.head? = some (Z6 n2) /\ ∃ b, (es.getD x14.toNat
  []).tail.tail.head? = some (Zb b) /\ ∃ b1, (es.getD x14.toNat []).tail.tail.tail.head? = some (Zb b1) /\ ∃ b2, (es.getD x14.toNat []).tail.tail.tail.tail.head? = some (Zb b2) /\ ∃ b3, (es.getD x14.toNat
  []).tail.tail.tail.tail.tail.head? = some (Zb b3) /\
 let V1 :=
 let V2 := K2 x3 (i64.wrap (x14 + 1)) h1_0 h1_1 h1_2 h1_3; if decide (i < n1) = true then if decide (n1 <= x3) = true then K2 (i64.wrap (n1 - 1)) (i64.wrap (x14 + 1)) h1_0 h1_1 h1_2 h1_3 else V2 else V2; if decide (n1
  <= i) = true then if decide (i <= n2) = true then (R (PV.tup [PV.agg [Zb b, Zb b1, Zb b2, Zb b3], Z6 (if x3 < n2 then x3 else n2)]) /\ R (PV.tup [PV.agg [Zb b, Zb b1, Zb b2, Zb b3], Z6 (if x3 < n2 then x3 else n2)])) /\ R (PV.tup [PV.agg [Zb
  b, Zb b1, Zb b2, Zb b3], Z6 (if x3 < n2 then x3 else n2)]) else V1 else V1 else R (PV.tup [PV.agg [Zb za, Zb zb, Zb zc, Zb zd], Z6 x3])
theorem zqb {R : PV -> Prop} (h : zf8 n f es za zb zc zd i last J μ R) : PCall Tryz.prog 130 [.sl n f es, .agg [.bool za, .bool zb, .bool zc, .bool zd], .int .i64 i, .int .i64 last] R :=
 PCall.of Tryz.func130 (by kernel_rfl) (by kernel_rfl) (zl (by kernel_rfl)) (Eq.mpr (by kernel_rfl : aO Tryz.prog (fun _ => none) Tryz.f130 [0, 1, 2, 3, 5, 8, 9, 11, 12, 13, 14, 15, 18, 35] (fun zz_ => match zz_ with | 2 => some ⟨Int × Int × Bool × Bool × Bool × Bool, fun s => yZ n f es za zb zc zd i last s.1 s.2.1 s.2.2.1 s.2.2.2.1 s.2.2.2.2.1 s.2.2.2.2.2, fun _ s => J s.1 s.2.1 s.2.2.1 s.2.2.2.1 s.2.2.2.2.1 s.2.2.2.2.2, fun s => μ s.1 s.2.1 s.2.2.1 s.2.2.2.1 s.2.2.2.2.1 s.2.2.2.2.2, fun e h => (gI e 3, gI e 14, hB h 1 0, hB h 1 1, hB h 1 2, hB h 1 3), [], [2, 3, 5, 8, 12, 13, 14], [], fun p => ∀ (x3 x14 : Int) (h1_0 h1_1 h1_2 h1_3 : Bool), p (x3, x14, h1_0, h1_1, h1_2, h1_3), fun p h s => h s.1 s.2.1 s.2.2.1 s.2.2.2.1 s.2.2.2.2.1 s.2.2.2.2.2⟩ | _ => none) (Tryz.f130.body.getD .skip) [.sl n f es, .agg [.bool za, .bool zb, .bool zc, .bool zd], .int .i64 i, .int .i64 last] R = _) h)
end
section
variable (sz : Int) (n f n2 f2 : Bool) (es bs : LL) (i : Int)
def zf9 (R : PV -> Prop) : Prop :=
 if decide (i < 0) = true then R (PV.agg [Zb false, Zb false, Zb false, Zb false]) else ∃ n1, some (Z6 sz) = some (Z6 n1) /\ if decide (i >= n1) = true then R (PV.agg [Zb false, Zb false, Zb false, Zb false]) else ∃ n3, ∃ (f1
 : Bool), ∃ es1, some (PV.sl n2 f2 bs) = some (PV.sl n3 f1 es1) /\ ∃ n4 f3 es2, some (PV.sl n f es) = some (PV.sl n4 f3 es2) /\ aK es2 (i64.wrap (i.tdiv (128 : Int))) 1 /\ ∃ n5, (es2.getD
 (i64.wrap (i.tdiv (128 : Int))).toNat []).head? = some (Z6 n5) /\ aK es1 n5 512 /\ ((0 : Int) <= i.tmod (128 : Int) /\ i.tmod (128 : Int) < (↑128 : Int)) /\ ∃ b, (List.drop ((i.tmod (128 : Int)).toNat * 4) (es1.getD n5.toNat
 [])).head? = some (Zb b) /\ ∃ b1, (List.drop ((i.tmod (128 : Int)).toNat * 4) (es1.getD n5.toNat [])).tail.head? = some (Zb b1) /\ ∃ b2, (List.drop ((i.tmod (128 : Int)).toNat * 4) (es1.getD n5.toNat [])).tail.tail.head? =
 some (Zb b2) /\ ∃ b3, (List.drop ((i.tmod (128 : Int)).toNat * 4) (es1.getD n5.toNat [])).tail.tail.tail.head? = some (Zb b3) /\ R (PV.agg [Zb b, Zb b1, Zb b2, Zb b3])
theorem zqc {R : PV -> Prop} (h : zf9 sz n f n2 f2 es bs i R) : PCall Tryz.prog 102 [.ptr [.int .i64 sz, .sl n f es, .sl n2 f2 bs], .int .i64 i] R :=
 PCall.of Tryz.func102 (by kernel_rfl) (by kernel_rfl) (zl (by kernel_rfl)) (Eq.mpr (by kernel_rfl : aO Tryz.prog (fun _ => none) Tryz.f102 [0, 1, 4, 5, 19] (fun _ => none) (Tryz.f102.body.getD .skip) [.ptr [.int .i64 sz, .sl n f es, .sl n2 f2 bs], .int .i64 i] R = _) h)
end
section
variable (sz : Int) (kn ev : List (PV × PV)) (ixm ixn bkm bkn : Bool) (ix bk : LL) (b : List PV)
def zga (R : LV -> Hp -> Prop) : Prop :=
 512 <= (List.drop 0 b).length /\ cR Tryz.prog 203 kn /\ a8 Tryz.prog 203 (PV.agg (List.take 512 (List.drop 0 b))) = true /\ (∀ (v : PV), cH (PV.agg (List.take 512 (List.drop 0 b))) kn = some v -> ∃ n, v = Z6 n /\ R (Y6 n)
  [Ob.box [LV.box 1 0, LV.mp 2, LV.mp 3], Ob.box [Y6 sz, LV.own 4, LV.own 5], Ob.mp kn, Ob.mp ev, Ob.sl (3, 1) ixm ixn ix, Ob.sl (203, 512) bkm bkn bk]) /\ (cH (PV.agg (List.take 512 (List.drop 0 b))) kn = none -> 512 <= (List.drop 0
  b).length /\ cR Tryz.prog 203 kn /\ a8 Tryz.prog 203 (PV.agg (List.take 512 (List.drop 0 b))) = true /\ 512 <= (List.drop 0 b).length /\
 let V1 := (aT [List.take 512 (List.drop 0 b)] 512 /\ (bk.length + 1) * 512 <= 140737488355328) /\ R (Y6 (↑bk.length : Int)) [Ob.box [LV.box 1 0, LV.mp 2, LV.mp 3], Ob.box [Y6 sz, LV.own 4, LV.own 5], Ob.mp (bI (PV.agg (List.take 512
  (List.drop 0 b))) (Z6 (↑bk.length : Int)) kn), Ob.mp ev, Ob.sl (3, 1) ixm ixn ix, Ob.sl (203, 512) true (bkn && false) (bk ++ [List.take 512 (List.drop 0 b)])]; ((List.take 512 (List.drop 0 b)).length = 512 /\ V1) /\ (List.take 512
  (List.drop 0 b)).length = 512 /\ V1 /\ V1)
theorem zqd {R : LV -> Hp -> Prop} (h : zga sz kn ev ixm ixn bkm bkn ix bk b R) : ACall Tryz.prog 132 [.box 0 0, .pv (.agg b)] [.box [.box 1 0, .mp 2, .mp 3], .box [.pv (.int .i64 sz), .own 4, .own 5], .mp kn, .mp ev, .sl (3, 1) ixm ixn ix, .sl (203, 512) bkm bkn bk] R :=
 ACall.of Tryz.func132 (by kernel_rfl) (by kernel_rfl) (zl (by kernel_rfl)) (Eq.mpr (by kernel_rfl : dW Tryz.prog (fun _ => none) Tryz.f132 [0, 1, 3, 4, 5, 6, 17] (fun _ => none) [0,1,2,3,4,5] (Tryz.f132.body.getD .skip) [.box 0 0, .pv (.agg b)] [.box [.box 1 0, .mp 2, .mp 3], .box [.pv (.int .i64 sz), .own 4, .own 5], .mp kn, .mp ev, .sl (3, 1) ixm ixn ix, .sl (203, 512) bkm bkn bk] R = _) h)
end
def y0 (sz : Int) (kn ev : List (PV × PV)) (ixm ixn bkm bkn : Bool) (ix bk : LL) (va vb vc vd : Bool) (x20 : Int) (m_2 : List (PV × PV)) (m_3 : List (PV × PV)) (c_7 : List PV) : Env × Hp := ([(0, LV.box 0 0), (3, LV.box 6 0), (7, LV.box 7 0), (20, Y6 x20)], [.box [LV.box 1 0, LV.mp 2, LV.mp 3], .box [Y6 sz, LV.own 4, LV.own 5], .mp m_2, .mp m_3, .sl (3, 1) ixm ixn ix, .sl (203, 512) bkm bkn bk, .box [LV.pv (PV.bool va), LV.pv (PV.bool vb), LV.pv (PV.bool vc), LV.pv (PV.bool vd)], .arr c_7])
section
variable (sz : Int) (kn ev : List (PV × PV)) (ixm ixn bkm bkn : Bool) (ix bk : LL) (va vb vc vd : Bool) (J : Int -> (List (PV × PV)) -> (List (PV × PV)) -> (List PV) -> Prop) (μ : Int -> (List (PV × PV)) -> (List (PV × PV)) -> (List PV) -> Nat)
def zgb (R : LV -> Hp -> Prop) : Prop :=
 cR Tryz.prog 135 ev /\ a8 Tryz.prog 135 (PV.agg [Zb va, Zb vb, Zb vc, Zb vd]) = true /\ (∀ (v : PV), cH (PV.agg [Zb va, Zb vb, Zb vc, Zb vd]) ev = some v -> ∃ n, v = Z6 n /\ R (Y6 n) [Ob.box [LV.box 1 0, LV.mp 2, LV.mp 3],
 Ob.box [Y6 sz, LV.own 4, LV.own 5], Ob.mp kn, Ob.mp ev, Ob.sl (3, 1) ixm ixn ix, Ob.sl (203, 512) bkm bkn bk]) /\ (cH (PV.agg [Zb va, Zb vb, Zb vc, Zb vd]) ev = none -> (SameSt ([(0, LV.box 0 0), (3, LV.box 6 0), (7, LV.box 7 0), (20, Y6
 0)], [Ob.box [LV.box 1 0, LV.mp 2, LV.mp 3], Ob.box [Y6 sz, LV.own 4, LV.own 5], Ob.mp kn, Ob.mp ev, Ob.sl (3, 1) (bif false then true else ixm) ixn ix, Ob.sl (203, 512) (bif false then true else bkm) bkn bk, Ob.box [LV.pv (Zb va), LV.pv
 (Zb vb), LV.pv (Zb vc), LV.pv (Zb vd)], Ob.arr (List.replicate 512 (Zb false))]) (y0 sz kn ev ixm ixn bkm bkn ix bk va vb vc vd (0 : Int) kn ev (List.replicate 512 (Zb false))) /\ J (0 : Int) kn ev (List.replicate 512 (Zb false))) /\ ∀
 (x20 : Int) (m_2 m_3 : List (PV × PV)) (c_7 : List PV), J x20 m_2 m_3 c_7 -> if decide (x20 < 128) = true then ((0 : Int) <= x20 /\ x20 < (↑128 : Int)) /\ (4 = 4 /\ 0 + x20.toNat * 4 + 4 <= c_7.length) /\ SameSt ([(0, LV.box 0 0), (3, LV.box 6 0),
 (7, LV.box 7 0), (20, LV.pv (Z6 (i64.wrap (x20 + 1))))], [Ob.box [LV.box 1 0, LV.mp 2, LV.mp 3], Ob.box [Y6 sz, LV.own 4, LV.own 5], Ob.mp m_2, Ob.mp m_3, Ob.sl (3, 1) (bif false then true else ixm) ixn ix, Ob.sl (203, 512) (bif
 false then true else bkm) bkn bk, Ob.box [LV.pv (Zb va), LV.pv (Zb vb), LV.pv (Zb vc), LV.pv (Zb vd)], Ob.arr (aP c_7 (0 + x20.toNat * 4) [Zb va, Zb vb, Zb vc, Zb vd])]) (y0 sz kn ev ixm ixn bkm bkn ix bk va vb vc vd (i64.wrap
 (x20 + 1)) m_2 m_3 (aP c_7 (0 + x20.toNat * 4) [Zb va, Zb vb, Zb vc, Zb vd])) /\ J (i64.wrap (x20 + 1)) m_2 m_3 (aP c_7 (0 + x20.toNat * 4) [Zb va, Zb vb, Zb vc, Zb vd]) /\ μ (i64.wrap (x20 + 1)) m_2 m_3 (aP c_7 (0 +
 x20.toNat * 4) [Zb va, Zb vb, Zb vc, Zb vd]) < μ x20 m_2 m_3 c_7 else 512 <= (List.drop 0 c_7).length /\ ACall Tryz.prog 132 [LV.box 0 0, LV.pv (PV.agg (List.take 512 (List.drop 0 c_7)))] [Ob.box [LV.box 1 0, LV.mp 2, LV.mp 3], Ob.box [Y6 sz,
 LV.own 4, LV.own 5], Ob.mp m_2, Ob.mp m_3, Ob.sl (3, 1) false ixn ix, Ob.sl ((203 : Nat), 512) false bkn bk] fun (r : LV) (h' : Hp) => ∃ (t : Int × List (PV × PV) × Bool × LL), (r = Y6 t.1 /\ h' = [Ob.box [LV.box 1 0, LV.mp 2, LV.mp 3],
 Ob.box [Y6 sz, LV.own 4, LV.own 5], Ob.mp t.snd.fst, Ob.mp m_3, Ob.sl (3, 1) false ixn ix, Ob.sl (203, 512) true t.snd.snd.fst t.snd.snd.snd]) /\ (True /\ ((3, 1) = (3, 1) /\ ixn = ixn /\ ix.length = ix.length) /\ True /\ True /\ True /\ True /\
 True) /\ cR Tryz.prog 135 m_3 /\ a8 Tryz.prog 135 (PV.agg [Zb va, Zb vb, Zb vc, Zb vd]) = true /\ R (Y6 t.1) [Ob.box [LV.box 1 0, LV.mp 2, LV.mp 3], Ob.box [Y6 sz, LV.own 4, LV.own 5], Ob.mp t.snd.fst, Ob.mp (bI (PV.agg [Zb va, Zb
 vb, Zb vc, Zb vd]) (Z6 t.1) m_3), Ob.sl (3, 1) (ixm || false) ixn ix, Ob.sl (203, 512) (bkm || true) t.snd.snd.fst t.snd.snd.snd])
theorem zqe {R : LV -> Hp -> Prop} (h : zgb sz kn ev ixm ixn bkm bkn ix bk va vb vc vd J μ R) : ACall Tryz.prog 131 [.box 0 0, .pv (.agg [.bool va, .bool vb, .bool vc, .bool vd])] [.box [.box 1 0, .mp 2, .mp 3], .box [.pv (.int .i64 sz), .own 4, .own 5], .mp kn, .mp ev, .sl (3, 1) ixm ixn ix, .sl (203, 512) bkm bkn bk] R :=
 ACall.of Tryz.func131 (by kernel_rfl) (by kernel_rfl) (zl (by kernel_rfl)) (Eq.mpr (by kernel_rfl : dW Tryz.prog (fun zz_ => match zz_ with | 132 => some ⟨Int × List (PV × PV) × Bool × LL, fun _ hs t => (.pv (.int .i64 t.1), match hs with | [m, r, .mp _, ev, ix, .sl a _ _ _] => [m, r, .mp t.2.1, ev, ix, .sl a true t.2.2.1 t.2.2.2] | h => h), none⟩ | _ => none) Tryz.f131 [0, 1, 3, 4, 5, 6, 7, 8, 19, 20, 21] (fun zz_ => match zz_ with | 5 => some ⟨Int × (List (PV × PV)) × (List (PV × PV)) × (List PV), fun s => y0 sz kn ev ixm ixn bkm bkn ix bk va vb vc vd s.1 s.2.1 s.2.2.1 s.2.2.2, fun _ s => J s.1 s.2.1 s.2.2.1 s.2.2.2, fun s => μ s.1 s.2.1 s.2.2.1 s.2.2.2, fun e h => (gI e 20, oM h 2, oM h 3, oA h 7), [], [0, 3, 7, 20], [], fun p => ∀ (x20 : Int) (m_2 : List (PV × PV)) (m_3 : List (PV × PV)) (c_7 : List PV), p (x20, m_2, m_3, c_7), fun p h s => h s.1 s.2.1 s.2.2.1 s.2.2.2⟩ | _ => none) [0,1,2,3,4,5] (Tryz.f131.body.getD .skip) [.box 0 0, .pv (.agg [.bool va, .bool vb, .bool vc, .bool vd])] [.box [.box 1 0, .mp 2, .mp 3], .box [.pv (.int .i64 sz), .own 4, .own 5], .mp kn, .mp ev, .sl (3, 1) ixm ixn ix, .sl (203, 512) bkm bkn bk] R = _) h)
end
def y6 (sz : Int) (za zb zc zd : Bool) (n f : Bool) (es : LL) (x10 x11 : Int) (h3_0 h3_1 h3_2 h3_3 n_4 : Bool) (s_4 : LL) (n_5 : Bool) (s_5 : LL) (m_6 : List (PV × PV)) (m_7 : List (PV × PV)) : Env × Hp := ([(0, Y6 sz), (2, LV.pv (PV.sl n f es)), (4, LV.box 0 0), (7, LV.box 1 0), (8, LV.box 2 0), (9, LV.box 3 0), (10, Y6 x10), (11, Y6 x11)], [.box [LV.pv (PV.bool za), LV.pv (PV.bool zb), LV.pv (PV.bool zc), LV.pv (PV.bool zd)], .box [Y6 sz, LV.own 4, LV.own 5], .box [LV.box 1 0, LV.mp 6, LV.mp 7], .box [.pv (.bool h3_0), .pv (.bool h3_1), .pv (.bool h3_2), .pv (.bool h3_3)], .sl (3, 1) true n_4 s_4, .sl (203, 512) true n_5 s_5, .mp m_6, .mp m_7])
def p9 (sz : Int) (za zb zc zd : Bool) (n f : Bool) (es : LL) (x10 x11 x13 : Int) (h3_0 h3_1 h3_2 h3_3 n_4 : Bool) (s_4 : LL) (n_5 : Bool) (s_5 : LL) (m_6 : List (PV × PV)) (m_7 : List (PV × PV)) : Env × Hp := ([(0, Y6 sz), (2, LV.pv (PV.sl n f es)), (4, LV.box 0 0), (7, LV.box 1 0), (8, LV.box 2 0), (9, LV.box 3 0), (10, Y6 x10), (11, Y6 x11), (13, Y6 x13)], [.box [LV.pv (PV.bool za), LV.pv (PV.bool zb), LV.pv (PV.bool zc), LV.pv (PV.bool zd)], .box [Y6 sz, LV.own 4, LV.own 5], .box [LV.box 1 0, LV.mp 6, LV.mp 7], .box [.pv (.bool h3_0), .pv (.bool h3_1), .pv (.bool h3_2), .pv (.bool h3_3)], .sl (3, 1) true n_4 s_4, .sl (203, 512) true n_5 s_5, .mp m_6, .mp m_7])
def l6 (sz : Int) (za zb zc zd : Bool) (n f : Bool) (es : LL) (x10 x11 x88 : Int) (h3_0 h3_1 h3_2 h3_3 : Bool) (c_4 : List PV) (n_5 : Bool) (s_5 : LL) (n_6 : Bool) (s_6 : LL) (m_7 : List (PV × PV)) (m_8 : List (PV × PV)) : Env × Hp := ([(0, Y6 sz), (2, LV.pv (PV.sl n f es)), (4, LV.box 0 0), (7, LV.box 1 0), (8, LV.box 2 0), (9, LV.box 3 0), (10, Y6 x10), (11, Y6 x11), (14, LV.box 4 0), (88, Y6 x88)], [.box [LV.pv (PV.bool za), LV.pv (PV.bool zb), LV.pv (PV.bool zc), LV.pv (PV.bool zd)], .box [Y6 sz, LV.own 5, LV.own 6], .box [LV.box 1 0, LV.mp 7, LV.mp 8], .box [.pv (.bool h3_0), .pv (.bool h3_1), .pv (.bool h3_2), .pv (.bool h3_3)], .arr c_4, .sl (3, 1) true n_5 s_5, .sl (203, 512) true n_6 s_6, .mp m_7, .mp m_8])
section
variable (sz : Int) (za zb zc zd : Bool) (n f : Bool) (es : LL) (J : Int -> Int -> Bool -> Bool -> Bool -> Bool -> Bool -> LL -> Bool -> LL -> (List (PV × PV)) -> (List (PV × PV)) -> Prop) (μ : Int -> Int -> Bool -> Bool -> Bool -> Bool -> Bool -> LL -> Bool -> LL -> (List (PV × PV)) -> (List (PV × PV)) -> Nat) (J2 : Int -> Int -> Int -> Bool -> Bool -> Bool -> Bool -> Bool -> LL -> Bool -> LL -> (List (PV × PV)) -> (List (PV × PV)) -> Int -> Int -> Int -> Bool -> Bool -> Bool -> Bool -> Bool -> LL -> Bool -> LL -> (List (PV × PV)) -> (List (PV × PV)) -> Prop) (μ2 : Int -> Int -> Int -> Bool -> Bool -> Bool -> Bool -> Bool -> LL -> Bool -> LL -> (List (PV × PV)) -> (List (PV × PV)) -> Nat) (J3 : Int -> Int -> Int -> Bool -> Bool -> Bool -> Bool -> (List PV) -> Bool -> LL -> Bool -> LL -> (List (PV × PV)) -> (List (PV × PV)) -> Int -> Int -> Int -> Bool -> Bool -> Bool -> Bool -> (List PV) -> Bool -> LL -> Bool -> LL -> (List (PV × PV)) -> (List (PV × PV)) -> Prop) (μ3 : Int -> Int -> Int -> Bool -> Bool -> Bool -> Bool -> (List PV) -> Bool -> LL -> Bool -> LL -> (List (PV × PV)) -> (List (PV × PV)) -> Nat)
def zgc (R : PV -> Prop) : Prop :=
 if decide (sz < 1) = true then R PV.nilp else PCall Tryz.prog 130 [PV.sl n f es, PV.agg [Zb za, Zb zb, Zb zc, Zb zd], Z6 0, Z6 (i64.wrap (sz - 1))] fun v => ∃ vs, v = PV.tup vs /\ vs.length = 2 /\ ∃ (x : PV),
  vs.head? = some x /\ ∃ cs, x = PV.agg cs /\ cs.length = 4 /\ ∃ b, cs.head? = some (Zb b) /\ ∃ b1, cs.tail.head? = some (Zb b1) /\ ∃ b2, cs.tail.tail.head? = some (Zb b2) /\ ∃ (b3 : Bool),
  cs.tail.tail.tail.head? = some (Zb b3) /\ ∃ x1, vs.tail.head? = some x1 /\ ∃ n1, x1 = Z6 n1 /\ (aG (y6 sz za zb zc zd n f es n1 (0 : Int) b b1 b2 b3 true [] true [] [] []) /\ J n1 (0 : Int) b b1 b2 b3 true [] true [] []
  []) /\ ∀ (x10 x11 : Int) (h3_0 h3_1 h3_2 h3_3 n_4 : Bool) (s_4 : LL) (n_5 : Bool) (s_5 : LL) (m_6 m_7 : List (PV × PV)), J x10 x11 h3_0 h3_1 h3_2 h3_3 n_4 s_4 n_5 s_5 m_6 m_7 ->
 let K7 := fun (y0_ y1_ : Int) (y2_ y3_ y4_ y5_ y6_ : Bool) (y7_ : LL) (y8_ : Bool) (y9_ : LL) (y10_ : List (PV × PV)) (y11_ : List (PV × PV)) => aG (y6 sz za zb zc zd n f es y0_ y1_ y2_ y3_
  y4_ y5_ y6_ y7_ y8_ y9_ y10_ y11_) /\ J y0_ y1_ y2_ y3_ y4_ y5_ y6_ y7_ y8_ y9_ y10_ y11_ /\ μ y0_ y1_ y2_ y3_ y4_ y5_ y6_ y7_ y8_ y9_ y10_ y11_ < μ x10 x11 h3_0 h3_1 h3_2 h3_3 n_4 s_4 n_5 s_5 m_6 m_7; if decide (x11 < sz) = true then if
  decide (x11 > x10) = true then PCall Tryz.prog 130 [PV.sl n f es, PV.agg [Zb za, Zb zb, Zb zc, Zb zd], Z6 x11, Z6 (i64.wrap (sz - 1))] fun v1 => ∃ vs1, v1 = PV.tup vs1 /\ vs1.length = 2 /\ ∃ x2, vs1.head? =
  some x2 /\ ∃ cs1, x2 = PV.agg cs1 /\ cs1.length = 4 /\ ∃ b4, cs1.head? = some (Zb b4) /\ ∃ b5, cs1.tail.head? = some (Zb b5) /\ ∃ b6, cs1.tail.tail.head? = some (Zb b6) /\ ∃ (b7 : Bool),
  cs1.tail.tail.tail.head? = some (Zb b7) /\ ∃ x3, vs1.tail.head? = some x3 /\ ∃ n2, x3 = Z6 n2 /\ if decide (n2 >= i64.wrap ((if sz < i64.wrap (x11 + 128) then sz else i64.wrap (x11 + 128)) - 1)) = true
  then ACall Tryz.prog 131 [LV.box 0 0, LV.pv (PV.agg [Zb b4, Zb b5, Zb b6, Zb b7])] [Ob.box [LV.box 1 0, LV.mp 2, LV.mp 3], Ob.box [Y6 sz, LV.own 4, LV.own 5], Ob.mp m_6, Ob.mp m_7, Ob.sl (3, 1) false n_4 s_4, Ob.sl (203, 512) false n_5
  s_5] fun (r : LV) (h' : Hp) => ∃ (t : Int × List (PV × PV) × List (PV × PV) × Bool × LL), (r = Y6 t.1 /\ h' = [Ob.box [LV.box 1 0, LV.mp 2, LV.mp 3], Ob.box [Y6 sz, LV.own 4, LV.own 5], Ob.mp t.snd.fst, Ob.mp t.snd.snd.fst, Ob.sl (3, 1)
  false n_4 s_4, Ob.sl (203, 512) true t.snd.snd.snd.fst t.snd.snd.snd.snd]) /\ (True /\ ((3, 1) = (3, 1) /\ n_4 = n_4 /\ s_4.length = s_4.length) /\ True /\ True /\ True /\ True /\ True) /\ (aG (p9 sz za zb zc zd n f es n2 x11 t.1 b4 b5 b6
  b7 n_4 s_4 t.snd.snd.snd.fst t.snd.snd.snd.snd t.snd.fst t.snd.snd.fst) /\ J2 n2 x11 t.1 b4 b5 b6 b7 n_4 s_4 t.snd.snd.snd.fst t.snd.snd.snd.snd t.snd.fst t.snd.snd.fst n2 x11 t.1 b4 b5 b6 b7 n_4 s_4 t.snd.snd.snd.fst t.snd.snd.snd.snd
  t.snd.fst t.snd.snd.fst) /\ ∀ (x101 x111 x13 : Int) (h3_01 h3_11 h3_21 h3_31 n_41 : Bool) (s_41 : LL) (n_51 : Bool) (s_51 : LL) (m_61 m_71 : List (PV × PV)), J2 n2 x11 t.1 b4 b5 b6 b7 n_4 s_4 t.snd.snd.snd.fst t.snd.snd.snd.snd t.snd.fst
  t.snd.snd.fst x101 x111 x13 h3_01 h3_11 h3_21 h3_31 n_41 s_41 n_51 s_51 m_61 m_71 -> if (decide (x111 < sz) && decide (x101 >= i64.wrap ((if sz < i64.wrap (x111 + 128) then sz else i64.wrap (x111 + 128)) - 1))) =
  true then (aT [[Z6 x13]] 1 /\ (s_41.length + 1) * 8 <= 140737488355328) /\ aG (p9 sz za zb zc zd n f es x101 (i64.wrap (x111 + 128)) x13 h3_01 h3_11 h3_21 h3_31 (n_41 && false) (s_41 ++ [[Z6 x13]]) n_51 s_51 m_61 m_71) /\ J2
  n2 x11 t.1 b4 b5 b6 b7 n_4 s_4 t.snd.snd.snd.fst t.snd.snd.snd.snd t.snd.fst t.snd.snd.fst x101 (i64.wrap (x111 + 128)) x13 h3_01 h3_11 h3_21 h3_31 (n_41 && false) (s_41 ++ [[Z6 x13]]) n_51 s_51 m_61 m_71 /\ μ2 x101
  (i64.wrap (x111 + 128)) x13 h3_01 h3_11 h3_21 h3_31 (n_41 && false) (s_41 ++ [[Z6 x13]]) n_51 s_51 m_61 m_71 < μ2 x101 x111 x13 h3_01 h3_11 h3_21 h3_31 n_41 s_41 n_51 s_51 m_61 m_71 else K7 x101 (i64.wrap
  (i64.wrap (x111 - 128) + 128)) h3_01 h3_11 h3_21 h3_31 n_41 s_41 n_51 s_51 m_61 m_71 else (aG (l6 sz za zb zc zd n f es n2 x11 (0 : Int) b4 b5 b6 b7 (List.replicate 512 (Zb false)) n_4 s_4 n_5 s_5 m_6 m_7) /\ J3 n2 x11 (0 :
  Int) b4 b5 b6 b7 (List.replicate 512 (Zb false)) n_4 s_4 n_5 s_5 m_6 m_7 n2 x11 (0 : Int) b4 b5 b6 b7 (List.replicate 512 (Zb false)) n_4 s_4 n_5 s_5 m_6 m_7) /\ ∀ (x101 x111 x88 : Int) (h3_01 h3_11 h3_21 h3_31 : Bool) (c_4 : List PV)
  (n_51 : Bool) (s_51 : LL) (n_6 : Bool) (s_6 : LL) (m_71 m_8 : List (PV × PV)), J3 n2 x11 (0 : Int) b4 b5 b6 b7 (List.replicate 512 (Zb false)) n_4 s_4 n_5 s_5 m_6 m_7 x101 x111 x88 h3_01 h3_11 h3_21 h3_31 c_4 n_51 s_51 n_6 s_6 m_71 m_8 ->
  if decide (x88 < 128) = true then if (decide (i64.wrap (x111 + x88) > x101) && decide (i64.wrap (x111 + x88) < sz)) = true then PCall Tryz.prog 130 [PV.sl n f es, PV.agg [Zb za, Zb zb, Zb zc, Zb zd], Z6 (i64.wrap
  (x111 + x88)), Z6 (i64.wrap (sz - 1))] fun v2 => ∃ vs2, v2 = PV.tup vs2 /\ vs2.length = 2 /\ ∃ x4, vs2.head? = some x4 /\ ∃ cs2, x4 = PV.agg cs2 /\ cs2.length = 4 /\ ∃ b8, cs2.head? = some
  (Zb b8) /\ ∃ b9, cs2.tail.head? = some (Zb b9) /\ ∃ b10, cs2.tail.tail.head? = some (Zb b10) /\ ∃ b11, cs2.tail.tail.tail.head? = some (Zb b11) /\ ∃ x5, vs2.tail.head? = some x5 /\ ∃ n3, x5 = Z6 n3 /\
  ((0 : Int) <= x88 /\ x88 < (↑128 : Int)) /\ (4 = 4 /\ 0 + x88.toNat * 4 + 4 <= c_4.length) /\ aG (l6 sz za zb zc zd n f es n3 x111 (i64.wrap (x88 + 1)) b8 b9 b10 b11 (aP c_4 (0 + x88.toNat * 4) [Zb b8, Zb b9, Zb b10, Zb b11])
  n_51 s_51 n_6 s_6 m_71 m_8) /\ J3 n2 x11 (0 : Int) b4 b5 b6 b7 (List.replicate 512 (Zb false)) n_4 s_4 n_5 s_5 m_6 m_7 n3 x111 (i64.wrap (x88 + 1)) b8 b9 b10 b11 (aP c_4 (0 + x88.toNat * 4) [Zb b8, Zb b9, Zb b10, Zb b11]) n_51
  s_51 n_6 s_6 m_71 m_8 /\ μ3 n3 x111 (i64.wrap (x88 + 1)) b8 b9 b10 b11 (aP c_4 (0 + x88.toNat * 4) [Zb b8, Zb b9, Zb b10, Zb b11]) n_51 s_51 n_6 s_6 m_71 m_8 < μ3 x101 x111 x88 h3_01 h3_11 h3_21 h3_31 c_4 n_51 s_51 n_6 s_6 m_71
  m_8 else ((0 : Int) <= x88 /\ x88 < (↑128 : Int)) /\ (4 = 4 /\ 0 + x88.toNat * 4 + 4 <= c_4.length) /\ aG (l6 sz za zb zc zd n f es x101 x111 (i64.wrap (x88 + 1)) h3_01 h3_11 h3_21 h3_31 (aP c_4 (0 + x88.toNat * (4 : Nat)) [Zb
  h3_01, Zb h3_11, Zb h3_21, Zb h3_31]) n_51 s_51 n_6 s_6 m_71 m_8) /\ J3 n2 x11 (0 : Int) b4 b5 b6 b7 (List.replicate 512 (Zb false)) n_4 s_4 n_5 s_5 m_6 m_7 x101 x111 (i64.wrap (x88 + 1)) h3_01 h3_11 h3_21 h3_31 (aP c_4 (0 +
  x88.toNat * (4 : Nat)) [Zb h3_01, Zb h3_11, Zb h3_21, Zb h3_31]) n_51 s_51 n_6 s_6 m_71 m_8 /\ μ3 x101 x111 (i64.wrap (x88 + 1)) h3_01 h3_11 h3_21 h3_31 (aP c_4 (0 + x88.toNat * 4) [Zb h3_01, Zb h3_11, Zb h3_21, Zb h3_31]) n_51
  s_51 n_6 s_6 m_71 m_8 < μ3 x101 x111 x88 h3_01 h3_11 h3_21 h3_31 c_4 n_51 s_51 n_6 s_6 m_71 m_8 else 512 <= (List.drop 0 c_4).length /\
 let V1 := ACall Tryz.prog 132 [LV.box 0 0, LV.pv (PV.agg (List.take 512 (List.drop 0 c_4)))] [Ob.box [LV.box 1 0, LV.mp 2, LV.mp 3], Ob.box [Y6 sz, LV.own 4, LV.own 5], Ob.mp m_71, Ob.mp m_8, Ob.sl (3, 1) false n_51 s_51, Ob.sl (203, 512)
  false n_6 s_6] fun (r : LV) (h' : Hp) => ∃ (t : Int × List (PV × PV) × Bool × LL), (r = Y6 t.1 /\ h' = [Ob.box [LV.box 1 0, LV.mp 2, LV.mp 3], Ob.box [Y6 sz, LV.own 4, LV.own 5], Ob.mp t.snd.fst, Ob.mp m_8, Ob.sl (3, 1) false n_51 s_51,
  Ob.sl (203, 512) true t.snd.snd.fst t.snd.snd.snd]) /\ (True /\ ((3, 1) = (3, 1) /\ n_51 = n_51 /\ s_51.length = s_51.length) /\ True /\ True /\ True /\ True /\ True) /\ (aT [[Z6 t.1]] 1 /\ (s_51.length + 1) * 8 <= 140737488355328) /\ K7 x101
  (i64.wrap (x111 + 128)) h3_01 h3_11 h3_21 h3_31 (n_51 && false) (s_51 ++ [[Z6 t.1]]) t.snd.snd.fst t.snd.snd.snd t.snd.fst m_8; V1 /\ V1 else if decide (x10 >= i64.wrap ((if sz < i64.wrap (x11 + 128) then sz else
  i64.wrap (x11 + 128)) - 1)) = true then ACall Tryz.prog 131 [LV.box 0 0, LV.pv (PV.agg [Zb h3_0, Zb h3_1, Zb h3_2, Zb h3_3])] [Ob.box [LV.box 1 0, LV.mp 2, LV.mp 3], Ob.box [Y6 sz, LV.own 4, LV.own 5], Ob.mp m_6, Ob.mp m_7, Ob.sl
  ((3 : Nat), 1) false n_4 s_4, Ob.sl (203, 512) false n_5 s_5] fun (r : LV) (h' : Hp) => ∃ (t : Int × List (PV × PV) × List (PV × PV) × Bool × LL), (r = Y6 t.1 /\ h' = [Ob.box [LV.box 1 0, LV.mp 2, LV.mp 3], Ob.box [Y6 sz, LV.own 4, LV.own
  5], Ob.mp t.snd.fst, Ob.mp t.snd.snd.fst, Ob.sl (3, 1) false n_4 s_4, Ob.sl (203, 512) true t.snd.snd.snd.fst t.snd.snd.snd.snd]) /\ (True /\ (((3 : Nat), 1) = (3, 1) /\ n_4 = n_4 /\ s_4.length = s_4.length) /\ True /\ True /\ True /\ True /\
  True) /\ (aG (p9 sz za zb zc zd n f es x10 x11 t.1 h3_0 h3_1 h3_2 h3_3 n_4 s_4 t.snd.snd.snd.fst t.snd.snd.snd.snd t.snd.fst t.snd.snd.fst) /\ J2 x10 x11 t.1 h3_0 h3_1 h3_2 h3_3 n_4 s_4 t.snd.snd.snd.fst t.snd.snd.snd.snd t.snd.fst
  t.snd.snd.fst x10 x11 t.1 h3_0 h3_1 h3_2 h3_3 n_4 s_4 t.snd.snd.snd.fst t.snd.snd.snd.snd t.snd.fst t.snd.snd.fst) /\ ∀ (x101 x111 x13 : Int) (h3_01 h3_11 h3_21 h3_31 n_41 : Bool) (s_41 : LL) (n_51 : Bool) (s_51 : LL) (m_61 m_71 : List
  (PV × PV)), J2 x10 x11 t.1 h3_0 h3_1 h3_2 h3_3 n_4 s_4 t.snd.snd.snd.fst t.snd.snd.snd.snd t.snd.fst t.snd.snd.fst x101 x111 x13 h3_01 h3_11 h3_21 h3_31 n_41 s_41 n_51 s_51 m_61 m_71 -> if (decide (x111 < sz) && decide (x101 >=
  i64.wrap ((if sz < i64.wrap (x111 + 128) then sz else i64.wrap (x111 + 128)) - 1))) = true then (aT [[Z6 x13]] 1 /\ (s_41.length + 1) * 8 <= (140737488355328 : Nat)) /\ aG (p9 sz za zb zc zd n f es x101
  (i64.wrap (x111 + 128)) x13 h3_01 h3_11 h3_21 h3_31 (n_41 && false) (s_41 ++ [[Z6 x13]]) n_51 s_51 m_61 m_71) /\ J2 x10 x11 t.1 h3_0 h3_1 h3_2 h3_3 n_4 s_4 t.snd.snd.snd.fst t.snd.snd.snd.snd t.snd.fst t.snd.snd.fst x101
  (i64.wrap (x111 + 128)) x13 h3_01 h3_11 h3_21 h3_31 (n_41 && false) (s_41 ++ [[Z6 x13]]) n_51 s_51 m_61 m_71 /\ μ2 x101 (i64.wrap (x111 + 128)) x13 h3_01 h3_11 h3_21 h3_31 (n_41 && false) (s_41 ++ [[Z6 x13]]) n_51 s_51
  m_61 m_71 < μ2 x101 x111 x13 h3_01 h3_11 h3_21 h3_31 n_41 s_41 n_51 s_51 m_61 m_71 else K7 x101 (i64.wrap (i64.wrap (x111 - 128) + 128)) h3_01 h3_11 h3_21 h3_31 n_41 s_41 n_51 s_51 m_61 m_71 else (aG (l6 sz za zb
  zc zd n f es x10 x11 (0 : Int) h3_0 h3_1 h3_2 h3_3 (List.replicate 512 (Zb false)) n_4 s_4 n_5 s_5 m_6 m_7) /\ J3 x10 x11 (0 : Int) h3_0 h3_1 h3_2 h3_3 (List.replicate 512 (Zb false)) n_4 s_4 n_5 s_5 m_6 m_7 x10 x11 (0 : Int) h3_0 h3_1
  h3_2 h3_3 (List.replicate 512 (Zb false)) n_4 s_4 n_5 s_5 m_6 m_7) /\ ∀ (x101 x111 x88 : Int) (h3_01 h3_11 h3_21 h3_31 : Bool) (c_4 : List PV) (n_51 : Bool) (s_51 : LL) (n_6 : Bool) (s_6 : LL) (m_71 m_8 : List (PV × PV)), J3 x10 x11 (0 :
  Int) h3_0 h3_1 h3_2 h3_3 (List.replicate 512 (Zb false)) n_4 s_4 n_5 s_5 m_6 m_7 x101 x111 x88 h3_01 h3_11 h3_21 h3_31 c_4 n_51 s_51 n_6 s_6 m_71 m_8 -> if decide (x88 < 128) = true then if (decide (i64.wrap (x111 + x88) > x101)
  && decide (i64.wrap (x111 + x88) < sz)) = true then PCall Tryz.prog 130 [PV.sl n f es, PV.agg [Zb za, Zb zb, Zb zc, Zb zd], Z6 (i64.wrap (x111 + x88)), Z6 (i64.wrap (sz - 1))] fun v1 => ∃ vs1, v1
  = PV.tup vs1 /\ vs1.length = 2 /\ ∃ x2, vs1.head? = some x2 /\ ∃ cs1, x2 = PV.agg cs1 /\ cs1.length = 4 /\ ∃ b4, cs1.head? = some (Zb b4) /\ ∃ b5, cs1.tail.head? = some (Zb b5) /\ ∃ (b6 : Bool),
  cs1.tail.tail.head? = some (Zb b6) /\ ∃ b7, cs1.tail.tail.tail.head? = some (Zb b7) /\ ∃ x3, vs1.tail.head? = some x3 /\ ∃ n2, x3 = Z6 n2 /\ ((0 : Int) <= x88 /\ x88 < (↑128 : Int)) /\ (4 = 4 /\ 0 + x88.toNat * (4 : Nat)
  + 4 <= c_4.length) /\ aG (l6 sz za zb zc zd n f es n2 x111 (i64.wrap (x88 + 1)) b4 b5 b6 b7 (aP c_4 (0 + x88.toNat * 4) [Zb b4, Zb b5, Zb b6, Zb b7]) n_51 s_51 n_6 s_6 m_71 m_8) /\ J3 x10 x11 (0 : Int) h3_0 h3_1 h3_2 h3_3
  (List.replicate 512 (Zb false)) n_4 s_4 n_5 s_5 m_6 m_7 n2 x111 (i64.wrap (x88 + 1)) b4 b5 b6 b7 (aP c_4 (0 + x88.toNat * 4) [Zb b4, Zb b5, Zb b6, Zb b7]) n_51 s_51 n_6 s_6 m_71 m_8 /\ μ3 n2 x111 (i64.wrap (x88 + 1)) b4
  b5 b6 b7 (aP c_4 (0 + x88.toNat * 4) [Zb b4, Zb b5, Zb b6, Zb b7]) n_51 s_51 n_6 s_6 m_71 m_8 < μ3 x101 x111 x88 h3_01 h3_11 h3_21 h3_31 c_4 n_51 s_51 n_6 s_6 m_71 m_8 else ((0 : Int) <= x88 /\ x88 < (↑128 : Int)) /\ (4 = 4 /\ 0 + x88.toNat
  * 4 + 4 <= c_4.length) /\ aG (l6 sz za zb zc zd n f es x101 x111 (i64.wrap (x88 + 1)) h3_01 h3_11 h3_21 h3_31 (aP c_4 (0 + x88.toNat * 4) [Zb h3_01, Zb h3_11, Zb h3_21, Zb h3_31]) n_51 s_51 n_6 s_6 m_71 m_8) /\ J3 x10 x11 (0
  : Int) h3_0 h3_1 h3_2 h3_3 (List.replicate 512 (Zb false)) n_4 s_4 n_5 s_5 m_6 m_7 x101 x111 (i64.wrap (x88 + 1)) h3_01 h3_11 h3_21 h3_31 (aP c_4 (0 + x88.toNat * 4) [Zb h3_01, Zb h3_11, Zb h3_21, Zb h3_31]) n_51 s_51 n_6 s_6
  m_71 m_8 /\ μ3 x101 x111 (i64.wrap (x88 + 1)) h3_01 h3_11 h3_21 h3_31 (aP c_4 (0 + x88.toNat * (4 : Nat)) [Zb h3_01, Zb h3_11, Zb h3_21, Zb h3_31]) n_51 s_51 n_6 s_6 m_71 m_8 < μ3 x101 x111 x88 h3_01 h3_11 h3_21 h3_31 c_4 n_51
  s_51 n_6 s_6 m_71 m_8 else 512 <= (List.drop 0 c_4).length /\
 let V2 := ACall Tryz.prog 132 [LV.box 0 0, LV.pv (PV.agg (List.take 512 (List.drop 0 c_4)))] [Ob.box [LV.box 1 0, LV.mp 2, LV.mp 3], Ob.box [Y6 sz, LV.own 4, LV.own 5], Ob.mp m_71, Ob.mp m_8, Ob.sl (3, 1) false n_51 s_51, Ob.sl ((203 :
  Nat), 512) false n_6 s_6] fun (r : LV) (h' : Hp) => ∃ (t : Int × List (PV × PV) × Bool × LL), (r = Y6 t.1 /\ h' = [Ob.box [LV.box 1 0, LV.mp 2, LV.mp 3], Ob.box [Y6 sz, LV.own 4, LV.own 5], Ob.mp t.snd.fst, Ob.mp m_8, Ob.sl (3, 1) false
  n_51 s_51, Ob.sl (203, 512) true t.snd.snd.fst t.snd.snd.snd]) /\ (True /\ ((3, 1) = (3, 1) /\ n_51 = n_51 /\ s_51.length = s_51.length) /\ True /\ True /\ True /\ True /\ True) /\ (aT [[Z6 t.1]] 1 /\ (s_51.length + 1) * 8 <= 140737488355328) /\ K7
  x101 (i64.wrap (x111 + 128)) h3_01 h3_11 h3_21 h3_31 (n_51 && false) (s_51 ++ [[Z6 t.1]]) t.snd.snd.fst t.snd.snd.snd t.snd.fst m_8; V2 /\ V2 else R (PV.ptr [Z6 sz, PV.sl n_4 false s_4, PV.sl n_5 false s_5])
theorem zqf {R : PV -> Prop} (h : zgc sz za zb zc zd n f es J μ J2 μ2 J3 μ3 R) : PCall Tryz.prog 92 [.int .i64 sz, .agg [.bool za, .bool zb, .bool zc, .bool zd], .sl n f es] R :=
 PCall.of Tryz.func92 (by kernel_rfl) (by kernel_rfl) (zl (by kernel_rfl)) (Eq.mpr (by kernel_rfl : aO Tryz.prog (fun zz_ => match zz_ with | 132 => some ⟨Int × List (PV × PV) × Bool × LL, fun _ hs t => (.pv (.int .i64 t.1), match hs with | [m, r, .mp _, ev, ix, .sl a _ _ _] => [m, r, .mp t.2.1, ev, ix, .sl a true t.2.2.1 t.2.2.2] | h => h), none⟩ | 131 => some ⟨Int × List (PV × PV) × List (PV × PV) × Bool × LL, fun _ hs t => (.pv (.int .i64 t.1), match hs with | [m, r, .mp _, .mp _, ix, .sl a _ _ _] => [m, r, .mp t.2.1, .mp t.2.2.1, ix, .sl a true t.2.2.2.1 t.2.2.2.2] | h => h), none⟩ | _ => none) Tryz.f92 [0, 1, 2, 4, 6, 7, 8, 9, 10, 11, 12, 13, 14, 15, 17, 36, 41, 58, 73, 88, 89, 102] (fun zz_ => match zz_ with | 7 => some ⟨Int × Int × Bool × Bool × Bool × Bool × Bool × LL × Bool × LL × (List (PV × PV)) × (List (PV × PV)), fun s => y6 sz za zb zc zd n f es s.1 s.2.1 s.2.2.1 s.2.2.2.1 s.2.2.2.2.1 s.2.2.2.2.2.1 s.2.2.2.2.2.2.1 s.2.2.2.2.2.2.2.1 s.2.2.2.2.2.2.2.2.1 s.2.2.2.2.2.2.2.2.2.1 s.2.2.2.2.2.2.2.2.2.2.1 s.2.2.2.2.2.2.2.2.2.2.2, fun _ s => J s.1 s.2.1 s.2.2.1 s.2.2.2.1 s.2.2.2.2.1 s.2.2.2.2.2.1 s.2.2.2.2.2.2.1 s.2.2.2.2.2.2.2.1 s.2.2.2.2.2.2.2.2.1 s.2.2.2.2.2.2.2.2.2.1 s.2.2.2.2.2.2.2.2.2.2.1 s.2.2.2.2.2.2.2.2.2.2.2, fun s => μ s.1 s.2.1 s.2.2.1 s.2.2.2.1 s.2.2.2.2.1 s.2.2.2.2.2.1 s.2.2.2.2.2.2.1 s.2.2.2.2.2.2.2.1 s.2.2.2.2.2.2.2.2.1 s.2.2.2.2.2.2.2.2.2.1 s.2.2.2.2.2.2.2.2.2.2.1 s.2.2.2.2.2.2.2.2.2.2.2, fun e h => (gI e 10, gI e 11, hB h 3 0, hB h 3 1, hB h 3 2, hB h 3 3, oN h 4, oS h 4, oN h 5, oS h 5, oM h 6, oM h 7), [(1001001, 3, 1), (1001002, 203, 512)], [0, 2, 4, 7, 8, 9, 10, 11], [], fun p => ∀ (x10 x11 : Int) (h3_0 h3_1 h3_2 h3_3 n_4 : Bool) (s_4 : LL) (n_5 : Bool) (s_5 : LL) (m_6 : List (PV × PV)) (m_7 : List (PV × PV)), p (x10, x11, h3_0, h3_1, h3_2, h3_3, n_4, s_4, n_5, s_5, m_6, m_7), fun p h s => h s.1 s.2.1 s.2.2.1 s.2.2.2.1 s.2.2.2.2.1 s.2.2.2.2.2.1 s.2.2.2.2.2.2.1 s.2.2.2.2.2.2.2.1 s.2.2.2.2.2.2.2.2.1 s.2.2.2.2.2.2.2.2.2.1 s.2.2.2.2.2.2.2.2.2.2.1 s.2.2.2.2.2.2.2.2.2.2.2⟩ | 14 => some ⟨Int × Int × Int × Bool × Bool × Bool × Bool × Bool × LL × Bool × LL × (List (PV × PV)) × (List (PV × PV)), fun s => p9 sz za zb zc zd n f es s.1 s.2.1 s.2.2.1 s.2.2.2.1 s.2.2.2.2.1 s.2.2.2.2.2.1 s.2.2.2.2.2.2.1 s.2.2.2.2.2.2.2.1 s.2.2.2.2.2.2.2.2.1 s.2.2.2.2.2.2.2.2.2.1 s.2.2.2.2.2.2.2.2.2.2.1 s.2.2.2.2.2.2.2.2.2.2.2.1 s.2.2.2.2.2.2.2.2.2.2.2.2, fun t s => J2 t.1 t.2.1 t.2.2.1 t.2.2.2.1 t.2.2.2.2.1 t.2.2.2.2.2.1 t.2.2.2.2.2.2.1 t.2.2.2.2.2.2.2.1 t.2.2.2.2.2.2.2.2.1 t.2.2.2.2.2.2.2.2.2.1 t.2.2.2.2.2.2.2.2.2.2.1 t.2.2.2.2.2.2.2.2.2.2.2.1 t.2.2.2.2.2.2.2.2.2.2.2.2 s.1 s.2.1 s.2.2.1 s.2.2.2.1 s.2.2.2.2.1 s.2.2.2.2.2.1 s.2.2.2.2.2.2.1 s.2.2.2.2.2.2.2.1 s.2.2.2.2.2.2.2.2.1 s.2.2.2.2.2.2.2.2.2.1 s.2.2.2.2.2.2.2.2.2.2.1 s.2.2.2.2.2.2.2.2.2.2.2.1 s.2.2.2.2.2.2.2.2.2.2.2.2, fun s => μ2 s.1 s.2.1 s.2.2.1 s.2.2.2.1 s.2.2.2.2.1 s.2.2.2.2.2.1 s.2.2.2.2.2.2.1 s.2.2.2.2.2.2.2.1 s.2.2.2.2.2.2.2.2.1 s.2.2.2.2.2.2.2.2.2.1 s.2.2.2.2.2.2.2.2.2.2.1 s.2.2.2.2.2.2.2.2.2.2.2.1 s.2.2.2.2.2.2.2.2.2.2.2.2, fun e h => (gI e 10, gI e 11, gI e 13, hB h 3 0, hB h 3 1, hB h 3 2, hB h 3 3, oN h 4, oS h 4, oN h 5, oS h 5, oM h 6, oM h 7), [], [0, 2, 4, 7, 8, 9, 10, 11, 13], [], fun p => ∀ (x10 x11 x13 : Int) (h3_0 h3_1 h3_2 h3_3 n_4 : Bool) (s_4 : LL) (n_5 : Bool) (s_5 : LL) (m_6 : List (PV × PV)) (m_7 : List (PV × PV)), p (x10, x11, x13, h3_0, h3_1, h3_2, h3_3, n_4, s_4, n_5, s_5, m_6, m_7), fun p h s => h s.1 s.2.1 s.2.2.1 s.2.2.2.1 s.2.2.2.2.1 s.2.2.2.2.2.1 s.2.2.2.2.2.2.1 s.2.2.2.2.2.2.2.1 s.2.2.2.2.2.2.2.2.1 s.2.2.2.2.2.2.2.2.2.1 s.2.2.2.2.2.2.2.2.2.2.1 s.2.2.2.2.2.2.2.2.2.2.2.1 s.2.2.2.2.2.2.2.2.2.2.2.2⟩ | 20 => some ⟨Int × Int × Int × Bool × Bool × Bool × Bool × (List PV) × Bool × LL × Bool × LL × (List (PV × PV)) × (List (PV × PV)), fun s => l6 sz za zb zc zd n f es s.1 s.2.1 s.2.2.1 s.2.2.2.1 s.2.2.2.2.1 s.2.2.2.2.2.1 s.2.2.2.2.2.2.1 s.2.2.2.2.2.2.2.1 s.2.2.2.2.2.2.2.2.1 s.2.2.2.2.2.2.2.2.2.1 s.2.2.2.2.2.2.2.2.2.2.1 s.2.2.2.2.2.2.2.2.2.2.2.1 s.2.2.2.2.2.2.2.2.2.2.2.2.1 s.2.2.2.2.2.2.2.2.2.2.2.2.2, fun t s => J3 t.1 t.2.1 t.2.2.1 t.2.2.2.1 t.2.2.2.2.1 t.2.2.2.2.2.1 t.2.2.2.2.2.2.1 t.2.2.2.2.2.2.2.1 t.2.2.2.2.2.2.2.2.1 t.2.2.2.2.2.2.2.2.2.1 t.2.2.2.2.2.2.2.2.2.2.1 t.2.2.2.2.2.2.2.2.2.2.2.1 t.2.2.2.2.2.2.2.2.2.2.2.2.1 t.2.2.2.2.2.2.2.2.2.2.2.2.2 s.1 s.2.1 s.2.2.1 s.2.2.2.1 s.2.2.2.2.1 s.2.2.2.2.2.1 s.2.2.2.2.2.2.1 s.2.2.2.2.2.2.2.1 s.2.2.2.2.2.2.2.2.1 s.2.2.2.2.2.2.2.2.2.1 s.2.2.2.2.2.2.2.2.2.2.1 s.2.2.2.2.2.2.2.2.2.2.2.1 s.2.2.2.2.2.2.2.2.2.2.2.2.1 s.2.2.2.2.2.2.2.2.2.2.2.2.2, fun s => μ3 s.1 s.2.1 s.2.2.1 s.2.2.2.1 s.2.2.2.2.1 s.2.2.2.2.2.1 s.2.2.2.2.2.2.1 s.2.2.2.2.2.2.2.1 s.2.2.2.2.2.2.2.2.1 s.2.2.2.2.2.2.2.2.2.1 s.2.2.2.2.2.2.2.2.2.2.1 s.2.2.2.2.2.2.2.2.2.2.2.1 s.2.2.2.2.2.2.2.2.2.2.2.2.1 s.2.2.2.2.2.2.2.2.2.2.2.2.2, fun e h => (gI e 10, gI e 11, gI e 88, hB h 3 0, hB h 3 1, hB h 3 2, hB h 3 3, oA h 4, oN h 5, oS h 5, oN h 6, oS h 6, oM h 7, oM h 8), [], [0, 2, 4, 7, 8, 9, 10, 11, 14, 88], [], fun p => ∀ (x10 x11 x88 : Int) (h3_0 h3_1 h3_2 h3_3 : Bool) (c_4 : List PV) (n_5 : Bool) (s_5 : LL) (n_6 : Bool) (s_6 : LL) (m_7 : List (PV × PV)) (m_8 : List (PV × PV)), p (x10, x11, x88, h3_0, h3_1, h3_2, h3_3, c_4, n_5, s_5, n_6, s_6, m_7, m_8), fun p h s => h s.1 s.2.1 s.2.2.1 s.2.2.2.1 s.2.2.2.2.1 s.2.2.2.2.2.1 s.2.2.2.2.2.2.1 s.2.2.2.2.2.2.2.1 s.2.2.2.2.2.2.2.2.1 s.2.2.2.2.2.2.2.2.2.1 s.2.2.2.2.2.2.2.2.2.2.1 s.2.2.2.2.2.2.2.2.2.2.2.1 s.2.2.2.2.2.2.2.2.2.2.2.2.1 s.2.2.2.2.2.2.2.2.2.2.2.2.2⟩ | _ => none) (Tryz.f92.body.getD .skip) [.int .i64 sz, .agg [.bool za, .bool zb, .bool zc, .bool zd], .sl n f es] R = _) h)
end
end Go.Eng



namespace Go.Eng
open Go Go.Proofs Go.Eng.Trie
def encF (v : (Bool × Bool × Bool × Bool)) : List PV := [.bool v.1, .bool v.2.1, .bool v.2.2.1, .bool v.2.2.2]
theorem EF : Enc Tryz.prog [4, 4, 4, 4] encF := ⟨fun a => by
 simp only [encF, bA, Bool.and_true]
 rw [show Tryz.prog.underlying 4 = some (.bool) by kernel_rfl]
 rfl, fun a b => by
 obtain ⟨a0, a1, a2, a3⟩ := a
 obtain ⟨b0, b1, b2, b3⟩ := b
 simp only [encF, bR, dY, Bool.and_true]
 rw [Bool.eq_iff_iff]
 simp⟩
def pcF (p : Pc (Bool × Bool × Bool × Bool)) : List PV := [.int .i64 p.fr, .int .i64 p.to] ++ encF p.v
def jY (l : List (Pc (Bool × Bool × Bool × Bool))) : List (List PV) := l.map pcF
theorem zqg (p : Pc (Bool × Bool × Bool × Bool)) : (pcF p).length = 6 := rfl
theorem zgd (l : List (Pc (Bool × Bool × Bool × Bool))) : (jY l).length = l.length := by simp [jY]
theorem y7 (n f : Bool) (l : List (Pc (Bool × Bool × Bool × Bool))) (z : (Bool × Bool × Bool × Bool)) (i last : Int) (hl : l.length < 4611686018427387904) (hok : ∀ p ∈ l, -9223372036854775808 <= p.fr - 1 /\ p.fr - 1 <= 9223372036854775807) :
 PCall Tryz.prog 130 [.sl n f (jY l), .agg (encF z), .int .i64 i, .int .i64 last] fun v => v = .tup [.agg (encF (findL l z i last).1), .int .i64 (findL l z i last).2] := by
 refine zqb _ _ _ z.1 z.2.1 z.2.2.1 z.2.2.2 _ _ (fun a k _ _ _ _ => 0 <= k /\ k <= l.length /\ findL l z i last = findL (l.drop k.toNat) z i a) (fun _ k _ _ _ _ => l.length - k.toNat) ?_
 unfold zf8
 refine ⟨⟨rfl, Int.le_refl _, by omega, rfl⟩, ?_⟩
 rintro a k _ _ _ _ ⟨k0, k1, he⟩
 refine aD (fun hc => ?_) (fun hc => ?_)
 ·simp only [decide_eq_true_eq, zgd] at hc
  have hk : k.toNat < l.length := by omega
  have hw : i64.wrap (k + 1) = k + 1 := aC (by omega) (by omega)
  have hn : (k + 1).toNat = k.toNat + 1 := by omega
  have hg : (jY l).getD k.toNat [] = pcF l[k.toNat] := cN hk
  have hix : aK (jY l) k 6 := bW zqg k0 (by omega)
  have hm := hok _ (List.getElem_mem hk)
  rw [drop_cons hk] at he
  rw [hw]
  dsimp only
  rw [hn]
  have hmu : l.length - (k.toNat + 1) < l.length - k.toNat := by omega
  refine ⟨hix, l[k.toNat].fr, by rw [hg]; rfl, l[k.toNat].to, by rw [hg]; rfl, l[k.toNat].v.1, by rw [hg]; rfl, l[k.toNat].v.2.1, by rw [hg]; rfl, l[k.toNat].v.2.2.1, by rw [hg]; rfl, l[k.toNat].v.2.2.2, by rw [hg]; rfl, ?_⟩
  generalize l[k.toNat] = p at *
  have hw2 : i64.wrap (p.fr - 1) = p.fr - 1 := aC hm.1 hm.2
  rw [hw2]
  rw [yL] at he
  by_cases h1 : p.fr <= i
  ·refine bG (by simpa using h1) ?_
   by_cases h2 : i <= p.to
   ·refine bG (by simpa using h2) ?_
    rw [if_pos ⟨h1, h2⟩] at he
    rw [he]
    repeat' (first | rfl | apply And.intro)
   ·refine bK (by simpa using h2) ?_
    rw [if_neg (by omega), if_neg (by omega)] at he
    refine bK (by simp; omega) ?_
    exact ⟨rfl, ⟨by omega, by omega, he⟩, hmu⟩
  ·refine bK (by simpa using h1) ?_
   rw [if_neg (by omega)] at he
   refine bG (by simp; omega) ?_
   by_cases h3 : p.fr <= a
   ·refine bG (by simpa using h3) ?_
    rw [if_pos (by omega)] at he
    exact ⟨rfl, ⟨by omega, by omega, he⟩, hmu⟩
   ·refine bK (by simpa using h3) ?_
    rw [if_neg (by omega)] at he
    exact ⟨rfl, ⟨by omega, by omega, he⟩, hmu⟩
 ·simp only [decide_eq_true_eq, zgd] at hc
  rw [List.drop_of_length_le (by omega)] at he
  rw [he]; rfl
def TrieF (sz : Int) (F : Int -> (Bool × Bool × Bool × Bool)) (v : PV) : Prop := ∃ n f n2 f2 idx blk, v = .ptr [.int .i64 sz, .sl n f (aX idx), .sl n2 f2 (bB encF blk)] /\ TOK sz F idx blk
theorem zge {sz : Int} {F : Int -> (Bool × Bool × Bool × Bool)} {t : PV} (ht : TrieF sz F t) (i : Int) (h1 : sz <= 1114112) : PCall Tryz.prog 102 [t, .int .i64 i] fun v => v = .agg (encF (if 0 <= i /\ i < sz then F i else (false, false, false, false))) := by
 obtain ⟨n, f, n2, f2, idx, blk, rfl, ht⟩ := ht
 refine zqc _ _ _ _ _ _ _ _ ?_
 unfold zf9
 refine aD (fun hc => ?_) (fun hc => ?_)
 ·simp only [decide_eq_true_eq] at hc
  rw [if_neg (by omega)]; rfl
 ·simp only [decide_eq_true_eq] at hc
  refine ⟨_, rfl, ?_⟩
  refine aD (fun hc2 => ?_) (fun hc2 => ?_)
  ·simp only [decide_eq_true_eq, ge_iff_le] at hc2
   rw [if_neg (by omega)]; rfl
  ·simp only [decide_eq_true_eq, ge_iff_le] at hc2
   rw [if_pos (by omega)]
   obtain ⟨hq, g0, hk, hj, he⟩ := ht.get (i := i) (by omega) (by omega)
   have hw : i64.wrap (i.tdiv 128) = i / 128 := by rw [Int.tdiv_eq_ediv_of_nonneg (by omega)]; exact aC (by omega) (by omega)
   have hm : i.tmod 128 = i % 128 := Int.tmod_eq_emod_of_nonneg (by omega)
   have hg : (aX idx).getD (i / 128).toNat [] = [.int .i64 idx[(i / 128).toNat]] := cN hq
   have hg2 : (bB encF blk).getD idx[(i / 128).toNat].toNat [] = cells encF blk[idx[(i / 128).toNat].toNat] := cN hk
   refine ⟨_, _, _, rfl, _, _, _, rfl, ?_⟩
   rw [hw]
   have := EF.at _ _ hj
   simp only [List.length_cons, List.length_nil, Nat.zero_add, Nat.reduceAdd] at this
   have hcell : List.drop ((i % 128).toNat * 4) ((bB encF blk).getD idx[(i / 128).toNat].toNat []) = encF (F i) ++ (List.drop ((i % 128).toNat + 1) (blk[idx[(i / 128).toNat].toNat]).1).flatMap encF := by
    rw [hg2]; unfold cells; rw [this, he]
   refine ⟨bW lZ (by omega) (by omega), idx[(i / 128).toNat], by rw [hg]; rfl, bW (EF.cells_len) g0 (by omega), by rw [hm]; omega, ?_⟩
   rw [hm, hcell]
   exact ⟨(F i).1, rfl, (F i).2.1, rfl, (F i).2.2.1, rfl, (F i).2.2.2, rfl, rfl⟩
def cF (b : aR (Bool × Bool × Bool × Bool)) : List PV := cells encF b
def kvF (k : Int) : PV := .int .i64 k
def eZ (kn : List (aR (Bool × Bool × Bool × Bool) × Int)) : List (PV × PV) := cC (fun b => .agg (cF b)) kvF kn
def fU (ev : List ((Bool × Bool × Bool × Bool) × Int)) : List (PV × PV) := cC (fun v => .agg (encF v)) kvF ev
def kT (sz : Int) (kn : List (aR (Bool × Bool × Bool × Bool) × Int)) (ev : List ((Bool × Bool × Bool × Bool) × Int)) (ixm ixn bkm bkn : Bool) (idx : List Int) (blk : List (aR (Bool × Bool × Bool × Bool))) : Hp :=
 [.box [.box 1 0, .mp 2, .mp 3], .box [.pv (.int .i64 sz), .own 4, .own 5], .mp (eZ kn), .mp (fU ev), .sl (3, 1) ixm ixn (aX idx), .sl (203, 512) bkm bkn (bB encF blk)]
theorem l7 (b : aR (Bool × Bool × Bool × Bool)) : (cF b).length = 512 := EF.cells_len b
theorem y8 (b : aR (Bool × Bool × Bool × Bool)) : List.take 512 (List.drop 0 (cF b)) = cF b := by rw [List.drop_zero, List.take_of_length_le (by rw [l7]; omega)]
theorem zgf : eG Tryz.prog 203 = true := by kernel_rfl
theorem zgg : fE Tryz.prog 203 = (List.replicate 128 [4, 4, 4, 4]).flatten := by kernel_rfl
theorem zgh : eG Tryz.prog 135 = true := by kernel_rfl
theorem zgi : fE Tryz.prog 135 = [4, 4, 4, 4] := by kernel_rfl
theorem zqh (b : aR (Bool × Bool × Bool × Bool)) (kn : List (aR (Bool × Bool × Bool × Bool) × Int)) : cH (.agg (cF b)) (eZ kn) = (cD b kn).map kvF := lT (ek := fun b => PV.agg (cF b)) (ev := kvF) EF.blkEq b kn
theorem zqi (b : aR (Bool × Bool × Bool × Bool)) (k : Int) (kn : List (aR (Bool × Bool × Bool × Bool) × Int)) : bI (.agg (cF b)) (kvF k) (eZ kn) = eZ (bY b k kn) := iX (ek := fun b => PV.agg (cF b)) (ev := kvF) EF.blkEq b k kn
theorem zgj (b : aR (Bool × Bool × Bool × Bool)) : a8 Tryz.prog 203 (.agg (cF b)) = true := EF.blkOk zgf zgg b
theorem zgk (kn : List (aR (Bool × Bool × Bool × Bool) × Int)) : cR Tryz.prog 203 (eZ kn) := EF.blksOk zgf zgg kn
theorem zgl {sz : Int} {F : Int -> (Bool × Bool × Bool × Bool)} {idx : List Int} {blk : List (aR (Bool × Bool × Bool × Bool))} {kn : List (aR (Bool × Bool × Bool × Bool) × Int)} {ev : List ((Bool × Bool × Bool × Bool) × Int)} (hk : TInv sz F idx blk kn ev) (hb : blk.length <= 10000000) (ixn bkn : Bool) (b : aR (Bool × Bool × Bool × Bool)) :
 ACall Tryz.prog 132 [.box 0 0, .pv (.agg (cF b))] (kT sz kn ev false ixn false bkn idx blk) fun r h' => ∃ k kn' bn' blk', r = .pv (kvF k) /\ h' = kT sz kn' ev false ixn true bn' idx blk' /\ TInv sz F idx blk' kn' ev /\ 0 <= k /\ blk'[k.toNat]? = some b /\ blk'.length <= blk.length + 1 := by
 refine ACall.mark 1000 [5] (R := fun r h' => ∃ k kn' bm' bn' blk', r = .pv (kvF k) /\ h' = kT sz kn' ev false ixn bm' bn' idx blk' /\ TInv sz F idx blk' kn' ev /\ 0 <= k /\ blk'[k.toNat]? = some b /\ blk'.length <= blk.length + 1) ?_ ?_
 ·refine zqd _ _ _ _ _ _ _ _ _ _ ?_
  unfold zga
  rw [y8, zqh]
  have h128 : 512 <= (List.drop 0 (cF b)).length := by rw [List.drop_zero, l7]; omega
  refine ⟨h128, zgk kn, zgj b, fun v hv => ?_, fun hv => ?_⟩
  ·cases hg : cD b kn with
   | none => rw [hg] at hv; cases hv
   | some k =>
     rw [hg] at hv; cases hv
     obtain ⟨k0, k1⟩ := hk.kn_ok b k hg
     exact ⟨k, rfl, k, kn, false, bkn, blk, rfl, rfl, hk, k0, k1, by omega⟩
  ·have hsz : aT [cF b] 512 /\ ((bB encF blk).length + 1) * 512 <= 140737488355328 := ⟨fun e he => by simp at he; subst he; exact l7 b, by rw [jW]; omega⟩
   have fin : ∃ k kn' bm' bn' blk', LV.pv (.int .i64 ((bB encF blk).length : Int)) = .pv (kvF k) /\
    [Ob.box [.box 1 0, .mp 2, .mp 3], .box [.pv (.int .i64 sz), .own 4, .own 5], .mp (bI (.agg (cF b)) (.int .i64 ((bB encF blk).length : Int)) (eZ kn)), .mp (fU ev), .sl (3, 1) false ixn (aX idx), .sl (203, 512) true (bkn && false) (bB encF blk ++ [cF b])] = kT sz kn' ev false ixn bm' bn' idx blk' /\ TInv sz F idx blk' kn' ev /\ 0 <= k /\ blk'[k.toNat]? = some b /\ blk'.length <= blk.length + 1 := by
    refine ⟨blk.length, bY b (blk.length : Int) kn, true, bkn && false, blk ++ [b], by rw [jW]; rfl, ?_, hk.place b, by omega, by simp, by simp⟩
    have := zqi b (blk.length : Int) kn
    unfold kvF at this
    rw [jW, this]
    simp [kT, bB, cF]
   exact ⟨h128, zgk kn, zgj b, h128, ⟨l7 b, hsz, fin⟩, l7 b, ⟨hsz, fin⟩, hsz, fin⟩
 ·rintro r h' ⟨k, kn', bm', bn', blk', rfl, rfl, h1, h2, h3, h4⟩
  exact ⟨k, kn', bn', blk', rfl, rfl, h1, h2, h3, h4⟩
theorem zqj (v : (Bool × Bool × Bool × Bool)) (ev : List ((Bool × Bool × Bool × Bool) × Int)) : cH (.agg (encF v)) (fU ev) = (cD v ev).map kvF := lT (ek := fun v => PV.agg (encF v)) (ev := kvF) EF.valEq v ev
theorem zqk (v : (Bool × Bool × Bool × Bool)) (k : Int) (ev : List ((Bool × Bool × Bool × Bool) × Int)) : bI (.agg (encF v)) (kvF k) (fU ev) = fU (bY v k ev) := iX (ek := fun v => PV.agg (encF v)) (ev := kvF) EF.valEq v k ev
theorem zgm (v : (Bool × Bool × Bool × Bool)) : a8 Tryz.prog 135 (.agg (encF v)) = true := EF.valOk zgh zgi v
theorem zgn (ev : List ((Bool × Bool × Bool × Bool) × Int)) : cR Tryz.prog 135 (fU ev) := EF.valsOk zgh zgi ev
theorem y9 (l : List (Bool × Bool × Bool × Bool)) (j : Nat) (hj : j < l.length) (v : (Bool × Bool × Bool × Bool)) : aP (l.flatMap encF) (0 + j * 4) (encF v) = (l.set j v).flatMap encF := by
 have := EF.put l j hj v
 simp only [List.length_cons, List.length_nil, Nat.zero_add, Nat.reduceAdd] at this ⊢
 exact this
theorem zA (l : List (Bool × Bool × Bool × Bool)) : (l.flatMap encF).length = l.length * 4 := EF.flen l
theorem zgo : List.replicate 512 (PV.bool false) = (List.replicate 128 ((false, false, false, false) : (Bool × Bool × Bool × Bool))).flatMap encF := by rfl
theorem zql {l : List (Bool × Bool × Bool × Bool)} {v : (Bool × Bool × Bool × Bool)} (hl : l.length = 128) (h : ∀ q, q < 128 -> l[q]? = some v) : l = List.replicate 128 v := by
 refine List.ext_getElem? fun q => ?_
 rcases Nat.lt_or_ge q 128 with hq | hq
 ·rw [h q hq, List.getElem?_replicate, if_pos hq]
 ·rw [List.getElem?_eq_none (by omega), List.getElem?_eq_none (by simp; omega)]
theorem zqm {sz : Int} {F : Int -> (Bool × Bool × Bool × Bool)} {idx : List Int} {blk : List (aR (Bool × Bool × Bool × Bool))} {kn : List (aR (Bool × Bool × Bool × Bool) × Int)} {ev : List ((Bool × Bool × Bool × Bool) × Int)} (hk : TInv sz F idx blk kn ev) (hb : blk.length <= 10000000) (ixn bkn : Bool) (v : (Bool × Bool × Bool × Bool)) :
 ACall Tryz.prog 131 [.box 0 0, .pv (.agg (encF v))] (kT sz kn ev false ixn false bkn idx blk) fun r h' => ∃ k kn' ev' bn' blk', r = .pv (kvF k) /\ h' = kT sz kn' ev' false ixn true bn' idx blk' /\ TInv sz F idx blk' kn' ev' /\ 0 <= k /\ blk'[k.toNat]? = some (rep v) /\ blk'.length <= blk.length + 1 := by
 refine ACall.mark 1000 [5] (R := fun r h' => ∃ k kn' ev' bm' bn' blk', r = .pv (kvF k) /\ h' = kT sz kn' ev' false ixn bm' bn' idx blk' /\ TInv sz F idx blk' kn' ev' /\ 0 <= k /\ blk'[k.toNat]? = some (rep v) /\ blk'.length <= blk.length + 1) ?_ ?_
 ·refine zqe _ _ _ _ _ _ _ _ _ v.1 v.2.1 v.2.2.1 v.2.2.2 (fun x m2 m3 c => 0 <= x /\ x <= 128 /\ m2 = eZ kn /\ m3 = fU ev /\ ∃ l : List (Bool × Bool × Bool × Bool), l.length = 128 /\ c = l.flatMap encF /\ ∀ q, q < x.toNat -> l[q]? = some v) (fun x _ _ _ => 128 - x.toNat) ?_
  unfold zgb
  rw [show [.bool v.1, .bool v.2.1, .bool v.2.2.1, .bool v.2.2.2] = encF v from rfl, zqj]
  refine ⟨zgn ev, zgm v, fun u hu => ?_, fun hu => ⟨⟨rfl, Int.le_refl _, by omega, rfl, rfl, List.replicate 128 (false, false, false, false), by simp, zgo, fun q hq => by simp at hq⟩, ?_⟩⟩
  ·cases hg : cD v ev with
   | none => rw [hg] at hu; cases hu
   | some k =>
     rw [hg] at hu; cases hu
     obtain ⟨k0, k1⟩ := hk.ev_ok v k hg
     exact ⟨k, rfl, k, kn, ev, false, bkn, blk, rfl, rfl, hk, k0, k1, by omega⟩
  ·rintro x _ _ _ ⟨x0, x1, rfl, rfl, l, hl, rfl, hq⟩
   refine aD (fun hc => ?_) (fun hc => ?_)
   ·simp only [decide_eq_true_eq] at hc
    have hw : i64.wrap (x + 1) = x + 1 := aC (by omega) (by omega)
    have hn : (x + 1).toNat = x.toNat + 1 := by omega
    rw [y9 l x.toNat (by omega) v, hw, zA]
    refine ⟨⟨x0, hc⟩, ⟨rfl, by omega⟩, rfl, ⟨by omega, by omega, rfl, rfl, l.set x.toNat v, by simpa using hl, rfl, fun q hq' => ?_⟩, by dsimp only; omega⟩
    rw [hn] at hq'
    rw [List.getElem?_set]
    by_cases e : x.toNat = q
    ·rw [if_pos e, if_pos (by omega)]
    ·rw [if_neg e]; exact hq q (by omega)
   ·simp only [decide_eq_true_eq] at hc
    have hx : x = 128 := by omega
    subst hx
    have hrep := zql hl hq
    subst hrep
    have hcI : (List.replicate 128 v).flatMap encF = cF (rep v) := rfl
    rw [hcI, y8]
    refine ⟨by rw [List.drop_zero, l7]; omega, ?_⟩
    refine (zgl hk hb ixn bkn (rep v)).mono ?_
    rintro _ _ ⟨k, kn', bn', blk', rfl, rfl, h1, h2, h3, h4⟩
    refine ⟨(k, eZ kn', bn', bB encF blk'), ⟨rfl, rfl⟩, ⟨trivial, ⟨rfl, rfl, rfl⟩, trivial, trivial, trivial, trivial, trivial⟩, zgn ev, zgm v, ?_⟩
    have := zqk v k ev
    unfold kvF at this
    simp only [this]
    exact ⟨k, kn', bY v k ev, _, bn', blk', rfl, rfl, h1.even h2 h3, h2, h3, h4⟩
 ·rintro r h' ⟨k, kn', ev', bm', bn', blk', rfl, rfl, h1, h2, h3, h4⟩
  exact ⟨k, kn', ev', bn', blk', rfl, rfl, h1, h2, h3, h4⟩
theorem zqn {v : (Bool × Bool × Bool × Bool)} {j : Nat} {u : (Bool × Bool × Bool × Bool)} (h : (Trie.rep v).1[j]? = some u) : u = v /\ j < 128 := by
 simp only [Trie.rep, List.getElem?_replicate] at h
 split at h
 ·rename_i hj; cases h; exact ⟨rfl, hj⟩
 ·cases h
theorem zqo (sz : Int) (z : (Bool × Bool × Bool × Bool)) (n f : Bool) (l : List (Pc (Bool × Bool × Bool × Bool))) (hl : l.length < 4611686018427387904) (hok : ∀ p ∈ l, -9223372036854775808 <= p.fr - 1 /\ p.fr - 1 <= 9223372036854775807) (hs1 : 1 <= sz) (hs2 : sz <= 1114112) :
 PCall Tryz.prog 92 [.int .i64 sz, .agg (encF z), .sl n f (jY l)] fun v => TrieF sz (eV l z) v := by
 have hF := fun i => p0 l z i (sz - 1)
 generalize hFF : eV l z = F at *
 refine zqf _ z.1 z.2.1 z.2.2.1 z.2.2.2 _ _ _
  (fun x10 x11 va vb vc vd _ s2 _ s3 m4 m5 => ∃ idx blk kn ev, s2 = aX idx /\ s3 = bB encF blk /\ m4 = eZ kn /\ m5 = fU ev /\ TInv sz F idx blk kn ev /\ x11 = 128 * idx.length /\ blk.length <= idx.length /\ x11 < sz + 128 /\ (∀ j, x11 <= j -> j <= x10 -> F j = (va, vb, vc, vd)) /\ x10 <= sz - 1)
  (fun _ x11 _ _ _ _ _ _ _ _ _ _ => (sz + 128 - x11).toNat)
  (fun _ y11 _ _ _ _ _ _ _ _ _ _ _ x10 x11 x13 va vb vc vd _ s2 _ s3 m4 m5 => ∃ idx blk kn ev, s2 = aX idx /\ s3 = bB encF blk /\ m4 = eZ kn /\ m5 = fU ev /\ TInv sz F idx blk kn ev /\ x11 = 128 * idx.length /\ x11 < sz + 128 /\ (∀ j, x11 <= j -> j <= x10 -> F j = (va, vb, vc, vd)) /\ x10 <= sz - 1 /\ 0 <= x13 /\ blk[x13.toNat]? = some (rep (va, vb, vc, vd)) /\
   ((x11 = y11 /\ x11 < sz /\ (x11 + 127 <= x10 ∨ sz - 1 <= x10) /\ blk.length <= idx.length + 1) ∨ (y11 + 128 <= x11 /\ blk.length <= idx.length)))
  (fun _ x11 _ _ _ _ _ _ _ _ _ _ _ => (sz + 128 - x11).toNat)
  (fun _ y11 _ _ _ _ _ _ _ _ _ _ _ _ x10 x11 x va vb vc vd c _ s3 _ s4 m5 m6 => ∃ idx blk kn ev, s3 = aX idx /\ s4 = bB encF blk /\ m5 = eZ kn /\ m6 = fU ev /\ TInv sz F idx blk kn ev /\ x11 = 128 * idx.length /\ blk.length <= idx.length /\ x11 = y11 /\ x11 < sz /\ 0 <= x /\ x <= 128 /\ x10 <= sz - 1 /\ (∀ j, x11 + x <= j -> j <= x10 -> F j = (va, vb, vc, vd)) /\
   ∃ b : List (Bool × Bool × Bool × Bool), b.length = 128 /\ c = b.flatMap encF /\ ∀ (q : Nat) u, b[q]? = some u -> q < x.toNat -> x11 + q < sz -> u = F (x11 + q))
  (fun _ _ x _ _ _ _ _ _ _ _ _ _ _ => (128 - x).toNat) ?_
 unfold zgc
 have hw1 : i64.wrap (sz - 1) = sz - 1 := aC (by omega) (by omega)
 rw [hw1]
 refine bK (by simp; omega) ?_
 refine (y7 n f l z 0 (sz - 1) hl hok).mono ?_
 rintro _ rfl
 obtain ⟨_, f2, f3, f4⟩ := hF 0 (by omega)
 refine ⟨_, rfl, rfl, _, rfl, _, rfl, rfl, _, rfl, _, rfl, _, rfl, _, rfl, _, rfl, _, rfl, ⟨rfl, [], [], [], [], rfl, rfl, rfl, rfl, TInv.nil, rfl, Nat.le_refl _, by omega, f4, f3⟩, ?_⟩
 clear f2 f3 f4
 rintro u0 x v0a v0b v0c v0d _ _ _ _ _ _ ⟨idx, blk, kn, ev, rfl, rfl, rfl, rfl, hk, hx, hb, hx2, hv0, hu0⟩
 refine aD (fun hc => ?_) (fun hc => ?_)
 ·simp only [decide_eq_true_eq] at hc
  have hw2 : i64.wrap (x + 128) = x + 128 := aC (by omega) (by omega)
  rw [hw2]
  have hmin : ∀ a : Int, i64.wrap ((if sz < a + 128 then sz else a + 128) - 1) = (if sz < a + 128 then sz else a + 128) - 1 ∨ ¬ (0 <= a /\ a <= 1114112) := fun a => by
   by_cases ha : 0 <= a /\ a <= 1114112
   ·left; split <;> exact aC (by omega) (by omega)
   ·exact .inr ha
  have hmx := (hmin x).resolve_right (by omega)
  rw [hmx]
  refine aD (fun hgt => ?ga) (fun hgt => ?gb)
  case' ga =>
   refine (y7 n f l z x (sz - 1) hl hok).mono ?_
   rintro _ rfl
   obtain ⟨_, hux, hu, hv⟩ := hF x (by omega)
   refine ⟨_, rfl, rfl, _, rfl, _, rfl, rfl, _, rfl, _, rfl, _, rfl, _, rfl, _, rfl, _, rfl, ?_⟩
   revert hv hu
   generalize (findL l z x (sz - 1)).1 = v
   generalize (findL l z x (sz - 1)).2 = u
   clear hv0 hu0 hux
   intro hu hv
  case' gb =>
   obtain ⟨v, rfl, rfl, rfl, rfl⟩ : ∃ v : (Bool × Bool × Bool × Bool), v.1 = v0a /\ v.2.1 = v0b /\ v.2.2.1 = v0c /\ v.2.2.2 = v0d := ⟨(v0a, v0b, v0c, v0d), rfl, rfl, rfl, rfl⟩
   revert hv0 hu0 hgt
   generalize u0 = u
   intro hu hgt hv
  all_goals
   clear hgt
   refine aD (fun hc2 => ?_) (fun hc2 => ?_)
   ·simp only [decide_eq_true_eq, ge_iff_le] at hc2
    have hc3 : x + 127 <= u ∨ sz - 1 <= u := by split at hc2 <;> omega
    refine (zqm hk (by omega) _ _ v).mono ?_
    rintro _ _ ⟨k, kn', ev', bn', blk', rfl, rfl, g1, g2, g3, g4⟩
    refine ⟨(k, eZ kn', fU ev', bn', bB encF blk'), ⟨rfl, rfl⟩, ⟨trivial, ⟨rfl, rfl, rfl⟩, trivial, trivial, trivial, trivial, trivial⟩, ⟨rfl, idx, blk', kn', ev', rfl, rfl, rfl, rfl, g1, hx, hx2, hv, hu, g2, g3, .inl ⟨rfl, hc, hc3, by omega⟩⟩, ?_⟩
    rintro t y k' wa wb wc wd _ _ _ _ _ _ ⟨idx2, blk2, kn2, ev2, rfl, rfl, rfl, rfl, hk2, hy, hy2, hw, ht, hk0, hkb, hor⟩
    have hwy : i64.wrap (y + 128) = y + 128 := aC (by omega) (by omega)
    rw [hwy, (hmin y).resolve_right (by omega)]
    refine aD (fun hc4 => ?_) (fun hc4 => ?_)
    ·simp only [Bool.and_eq_true, decide_eq_true_eq, ge_iff_le] at hc4
     have hc5 : y + 127 <= t ∨ sz - 1 <= t := by have := hc4.2; split at this <;> omega
     refine ⟨⟨fun e he => by simp at he; subst he; rfl, by rw [i6]; omega⟩, rfl, ⟨idx2 ++ [k'], blk2, kn2, ev2, by simp [aX], rfl, rfl, rfl, hk2.push hk0 hkb fun j u' hj hlt => ?_, by simp; omega, by omega, fun j h1 h2 => hw j (by omega) h2, ht, hk0, hkb, .inr ⟨by omega, by simp; omega⟩⟩, by dsimp only; omega⟩
     obtain ⟨rfl, hj2⟩ := zqn hj
     exact (hw _ (by omega) (by omega)).symm
    ·have hw128 : i64.wrap (y - 128) = y - 128 := aC (by omega) (by omega)
     have hback : i64.wrap (y - 128 + 128) = y := by rw [aC (by omega) (by omega)]; omega
     rw [hw128, hback]
     simp only [Bool.and_eq_true, decide_eq_true_eq, ge_iff_le, not_and] at hc4
     have hor2 : x + 128 <= y /\ blk2.length <= idx2.length := by
      rcases hor with ⟨h1, h2, h3, h4⟩ | h
      ·exfalso
       have := hc4 h2
       split at this <;> omega
      ·exact h
     exact ⟨rfl, ⟨idx2, blk2, kn2, ev2, rfl, rfl, rfl, rfl, hk2, hy, hor2.2, hy2, hw, ht⟩, by dsimp only; omega⟩
   ·clear hc2
    refine ⟨⟨rfl, idx, blk, kn, ev, rfl, rfl, rfl, rfl, hk, hx, hb, rfl, hc, Int.le_refl _, by omega, hu, fun j h1 h2 => hv j (by omega) h2, List.replicate 128 (false, false, false, false), by simp, zgo, fun q u' _ hq _ => by simp at hq⟩, ?_⟩
    rintro t y i wa wb wc wd _ _ _ _ _ _ _ ⟨idx2, blk2, kn2, ev2, rfl, rfl, rfl, rfl, hk2, hy, hb2, hyx, hy2, i0, i1, ht, hw, b, hbl, rfl, hbq⟩
    obtain ⟨w, rfl, rfl, rfl, rfl⟩ : ∃ v : (Bool × Bool × Bool × Bool), v.1 = wa /\ v.2.1 = wb /\ v.2.2.1 = wc /\ v.2.2.2 = wd := ⟨(wa, wb, wc, wd), rfl, rfl, rfl, rfl⟩
    have hwyi : i64.wrap (y + i) = y + i := aC (by omega) (by omega)
    have hwi : i64.wrap (i + 1) = i + 1 := aC (by omega) (by omega)
    have hwy : i64.wrap (y + 128) = y + 128 := aC (by omega) (by omega)
    rw [hwyi, hwi, hwy]
    have step : ∀ (v' : (Bool × Bool × Bool × Bool)) (u' : Int), (∀ j, y + i <= j -> j <= u' -> F j = v') -> u' <= sz - 1 -> (y + i < sz -> F (y + i) = v') -> i < 128 ->
     ∃ idx blk kn ev, aX idx2 = aX idx /\ bB encF blk2 = bB encF blk /\ eZ kn2 = eZ kn /\ fU ev2 = fU ev /\ TInv sz F idx blk kn ev /\ y = 128 * idx.length /\ blk.length <= idx.length /\ y = x /\ y < sz /\ 0 <= i + 1 /\ i + 1 <= 128 /\ u' <= sz - 1 /\ (∀ j, y + (i + 1) <= j -> j <= u' -> F j = v') /\
      ∃ c : List (Bool × Bool × Bool × Bool), c.length = 128 /\ (b.set i.toNat v').flatMap encF = c.flatMap encF /\ ∀ (q : Nat) u, c[q]? = some u -> q < (i + 1).toNat -> y + q < sz -> u = F (y + q) := fun v' u' h1 h2 h3 h4 => by
     refine ⟨idx2, blk2, kn2, ev2, rfl, rfl, rfl, rfl, hk2, hy, hb2, hyx, hy2, by omega, by omega, h2, fun j a1 a2 => h1 j (by omega) a2, b.set i.toNat v', by simpa using hbl, rfl, fun q u hq hq2 hq3 => ?_⟩
     rw [List.getElem?_set] at hq
     by_cases e : i.toNat = q
     ·rw [if_pos e, if_pos (by omega)] at hq
      cases hq
      have e2 : y + (q : Int) = y + i := by omega
      rw [e2]
      exact (h3 (by omega)).symm
     ·rw [if_neg e] at hq
      exact hbq q u hq (by omega) hq3
    refine aD (fun hc5 => ?_) (fun hc5 => ?_)
    ·simp only [decide_eq_true_eq] at hc5
     refine aD (fun hc6 => ?_) (fun hc6 => ?_)
     ·simp only [Bool.and_eq_true, decide_eq_true_eq, gt_iff_lt] at hc6
      refine (y7 n f l z (y + i) (sz - 1) hl hok).mono ?_
      rintro _ rfl
      obtain ⟨q1, q2, q3, q4⟩ := hF (y + i) (by omega)
      refine ⟨_, rfl, rfl, _, rfl, _, rfl, rfl, _, rfl, _, rfl, _, rfl, _, rfl, _, rfl, _, rfl, ⟨i0, hc5⟩, ⟨rfl, by rw [zA]; omega⟩, rfl, ?_, by dsimp only; omega⟩
      have hput := y9 b i.toNat (by omega) (findL l z (y + i) (sz - 1)).1
      unfold encF at hput ⊢
      rw [hput]
      exact step _ _ q4 q3 (fun _ => q1.symm) hc5
     ·simp only [Bool.and_eq_true, decide_eq_true_eq, gt_iff_lt, not_and] at hc6
      refine ⟨⟨i0, hc5⟩, ⟨rfl, by rw [zA]; omega⟩, rfl, ?_, by dsimp only; omega⟩
      have hput := y9 b i.toNat (by omega) w
      unfold encF at hput ⊢
      rw [hput]
      exact step _ _ hw ht (fun h => hw _ (Int.le_refl _) ((Int.lt_or_le t (y + i)).elim (fun h2 => absurd h (hc6 h2)) id)) hc5
    ·simp only [decide_eq_true_eq] at hc5
     have hi : i = 128 := by omega
     subst hi
     obtain ⟨B, hB⟩ : ∃ B : aR (Bool × Bool × Bool × Bool), B.1 = b := ⟨⟨b, hbl⟩, rfl⟩
     subst hB
     have hcI : B.1.flatMap encF = cF B := rfl
     rw [hcI, y8]
     refine ⟨by rw [List.drop_zero, l7]; omega, (fun h => ⟨h, h⟩) ?_⟩
     refine (zgl hk2 (by omega) _ _ B).mono ?_
     rintro _ _ ⟨k, kn', bn', blk', rfl, rfl, h1, h2, h3, h4⟩
     refine ⟨(k, eZ kn', bn', bB encF blk'), ⟨rfl, rfl⟩, ⟨trivial, ⟨rfl, rfl, rfl⟩, trivial, trivial, trivial, trivial, trivial⟩, ⟨fun e he => by simp at he; subst he; rfl, by rw [i6]; omega⟩, rfl, ⟨idx2 ++ [k], blk', kn', ev2, by simp [aX, kvF], rfl, rfl, rfl, h1.push h2 h3 fun j u' hj hlt => ?_, by simp; omega, by simp; omega, by omega, fun j a1 a2 => hw j (by omega) a2, ht⟩, by dsimp only; omega⟩
     have hj2 : j < 128 := by have := (List.getElem?_eq_some_iff.1 hj).1; simp only [hbl] at this; exact this
     rw [<- hy]
     exact hbq j u' hj (by omega) (by omega)
 ·simp only [decide_eq_true_eq] at hc
  exact ⟨_, _, _, _, idx, blk, rfl, by omega, hk.idx_ok⟩
end Go.Eng



namespace Go.Eng
open Go Go.Proofs
def zB (n f : Bool) (es : LL) (za zb : Int) (i last : Int) (x3 x14 h1_0 h1_1 : Int) : Env × Hp := ([(2, Y6 i), (3, Y6 x3), (5, LV.box 0 0), (8, LV.box 1 0), (12, LV.pv (PV.sl n f es)), (13, Y6 ↑es.length), (14, Y6 x14)], [.box [LV.pv (PV.int i32 za), LV.pv (PV.int i32 zb)], .box [.pv (.int i32 h1_0), .pv (.int i32 h1_1)]])
section
variable (n f : Bool) (es : LL) (za zb : Int) (i last : Int) (J : Int -> Int -> Int -> Int -> Prop) (μ : Int -> Int -> Int -> Int -> Nat)
def zgp (R : PV -> Prop) : Prop :=
 (aG (zB n f es za zb i last last (0 : Int) (0 : Int) (0 : Int)) /\ J last (0 : Int) (0 : Int) (0 : Int)) /\ ∀ (x3 x14 h1_0 h1_1 : Int), J x3 x14 h1_0 h1_1 ->
 let K2 := fun (y0_ y1_ y2_ y3_ : Int) => aG (zB n f es za zb i last y0_ y1_ y2_ y3_) /\ J y0_ y1_ y2_ y3_ /\ μ y0_ y1_ y2_ y3_ < μ x3 x14 h1_0 h1_1; if decide (x14 < (↑es.length : Int)) = true then aK es x14
  4 /\ ∃ n1, (es.getD x14.toNat []).head? = some (Z6 n1) /\ ∃ n2, (es.getD x14.toNat []).tail.head? = some (Z6 n2) /\ ∃ n3, (es.getD x14.toNat []).tail.tail.head? = some (Z3 n3) /\ ∃ n4, (es.getD x14.toNat
  []).tail.tail.tail.head? = some (Z3 n4) /\
 let V1 :=
 let V2 := K2 x3 (i64.wrap (x14 + 1)) h1_0 h1_1; if decide (i < n1) = true then if decide (n1 <= x3) = true then K2 (i64.wrap (n1 - 1)) (i64.wrap (x14 + 1)) h1_0 h1_1 else V2 else V2; if decide (n1 <= i) = true then if
  decide (i <= n2) = true then (R (PV.tup [PV.agg [Z3 n3, Z3 n4], Z6 (if x3 < n2 then x3 else n2)]) /\ R (PV.tup [PV.agg [Z3 n3, Z3 n4], Z6 (if x3 < n2 then x3 else n2)])) /\ R (PV.tup [PV.agg [Z3 n3, Z3 n4], Z6 (if x3 < n2 then x3 else n2)])
  else V1 else V1 else R (PV.tup [PV.agg [Z3 za, Z3 zb], Z6 x3])
theorem zqp {R : PV -> Prop} (h : zgp n f es za zb i last J μ R) : PCall Tryz.prog 98 [.sl n f es, .agg [.int .i32 za, .int .i32 zb], .int .i64 i, .int .i64 last] R :=
 PCall.of Tryz.func98 (by kernel_rfl) (by kernel_rfl) (zl (by kernel_rfl)) (Eq.mpr (by kernel_rfl : aO Tryz.prog (fun _ => none) Tryz.f98 [0, 1, 2, 3, 5, 8, 9, 11, 12, 13, 14, 15, 18, 35] (fun zz_ => match zz_ with | 2 => some ⟨Int × Int × Int × Int, fun s => zB n f es za zb i last s.1 s.2.1 s.2.2.1 s.2.2.2, fun _ s => J s.1 s.2.1 s.2.2.1 s.2.2.2, fun s => μ s.1 s.2.1 s.2.2.1 s.2.2.2, fun e h => (gI e 3, gI e 14, hI h 1 0, hI h 1 1), [], [2, 3, 5, 8, 12, 13, 14], [], fun p => ∀ (x3 x14 h1_0 h1_1 : Int), p (x3, x14, h1_0, h1_1), fun p h s => h s.1 s.2.1 s.2.2.1 s.2.2.2⟩ | _ => none) (Tryz.f98.body.getD .skip) [.sl n f es, .agg [.int .i32 za, .int .i32 zb], .int .i64 i, .int .i64 last] R = _) h)
end
section
variable (sz : Int) (n f n2 f2 : Bool) (es bs : LL) (i : Int)
def zgq (R : PV -> Prop) : Prop :=
 if decide (i < 0) = true then R (PV.agg [Z3 0, Z3 0]) else ∃ n1, some (Z6 sz) = some (Z6 n1) /\ if decide (i >= n1) = true then R (PV.agg [Z3 0, Z3 0]) else ∃ n3 f1 es1, some (PV.sl n2 f2 bs) = some
 (PV.sl n3 f1 es1) /\ ∃ n4 f3 es2, some (PV.sl n f es) = some (PV.sl n4 f3 es2) /\ aK es2 (i64.wrap (i.tdiv (128 : Int))) 1 /\ ∃ n5, (es2.getD (i64.wrap (i.tdiv (128 : Int))).toNat
 []).head? = some (Z6 n5) /\ aK es1 n5 256 /\ ((0 : Int) <= i.tmod (128 : Int) /\ i.tmod (128 : Int) < (↑128 : Int)) /\ ∃ n6, (List.drop ((i.tmod (128 : Int)).toNat * 2) (es1.getD n5.toNat [])).head? = some (Z3 n6) /\ ∃ (n7 : Int),
 (List.drop ((i.tmod (128 : Int)).toNat * 2) (es1.getD n5.toNat [])).tail.head? = some (Z3 n7) /\ R (PV.agg [Z3 n6, Z3 n7])
theorem zqq {R : PV -> Prop} (h : zgq sz n f n2 f2 es bs i R) : PCall Tryz.prog 61 [.ptr [.int .i64 sz, .sl n f es, .sl n2 f2 bs], .int .i64 i] R :=
 PCall.of Tryz.func61 (by kernel_rfl) (by kernel_rfl) (zl (by kernel_rfl)) (Eq.mpr (by kernel_rfl : aO Tryz.prog (fun _ => none) Tryz.f61 [0, 1, 4, 5, 19] (fun _ => none) (Tryz.f61.body.getD .skip) [.ptr [.int .i64 sz, .sl n f es, .sl n2 f2 bs], .int .i64 i] R = _) h)
end
section
variable (sz : Int) (kn ev : List (PV × PV)) (ixm ixn bkm bkn : Bool) (ix bk : LL) (b : List PV)
def zgr (R : LV -> Hp -> Prop) : Prop :=
 256 <= (List.drop 0 b).length /\ cR Tryz.prog 154 kn /\ a8 Tryz.prog 154 (PV.agg (List.take 256 (List.drop 0 b))) = true /\ (∀ (v : PV), cH (PV.agg (List.take 256 (List.drop 0 b))) kn = some v -> ∃ n, v = Z6 n /\ R (Y6 n)
  [Ob.box [LV.box 1 0, LV.mp 2, LV.mp 3], Ob.box [Y6 sz, LV.own 4, LV.own 5], Ob.mp kn, Ob.mp ev, Ob.sl (3, 1) ixm ixn ix, Ob.sl (154, 256) bkm bkn bk]) /\ (cH (PV.agg (List.take 256 (List.drop 0 b))) kn = none -> 256 <= (List.drop 0
  b).length /\ cR Tryz.prog 154 kn /\ a8 Tryz.prog 154 (PV.agg (List.take 256 (List.drop 0 b))) = true /\ 256 <= (List.drop 0 b).length /\
 let V1 := (aT [List.take 256 (List.drop 0 b)] 256 /\ (bk.length + 1) * 1024 <= 140737488355328) /\ R (Y6 (↑bk.length : Int)) [Ob.box [LV.box 1 0, LV.mp 2, LV.mp 3], Ob.box [Y6 sz, LV.own 4, LV.own 5], Ob.mp (bI (PV.agg (List.take 256
  (List.drop 0 b))) (Z6 (↑bk.length : Int)) kn), Ob.mp ev, Ob.sl (3, 1) ixm ixn ix, Ob.sl (154, 256) true (bkn && false) (bk ++ [List.take 256 (List.drop 0 b)])]; ((List.take 256 (List.drop 0 b)).length = 256 /\ V1) /\ (List.take 256
  (List.drop 0 b)).length = 256 /\ V1 /\ V1)
theorem zqr {R : LV -> Hp -> Prop} (h : zgr sz kn ev ixm ixn bkm bkn ix bk b R) : ACall Tryz.prog 100 [.box 0 0, .pv (.agg b)] [.box [.box 1 0, .mp 2, .mp 3], .box [.pv (.int .i64 sz), .own 4, .own 5], .mp kn, .mp ev, .sl (3, 1) ixm ixn ix, .sl (154, 256) bkm bkn bk] R :=
 ACall.of Tryz.func100 (by kernel_rfl) (by kernel_rfl) (zl (by kernel_rfl)) (Eq.mpr (by kernel_rfl : dW Tryz.prog (fun _ => none) Tryz.f100 [0, 1, 3, 4, 5, 6, 17] (fun _ => none) [0,1,2,3,4,5] (Tryz.f100.body.getD .skip) [.box 0 0, .pv (.agg b)] [.box [.box 1 0, .mp 2, .mp 3], .box [.pv (.int .i64 sz), .own 4, .own 5], .mp kn, .mp ev, .sl (3, 1) ixm ixn ix, .sl (154, 256) bkm bkn bk] R = _) h)
end
def zC (sz : Int) (kn ev : List (PV × PV)) (ixm ixn bkm bkn : Bool) (ix bk : LL) (va vb : Int) (x20 : Int) (m_2 : List (PV × PV)) (m_3 : List (PV × PV)) (c_7 : List PV) : Env × Hp := ([(0, LV.box 0 0), (3, LV.box 6 0), (7, LV.box 7 0), (20, Y6 x20)], [.box [LV.box 1 0, LV.mp 2, LV.mp 3], .box [Y6 sz, LV.own 4, LV.own 5], .mp m_2, .mp m_3, .sl (3, 1) ixm ixn ix, .sl (154, 256) bkm bkn bk, .box [LV.pv (PV.int i32 va), LV.pv (PV.int i32 vb)], .arr c_7])
section
variable (sz : Int) (kn ev : List (PV × PV)) (ixm ixn bkm bkn : Bool) (ix bk : LL) (va vb : Int) (J : Int -> (List (PV × PV)) -> (List (PV × PV)) -> (List PV) -> Prop) (μ : Int -> (List (PV × PV)) -> (List (PV × PV)) -> (List PV) -> Nat)
def zgs (R : LV -> Hp -> Prop) : Prop :=
 cR Tryz.prog 86 ev /\ a8 Tryz.prog 86 (PV.agg [Z3 va, Z3 vb]) = true /\ (∀ (v : PV), cH (PV.agg [Z3 va, Z3 vb]) ev = some v -> ∃ n, v = Z6 n /\ R (Y6 n) [Ob.box [LV.box 1 0, LV.mp 2, LV.mp 3], Ob.box [Y6 sz, LV.own 4, LV.own
 5], Ob.mp kn, Ob.mp ev, Ob.sl (3, 1) ixm ixn ix, Ob.sl (154, 256) bkm bkn bk]) /\ (cH (PV.agg [Z3 va, Z3 vb]) ev = none -> (SameSt ([(0, LV.box 0 0), (3, LV.box 6 0), (7, LV.box 7 0), (20, Y6 0)], [Ob.box [LV.box 1 0, LV.mp 2, LV.mp 3],
 Ob.box [Y6 sz, LV.own 4, LV.own 5], Ob.mp kn, Ob.mp ev, Ob.sl (3, 1) (bif false then true else ixm) ixn ix, Ob.sl (154, 256) (bif false then true else bkm) bkn bk, Ob.box [LV.pv (Z3 va), LV.pv (Z3 vb)], Ob.arr (List.replicate 256 (Z3 0))])
 (zC sz kn ev ixm ixn bkm bkn ix bk va vb (0 : Int) kn ev (List.replicate 256 (Z3 0))) /\ J (0 : Int) kn ev (List.replicate 256 (Z3 0))) /\ ∀ (x20 : Int) (m_2 m_3 : List (PV × PV)) (c_7 : List PV), J x20 m_2 m_3 c_7 -> if decide (x20 < 128)
 = true then ((0 : Int) <= x20 /\ x20 < (↑128 : Int)) /\ (2 = (2 : Nat) /\ 0 + x20.toNat * 2 + 2 <= c_7.length) /\ SameSt ([(0, LV.box 0 0), (3, LV.box 6 0), (7, LV.box 7 0), (20, LV.pv (Z6 (i64.wrap (x20 + 1))))], [Ob.box [LV.box 1 0,
 LV.mp 2, LV.mp 3], Ob.box [Y6 sz, LV.own 4, LV.own 5], Ob.mp m_2, Ob.mp m_3, Ob.sl (3, 1) (bif false then true else ixm) ixn ix, Ob.sl (154, 256) (bif false then true else bkm) bkn bk, Ob.box [LV.pv (Z3 va), LV.pv (Z3 vb)], Ob.arr (aP c_7
 (0 + x20.toNat * 2) [Z3 va, Z3 vb])]) (zC sz kn ev ixm ixn bkm bkn ix bk va vb (i64.wrap (x20 + 1)) m_2 m_3 (aP c_7 ((0 : Nat) + x20.toNat * 2) [Z3 va, Z3 vb])) /\ J (i64.wrap (x20 + 1)) m_2 m_3 (aP c_7 ((0 : Nat) +
 x20.toNat * 2) [Z3 va, Z3 vb]) /\ μ (i64.wrap (x20 + 1)) m_2 m_3 (aP c_7 (0 + x20.toNat * 2) [Z3 va, Z3 vb]) < μ x20 m_2 m_3 c_7 else 256 <= (List.drop 0 c_7).length /\ ACall Tryz.prog 100 [LV.box 0 0, LV.pv (PV.agg (List.take 256
 (List.drop 0 c_7)))] [Ob.box [LV.box 1 0, LV.mp 2, LV.mp 3], Ob.box [Y6 sz, LV.own 4, LV.own 5], Ob.mp m_2, Ob.mp m_3, Ob.sl ((3 : Nat), 1) false ixn ix, Ob.sl (154, 256) false bkn bk] fun (r : LV) (h' : Hp) => ∃ (t : Int × List (PV × PV) ×
 Bool × LL), (r = Y6 t.1 /\ h' = [Ob.box [LV.box 1 0, LV.mp 2, LV.mp 3], Ob.box [Y6 sz, LV.own 4, LV.own 5], Ob.mp t.snd.fst, Ob.mp m_3, Ob.sl (3, 1) false ixn ix, Ob.sl (154, 256) true t.snd.snd.fst t.snd.snd.snd]) /\ (True /\ ((3, 1) = (3, (1
 : Nat)) /\ ixn = ixn /\ ix.length = ix.length) /\ True /\ True /\ True /\ True /\ True) /\ cR Tryz.prog 86 m_3 /\ a8 Tryz.prog 86 (PV.agg [Z3 va, Z3 vb]) = true /\ R (Y6 t.1) [Ob.box [LV.box 1 0, LV.mp 2, LV.mp 3], Ob.box [Y6 sz, LV.own 4,
 LV.own 5], Ob.mp t.snd.fst, Ob.mp (bI (PV.agg [Z3 va, Z3 vb]) (Z6 t.1) m_3), Ob.sl (3, 1) (ixm || false) ixn ix, Ob.sl (154, 256) (bkm || true) t.snd.snd.fst t.snd.snd.snd])
theorem zqs {R : LV -> Hp -> Prop} (h : zgs sz kn ev ixm ixn bkm bkn ix bk va vb J μ R) : ACall Tryz.prog 99 [.box 0 0, .pv (.agg [.int .i32 va, .int .i32 vb])] [.box [.box 1 0, .mp 2, .mp 3], .box [.pv (.int .i64 sz), .own 4, .own 5], .mp kn, .mp ev, .sl (3, 1) ixm ixn ix, .sl (154, 256) bkm bkn bk] R :=
 ACall.of Tryz.func99 (by kernel_rfl) (by kernel_rfl) (zl (by kernel_rfl)) (Eq.mpr (by kernel_rfl : dW Tryz.prog (fun zz_ => match zz_ with | 100 => some ⟨Int × List (PV × PV) × Bool × LL, fun _ hs t => (.pv (.int .i64 t.1), match hs with | [m, r, .mp _, ev, ix, .sl a _ _ _] => [m, r, .mp t.2.1, ev, ix, .sl a true t.2.2.1 t.2.2.2] | h => h), none⟩ | _ => none) Tryz.f99 [0, 1, 3, 4, 5, 6, 7, 8, 19, 20, 21] (fun zz_ => match zz_ with | 5 => some ⟨Int × (List (PV × PV)) × (List (PV × PV)) × (List PV), fun s => zC sz kn ev ixm ixn bkm bkn ix bk va vb s.1 s.2.1 s.2.2.1 s.2.2.2, fun _ s => J s.1 s.2.1 s.2.2.1 s.2.2.2, fun s => μ s.1 s.2.1 s.2.2.1 s.2.2.2, fun e h => (gI e 20, oM h 2, oM h 3, oA h 7), [], [0, 3, 7, 20], [], fun p => ∀ (x20 : Int) (m_2 : List (PV × PV)) (m_3 : List (PV × PV)) (c_7 : List PV), p (x20, m_2, m_3, c_7), fun p h s => h s.1 s.2.1 s.2.2.1 s.2.2.2⟩ | _ => none) [0,1,2,3,4,5] (Tryz.f99.body.getD .skip) [.box 0 0, .pv (.agg [.int .i32 va, .int .i32 vb])] [.box [.box 1 0, .mp 2, .mp 3], .box [.pv (.int .i64 sz), .own 4, .own 5], .mp kn, .mp ev, .sl (3, 1) ixm ixn ix, .sl (154, 256) bkm bkn bk] R = _) h)
end
def zD (sz : Int) (za zb : Int) (n f : Bool) (es : LL) (x10 x11 h3_0 h3_1 : Int) (n_4 : Bool) (s_4 : LL) (n_5 : Bool) (s_5 : LL) (m_6 : List (PV × PV)) (m_7 : List (PV × PV)) : Env × Hp := ([(0, Y6 sz), (2, LV.pv (PV.sl n f es)), (4, LV.box 0 0), (7, LV.box 1 0), (8, LV.box 2 0), (9, LV.box 3 0), (10, Y6 x10), (11, Y6 x11)], [.box [LV.pv (PV.int i32 za), LV.pv (PV.int i32 zb)], .box [Y6 sz, LV.own 4, LV.own 5], .box [LV.box 1 0, LV.mp 6, LV.mp 7], .box [.pv (.int i32 h3_0), .pv (.int i32 h3_1)], .sl (3, 1) true n_4 s_4, .sl (154, 256) true n_5 s_5, .mp m_6, .mp m_7])
def qA (sz : Int) (za zb : Int) (n f : Bool) (es : LL) (x10 x11 x13 h3_0 h3_1 : Int) (n_4 : Bool) (s_4 : LL) (n_5 : Bool) (s_5 : LL) (m_6 : List (PV × PV)) (m_7 : List (PV × PV)) : Env × Hp := ([(0, Y6 sz), (2, LV.pv (PV.sl n f es)), (4, LV.box 0 0), (7, LV.box 1 0), (8, LV.box 2 0), (9, LV.box 3 0), (10, Y6 x10), (11, Y6 x11), (13, Y6 x13)], [.box [LV.pv (PV.int i32 za), LV.pv (PV.int i32 zb)], .box [Y6 sz, LV.own 4, LV.own 5], .box [LV.box 1 0, LV.mp 6, LV.mp 7], .box [.pv (.int i32 h3_0), .pv (.int i32 h3_1)], .sl (3, 1) true n_4 s_4, .sl (154, 256) true n_5 s_5, .mp m_6, .mp m_7])
def nG (sz : Int) (za zb : Int) (n f : Bool) (es : LL) (x10 x11 x88 h3_0 h3_1 : Int) (c_4 : List PV) (n_5 : Bool) (s_5 : LL) (n_6 : Bool) (s_6 : LL) (m_7 : List (PV × PV)) (m_8 : List (PV × PV)) : Env × Hp := ([(0, Y6 sz), (2, LV.pv (PV.sl n f es)), (4, LV.box 0 0), (7, LV.box 1 0), (8, LV.box 2 0), (9, LV.box 3 0), (10, Y6 x10), (11, Y6 x11), (14, LV.box 4 0), (88, Y6 x88)], [.box [LV.pv (PV.int i32 za), LV.pv (PV.int i32 zb)], .box [Y6 sz, LV.own 5, LV.own 6], .box [LV.box 1 0, LV.mp 7, LV.mp 8], .box [.pv (.int i32 h3_0), .pv (.int i32 h3_1)], .arr c_4, .sl (3, 1) true n_5 s_5, .sl (154, 256) true n_6 s_6, .mp m_7, .mp m_8])
section
variable (sz : Int) (za zb : Int) (n f : Bool) (es : LL) (J : Int -> Int -> Int -> Int -> Bool -> LL -> Bool -> LL -> (List (PV × PV)) -> (List (PV × PV)) -> Prop) (μ : Int -> Int -> Int -> Int -> Bool -> LL -> Bool -> LL -> (List (PV × PV)) -> (List (PV × PV)) -> Nat) (J2 : Int -> Int -> Int -> Int -> Int -> Bool -> LL -> Bool -> LL -> (List (PV × PV)) -> (List (PV × PV)) -> Int -> Int -> Int -> Int -> Int -> Bool -> LL -> Bool -> LL -> (List (PV × PV)) -> (List (PV × PV)) -> Prop) (μ2 : Int -> Int -> Int -> Int -> Int -> Bool -> LL -> Bool -> LL -> (List (PV × PV)) -> (List (PV × PV)) -> Nat) (J3 : Int -> Int -> Int -> Int -> Int -> (List PV) -> Bool -> LL -> Bool -> LL -> (List (PV × PV)) -> (List (PV × PV)) -> Int -> Int -> Int -> Int -> Int -> (List PV) -> Bool -> LL -> Bool -> LL -> (List (PV × PV)) -> (List (PV × PV)) -> Prop) (μ3 : Int -> Int -> Int -> Int -> Int -> (List PV) -> Bool -> LL -> Bool -> LL -> (List (PV × PV)) -> (List (PV × PV)) -> Nat)
def zgt (R : PV -> Prop) : Prop :=
 if decide (sz < 1) = true then R PV.nilp else PCall Tryz.prog 98 [PV.sl n f es, PV.agg [Z3 za, Z3 zb], Z6 0, Z6 (i64.wrap (sz - 1))] fun v => ∃ vs, v = PV.tup vs /\ vs.length = 2 /\ ∃ x, vs.head? = some x /\ ∃
  (cs : List PV), x = PV.agg cs /\ cs.length = 2 /\ ∃ n1, cs.head? = some (Z3 n1) /\ ∃ n2, cs.tail.head? = some (Z3 n2) /\ ∃ x1, vs.tail.head? = some x1 /\ ∃ n3, x1 = Z6 n3 /\ (aG (zD sz za zb n f es n3 (0 :
  Int) n1 n2 true [] true [] [] []) /\ J n3 (0 : Int) n1 n2 true [] true [] [] []) /\ ∀ (x10 x11 h3_0 h3_1 : Int) (n_4 : Bool) (s_4 : LL) (n_5 : Bool) (s_5 : LL) (m_6 m_7 : List (PV × PV)), J x10 x11 h3_0 h3_1 n_4 s_4 n_5 s_5 m_6 m_7 ->
 let K7 := fun (y0_ y1_ y2_ y3_ : Int) (y4_ : Bool) (y5_ : LL) (y6_ : Bool) (y7_ : LL) (y8_ : List (PV × PV)) (y9_ : List (PV × PV)) => aG (zD sz za zb n f es y0_ y1_ y2_ y3_ y4_ y5_ y6_ y7_ y8_ y9_) /\ J y0_
  y1_ y2_ y3_ y4_ y5_ y6_ y7_ y8_ y9_ /\ μ y0_ y1_ y2_ y3_ y4_ y5_ y6_ y7_ y8_ y9_ < μ x10 x11 h3_0 h3_1 n_4 s_4 n_5 s_5 m_6 m_7; if decide (x11 < sz) = true then if decide (x11 > x10) = true then PCall Tryz.prog 98 [PV.sl n f es, PV.agg
  [Z3 za, Z3 zb], Z6 x11, Z6 (i64.wrap (sz - 1))] fun v1 => ∃ vs1, v1 = PV.tup vs1 /\ vs1.length = 2 /\ ∃ x2, vs1.head? = some x2 /\ ∃ cs1, x2 = PV.agg cs1 /\ cs1.length = 2 /\ ∃ (n4 : Int),
  cs1.head? = some (Z3 n4) /\ ∃ n5, cs1.tail.head? = some (Z3 n5) /\ ∃ x3, vs1.tail.head? = some x3 /\ ∃ n6, x3 = Z6 n6 /\ if decide (n6 >= i64.wrap ((if sz < i64.wrap (x11 + 128) then sz else
  i64.wrap (x11 + 128)) - 1)) = true then ACall Tryz.prog 99 [LV.box 0 0, LV.pv (PV.agg [Z3 n4, Z3 n5])] [Ob.box [LV.box 1 0, LV.mp 2, LV.mp 3], Ob.box [Y6 sz, LV.own 4, LV.own 5], Ob.mp m_6, Ob.mp m_7, Ob.sl (3, 1) false n_4 s_4,
  Ob.sl (154, 256) false n_5 s_5] fun (r : LV) (h' : Hp) => ∃ (t : Int × List (PV × PV) × List (PV × PV) × Bool × LL), (r = Y6 t.1 /\ h' = [Ob.box [LV.box 1 0, LV.mp 2, LV.mp 3], Ob.box [Y6 sz, LV.own 4, LV.own 5], Ob.mp t.snd.fst, Ob.mp
  t.snd.snd.fst, Ob.sl (3, 1) false n_4 s_4, Ob.sl (154, 256) true t.snd.snd.snd.fst t.snd.snd.snd.snd]) /\ (True /\ ((3, 1) = (3, 1) /\ n_4 = n_4 /\ s_4.length = s_4.length) /\ True /\ True /\ True /\ True /\ True) /\ (aG (qA sz za zb n f es
  n6 x11 t.1 n4 n5 n_4 s_4 t.snd.snd.snd.fst t.snd.snd.snd.snd t.snd.fst t.snd.snd.fst) /\ J2 n6 x11 t.1 n4 n5 n_4 s_4 t.snd.snd.snd.fst t.snd.snd.snd.snd t.snd.fst t.snd.snd.fst n6 x11 t.1 n4 n5 n_4 s_4 t.snd.snd.snd.fst t.snd.snd.snd.snd
  t.snd.fst t.snd.snd.fst) /\ ∀ (x101 x111 x13 h3_01 h3_11 : Int) (n_41 : Bool) (s_41 : LL) (n_51 : Bool) (s_51 : LL) (m_61 m_71 : List (PV × PV)), J2 n6 x11 t.1 n4 n5 n_4 s_4 t.snd.snd.snd.fst t.snd.snd.snd.snd t.snd.fst t.snd.snd.fst x101
  x111 x13 h3_01 h3_11 n_41 s_41 n_51 s_51 m_61 m_71 -> if (decide (x111 < sz) && decide (x101 >= i64.wrap ((if sz < i64.wrap (x111 + 128) then sz else i64.wrap (x111 + 128)) - 1))) = true then (aT [[Z6 x13]] 1 /\
  (s_41.length + 1) * 8 <= 140737488355328) /\ aG (qA sz za zb n f es x101 (i64.wrap (x111 + 128)) x13 h3_01 h3_11 (n_41 && false) (s_41 ++ [[Z6 x13]]) n_51 s_51 m_61 m_71) /\ J2 n6 x11 t.1 n4 n5 n_4 s_4 t.snd.snd.snd.fst
  t.snd.snd.snd.snd t.snd.fst t.snd.snd.fst x101 (i64.wrap (x111 + 128)) x13 h3_01 h3_11 (n_41 && false) (s_41 ++ [[Z6 x13]]) n_51 s_51 m_61 m_71 /\ μ2 x101 (i64.wrap (x111 + 128)) x13 h3_01 h3_11 (n_41 && false) (s_41 ++
  [[Z6 x13]]) n_51 s_51 m_61 m_71 < μ2 x101 x111 x13 h3_01 h3_11 n_41 s_41 n_51 s_51 m_61 m_71 else K7 x101 (i64.wrap (i64.wrap (x111 - 128) + 128)) h3_01 h3_11 n_41 s_41 n_51 s_51 m_61 m_71 else (aG (nG sz za zb n f
  es n6 x11 (0 : Int) n4 n5 (List.replicate 256 (Z3 0)) n_4 s_4 n_5 s_5 m_6 m_7) /\ J3 n6 x11 (0 : Int) n4 n5 (List.replicate 256 (Z3 0)) n_4 s_4 n_5 s_5 m_6 m_7 n6 x11 (0 : Int) n4 n5 (List.replicate 256 (Z3 0)) n_4 s_4 n_5 s_5 m_6 m_7) /\
  ∀ (x101 x111 x88 h3_01 h3_11 : Int) (c_4 : List PV) (n_51 : Bool) (s_51 : LL) (n_6 : Bool) (s_6 : LL) (m_71 m_8 : List (PV × PV)), J3 n6 x11 (0 : Int) n4 n5 (List.replicate 256 (Z3 0)) n_4 s_4 n_5 s_5 m_6 m_7 x101 x111 x88 h3_01 h3_11
  c_4 n_51 s_51 n_6 s_6 m_71 m_8 ->
 let K20 := fun (y0_ y1_ y2_ y3_ y4_ : Int) (y5_ : List PV) (y6_ : Bool) (y7_ : LL) (y8_ : Bool) (y9_ : LL) (y10_ : List (PV × PV)) (y11_ : List (PV × PV)) => aG (nG sz za zb n f es y0_ y1_ y2_ y3_ y4_
  y5_ y6_ y7_ y8_ y9_ y10_ y11_) /\ J3 n6 x11 (0 : Int) n4 n5 (List.replicate 256 (Z3 0)) n_4 s_4 n_5 s_5 m_6 m_7 y0_ y1_ y2_ y3_ y4_ y5_ y6_ y7_ y8_ y9_ y10_ y11_ /\ μ3 y0_ y1_ y2_ y3_ y4_ y5_ y6_ y7_ y8_ y9_ y10_ y11_ < μ3 x101 x111 x88
  h3_01 h3_11 c_4 n_51 s_51 n_6 s_6 m_71 m_8; if decide (x88 < 128) = true then if (decide (i64.wrap (x111 + x88) > x101) && decide (i64.wrap (x111 + x88) < sz)) = true then PCall Tryz.prog 98 [PV.sl n f es, PV.agg [Z3 za,
  Z3 zb], Z6 (i64.wrap (x111 + x88)), Z6 (i64.wrap (sz - 1))] fun v2 => ∃ vs2, v2 = PV.tup vs2 /\ vs2.length = 2 /\ ∃ x4, vs2.head? = some x4 /\ ∃ cs2, x4 = PV.agg cs2 /\ cs2.length = 2 /\ ∃
  (n7 : Int), cs2.head? = some (Z3 n7) /\ ∃ n8, cs2.tail.head? = some (Z3 n8) /\ ∃ x5, vs2.tail.head? = some x5 /\ ∃ n9, x5 = Z6 n9 /\ ((0 : Int) <= x88 /\ x88 < (↑128 : Int)) /\ (2 = 2 /\ 0 + x88.toNat * 2 + 2 <= c_4.length)
  /\ K20 n9 x111 (i64.wrap (x88 + 1)) n7 n8 (aP c_4 (0 + x88.toNat * 2) [Z3 n7, Z3 n8]) n_51 s_51 n_6 s_6 m_71 m_8 else ((0 : Int) <= x88 /\ x88 < (↑128 : Int)) /\ (2 = 2 /\ 0 + x88.toNat * 2 + 2 <= c_4.length) /\ K20 x101 x111
  (i64.wrap (x88 + 1)) h3_01 h3_11 (aP c_4 (0 + x88.toNat * 2) [Z3 h3_01, Z3 h3_11]) n_51 s_51 n_6 s_6 m_71 m_8 else 256 <= (List.drop 0 c_4).length /\
 let V1 := ACall Tryz.prog 100 [LV.box 0 0, LV.pv (PV.agg (List.take 256 (List.drop 0 c_4)))] [Ob.box [LV.box 1 0, LV.mp 2, LV.mp 3], Ob.box [Y6 sz, LV.own 4, LV.own 5], Ob.mp m_71, Ob.mp m_8, Ob.sl (3, 1) false n_51 s_51, Ob.sl (154, 256)
  false n_6 s_6] fun (r : LV) (h' : Hp) => ∃ (t : Int × List (PV × PV) × Bool × LL), (r = Y6 t.1 /\ h' = [Ob.box [LV.box 1 0, LV.mp 2, LV.mp 3], Ob.box [Y6 sz, LV.own 4, LV.own 5], Ob.mp t.snd.fst, Ob.mp m_8, Ob.sl (3, 1) false n_51 s_51,
  Ob.sl (154, 256) true t.snd.snd.fst t.snd.snd.snd]) /\ (True /\ ((3, 1) = (3, 1) /\ n_51 = n_51 /\ s_51.length = s_51.length) /\ True /\ True /\ True /\ True /\ True) /\ (aT [[Z6 t.1]] 1 /\ (s_51.length + 1) * 8 <= 140737488355328) /\ K7 x101
  (i64.wrap (x111 + 128)) h3_01 h3_11 (n_51 && false) (s_51 ++ [[Z6 t.1]]) t.snd.snd.fst t.snd.snd.snd t.snd.fst m_8; V1 /\ V1 else if decide (x10 >= i64.wrap ((if sz < i64.wrap (x11 + 128) then sz else
  i64.wrap (x11 + 128)) - 1)) = true then ACall Tryz.prog 99 [LV.box 0 0, LV.pv (PV.agg [Z3 h3_0, Z3 h3_1])] [Ob.box [LV.box 1 0, LV.mp 2, LV.mp 3], Ob.box [Y6 sz, LV.own 4, LV.own 5], Ob.mp m_6, Ob.mp m_7, Ob.sl (3, 1) false n_4
  s_4, Ob.sl (154, 256) false n_5 s_5] fun (r : LV) (h' : Hp) => ∃ (t : Int × List (PV × PV) × List (PV × PV) × Bool × LL), (r = Y6 t.1 /\ h' = [Ob.box [LV.box 1 0, LV.mp 2, LV.mp 3], Ob.box [Y6 sz, LV.own 4, LV.own 5], Ob.mp t.snd.fst,
  Ob.mp t.snd.snd.fst, Ob.sl (3, 1) false n_4 s_4, Ob.sl (154, 256) true t.snd.snd.snd.fst t.snd.snd.snd.snd]) /\ (True /\ ((3, 1) = (3, 1) /\ n_4 = n_4 /\ s_4.length = s_4.length) /\ True /\ True /\ True /\ True /\ True) /\ (aG (qA sz za zb
  n f es x10 x11 t.1 h3_0 h3_1 n_4 s_4 t.snd.snd.snd.fst t.snd.snd.snd.snd t.snd.fst t.snd.snd.fst) /\ J2 x10 x11 t.1 h3_0 h3_1 n_4 s_4 t.snd.snd.snd.fst t.snd.snd.snd.snd t.snd.fst t.snd.snd.fst x10 x11 t.1 h3_0 h3_1 n_4 s_4
  t.snd.snd.snd.fst t.snd.snd.snd.snd t.snd.fst t.snd.snd.fst) /\ ∀ (x101 x111 x13 h3_01 h3_11 : Int) (n_41 : Bool) (s_41 : LL) (n_51 : Bool) (s_51 : LL) (m_61 m_71 : List (PV × PV)), J2 x10 x11 t.1 h3_0 h3_1 n_4 s_4 t.snd.snd.snd.fst
  t.snd.snd.snd.snd t.snd.fst t.snd.snd.fst x101 x111 x13 h3_01 h3_11 n_41 s_41 n_51 s_51 m_61 m_71 -> if (decide (x111 < sz) && decide (x101 >= i64.wrap ((if sz < i64.wrap (x111 + 128) then sz else i64.wrap (x111 +
  128)) - 1))) = true then (aT [[Z6 x13]] 1 /\ (s_41.length + 1) * 8 <= 140737488355328) /\ aG (qA sz za zb n f es x101 (i64.wrap (x111 + 128)) x13 h3_01 h3_11 (n_41 && false) (s_41 ++ [[Z6 x13]]) n_51 s_51 m_61 m_71) /\ J2
  x10 x11 t.1 h3_0 h3_1 n_4 s_4 t.snd.snd.snd.fst t.snd.snd.snd.snd t.snd.fst t.snd.snd.fst x101 (i64.wrap (x111 + 128)) x13 h3_01 h3_11 (n_41 && false) (s_41 ++ [[Z6 x13]]) n_51 s_51 m_61 m_71 /\ μ2 x101 (i64.wrap (x111 +
  128)) x13 h3_01 h3_11 (n_41 && false) (s_41 ++ [[Z6 x13]]) n_51 s_51 m_61 m_71 < μ2 x101 x111 x13 h3_01 h3_11 n_41 s_41 n_51 s_51 m_61 m_71 else K7 x101 (i64.wrap (i64.wrap (x111 - 128) + 128)) h3_01 h3_11 n_41 s_41 n_51
  s_51 m_61 m_71 else (aG (nG sz za zb n f es x10 x11 (0 : Int) h3_0 h3_1 (List.replicate 256 (Z3 0)) n_4 s_4 n_5 s_5 m_6 m_7) /\ J3 x10 x11 (0 : Int) h3_0 h3_1 (List.replicate 256 (Z3 0)) n_4 s_4 n_5 s_5 m_6 m_7 x10 x11 (0 : Int)
  h3_0 h3_1 (List.replicate 256 (Z3 0)) n_4 s_4 n_5 s_5 m_6 m_7) /\ ∀ (x101 x111 x88 h3_01 h3_11 : Int) (c_4 : List PV) (n_51 : Bool) (s_51 : LL) (n_6 : Bool) (s_6 : LL) (m_71 m_8 : List (PV × PV)), J3 x10 x11 (0 : Int) h3_0 h3_1
  (List.replicate 256 (Z3 0)) n_4 s_4 n_5 s_5 m_6 m_7 x101 x111 x88 h3_01 h3_11 c_4 n_51 s_51 n_6 s_6 m_71 m_8 -> if decide (x88 < 128) = true then if (decide (i64.wrap (x111 + x88) > x101) && decide (i64.wrap (x111 + x88) <
  sz)) = true then PCall Tryz.prog 98 [PV.sl n f es, PV.agg [Z3 za, Z3 zb], Z6 (i64.wrap (x111 + x88)), Z6 (i64.wrap (sz - 1))] fun v1 => ∃ vs1, v1 = PV.tup vs1 /\ vs1.length = 2 /\ ∃ x2, vs1.head? =
  some x2 /\ ∃ cs1, x2 = PV.agg cs1 /\ cs1.length = 2 /\ ∃ n4, cs1.head? = some (Z3 n4) /\ ∃ n5, cs1.tail.head? = some (Z3 n5) /\ ∃ x3, vs1.tail.head? = some x3 /\ ∃ n6, x3 = Z6 n6 /\ ((0 : Int) <= x88 /\
  x88 < (↑128 : Int)) /\ (2 = 2 /\ 0 + x88.toNat * 2 + 2 <= c_4.length) /\ aG (nG sz za zb n f es n6 x111 (i64.wrap (x88 + 1)) n4 n5 (aP c_4 (0 + x88.toNat * (2 : Nat)) [Z3 n4, Z3 n5]) n_51 s_51 n_6 s_6 m_71 m_8) /\ J3 x10 x11
  (0 : Int) h3_0 h3_1 (List.replicate 256 (Z3 0)) n_4 s_4 n_5 s_5 m_6 m_7 n6 x111 (i64.wrap (x88 + 1)) n4 n5 (aP c_4 (0 + x88.toNat * (2 : Nat)) [Z3 n4, Z3 n5]) n_51 s_51 n_6 s_6 m_71 m_8 /\ μ3 n6 x111 (i64.wrap (x88 + 1))
  n4 n5 (aP c_4 (0 + x88.toNat * 2) [Z3 n4, Z3 n5]) n_51 s_51 n_6 s_6 m_71 m_8 < μ3 x101 x111 x88 h3_01 h3_11 c_4 n_51 s_51 n_6 s_6 m_71 m_8 else ((0 : Int) <= x88 /\ x88 < (↑128 : Int)) /\ (2 = 2 /\ 0 + x88.toNat * 2 + 2 <= c_4.length) /\
  aG (nG sz za zb n f es x101 x111 (i64.wrap (x88 + 1)) h3_01 h3_11 (aP c_4 (0 + x88.toNat * 2) [Z3 h3_01, Z3 h3_11]) n_51 s_51 n_6 s_6 m_71 m_8) /\ J3 x10 x11 (0 : Int) h3_0 h3_1 (List.replicate 256 (Z3 0)) n_4 s_4 n_5 s_5
  m_6 m_7 x101 x111 (i64.wrap (x88 + 1)) h3_01 h3_11 (aP c_4 (0 + x88.toNat * 2) [Z3 h3_01, Z3 h3_11]) n_51 s_51 n_6 s_6 m_71 m_8 /\ μ3 x101 x111 (i64.wrap (x88 + 1)) h3_01 h3_11 (aP c_4 (0 + x88.toNat * 2) [Z3 h3_01, Z3
  h3_11]) n_51 s_51 n_6 s_6 m_71 m_8 < μ3 x101 x111 x88 h3_01 h3_11 c_4 n_51 s_51 n_6 s_6 m_71 m_8 else 256 <= (List.drop 0 c_4).length /\
 let V2 := ACall Tryz.prog 100 [LV.box 0 0, LV.pv (PV.agg (List.take 256 (List.drop 0 c_4)))] [Ob.box [LV.box 1 0, LV.mp 2, LV.mp 3], Ob.box [Y6 sz, LV.own 4, LV.own 5], Ob.mp m_71, Ob.mp m_8, Ob.sl (3, 1) false n_51 s_51, Ob.sl (154, 256)
  false n_6 s_6] fun (r : LV) (h' : Hp) => ∃ (t : Int × List (PV × PV) × Bool × LL), (r = Y6 t.1 /\ h' = [Ob.box [LV.box 1 0, LV.mp 2, LV.mp 3], Ob.box [Y6 sz, LV.own 4, LV.own 5], Ob.mp t.snd.fst, Ob.mp m_8, Ob.sl (3, 1) false n_51 s_51,
  Ob.sl (154, 256) true t.snd.snd.fst t.snd.snd.snd]) /\ (True /\ ((3, 1) = (3, 1) /\ n_51 = n_51 /\ s_51.length = s_51.length) /\ True /\ True /\ True /\ True /\ True) /\ (aT [[Z6 t.1]] 1 /\ (s_51.length + 1) * 8 <= 140737488355328) /\ K7 x101
  (i64.wrap (x111 + 128)) h3_01 h3_11 (n_51 && false) (s_51 ++ [[Z6 t.1]]) t.snd.snd.fst t.snd.snd.snd t.snd.fst m_8; V2 /\ V2 else R (PV.ptr [Z6 sz, PV.sl n_4 false s_4, PV.sl n_5 false s_5])
theorem zqt {R : PV -> Prop} (h : zgt sz za zb n f es J μ J2 μ2 J3 μ3 R) : PCall Tryz.prog 60 [.int .i64 sz, .agg [.int .i32 za, .int .i32 zb], .sl n f es] R :=
 PCall.of Tryz.func60 (by kernel_rfl) (by kernel_rfl) (zl (by kernel_rfl)) (Eq.mpr (by kernel_rfl : aO Tryz.prog (fun zz_ => match zz_ with | 100 => some ⟨Int × List (PV × PV) × Bool × LL, fun _ hs t => (.pv (.int .i64 t.1), match hs with | [m, r, .mp _, ev, ix, .sl a _ _ _] => [m, r, .mp t.2.1, ev, ix, .sl a true t.2.2.1 t.2.2.2] | h => h), none⟩ | 99 => some ⟨Int × List (PV × PV) × List (PV × PV) × Bool × LL, fun _ hs t => (.pv (.int .i64 t.1), match hs with | [m, r, .mp _, .mp _, ix, .sl a _ _ _] => [m, r, .mp t.2.1, .mp t.2.2.1, ix, .sl a true t.2.2.2.1 t.2.2.2.2] | h => h), none⟩ | _ => none) Tryz.f60 [0, 1, 2, 4, 6, 7, 8, 9, 10, 11, 12, 13, 14, 15, 17, 36, 41, 58, 73, 88, 89, 102] (fun zz_ => match zz_ with | 7 => some ⟨Int × Int × Int × Int × Bool × LL × Bool × LL × (List (PV × PV)) × (List (PV × PV)), fun s => zD sz za zb n f es s.1 s.2.1 s.2.2.1 s.2.2.2.1 s.2.2.2.2.1 s.2.2.2.2.2.1 s.2.2.2.2.2.2.1 s.2.2.2.2.2.2.2.1 s.2.2.2.2.2.2.2.2.1 s.2.2.2.2.2.2.2.2.2, fun _ s => J s.1 s.2.1 s.2.2.1 s.2.2.2.1 s.2.2.2.2.1 s.2.2.2.2.2.1 s.2.2.2.2.2.2.1 s.2.2.2.2.2.2.2.1 s.2.2.2.2.2.2.2.2.1 s.2.2.2.2.2.2.2.2.2, fun s => μ s.1 s.2.1 s.2.2.1 s.2.2.2.1 s.2.2.2.2.1 s.2.2.2.2.2.1 s.2.2.2.2.2.2.1 s.2.2.2.2.2.2.2.1 s.2.2.2.2.2.2.2.2.1 s.2.2.2.2.2.2.2.2.2, fun e h => (gI e 10, gI e 11, hI h 3 0, hI h 3 1, oN h 4, oS h 4, oN h 5, oS h 5, oM h 6, oM h 7), [(1001001, 3, 1), (1001002, 154, 256)], [0, 2, 4, 7, 8, 9, 10, 11], [], fun p => ∀ (x10 x11 h3_0 h3_1 : Int) (n_4 : Bool) (s_4 : LL) (n_5 : Bool) (s_5 : LL) (m_6 : List (PV × PV)) (m_7 : List (PV × PV)), p (x10, x11, h3_0, h3_1, n_4, s_4, n_5, s_5, m_6, m_7), fun p h s => h s.1 s.2.1 s.2.2.1 s.2.2.2.1 s.2.2.2.2.1 s.2.2.2.2.2.1 s.2.2.2.2.2.2.1 s.2.2.2.2.2.2.2.1 s.2.2.2.2.2.2.2.2.1 s.2.2.2.2.2.2.2.2.2⟩ | 14 => some ⟨Int × Int × Int × Int × Int × Bool × LL × Bool × LL × (List (PV × PV)) × (List (PV × PV)), fun s => qA sz za zb n f es s.1 s.2.1 s.2.2.1 s.2.2.2.1 s.2.2.2.2.1 s.2.2.2.2.2.1 s.2.2.2.2.2.2.1 s.2.2.2.2.2.2.2.1 s.2.2.2.2.2.2.2.2.1 s.2.2.2.2.2.2.2.2.2.1 s.2.2.2.2.2.2.2.2.2.2, fun t s => J2 t.1 t.2.1 t.2.2.1 t.2.2.2.1 t.2.2.2.2.1 t.2.2.2.2.2.1 t.2.2.2.2.2.2.1 t.2.2.2.2.2.2.2.1 t.2.2.2.2.2.2.2.2.1 t.2.2.2.2.2.2.2.2.2.1 t.2.2.2.2.2.2.2.2.2.2 s.1 s.2.1 s.2.2.1 s.2.2.2.1 s.2.2.2.2.1 s.2.2.2.2.2.1 s.2.2.2.2.2.2.1 s.2.2.2.2.2.2.2.1 s.2.2.2.2.2.2.2.2.1 s.2.2.2.2.2.2.2.2.2.1 s.2.2.2.2.2.2.2.2.2.2, fun s => μ2 s.1 s.2.1 s.2.2.1 s.2.2.2.1 s.2.2.2.2.1 s.2.2.2.2.2.1 s.2.2.2.2.2.2.1 s.2.2.2.2.2.2.2.1 s.2.2.2.2.2.2.2.2.1 s.2.2.2.2.2.2.2.2.2.1 s.2.2.2.2.2.2.2.2.2.2, fun e h => (gI e 10, gI e 11, gI e 13, hI h 3 0, hI h 3 1, oN h 4, oS h 4, oN h 5, oS h 5, oM h 6, oM h 7), [], [0, 2, 4, 7, 8, 9, 10, 11, 13], [], fun p => ∀ (x10 x11 x13 h3_0 h3_1 : Int) (n_4 : Bool) (s_4 : LL) (n_5 : Bool) (s_5 : LL) (m_6 : List (PV × PV)) (m_7 : List (PV × PV)), p (x10, x11, x13, h3_0, h3_1, n_4, s_4, n_5, s_5, m_6, m_7), fun p h s => h s.1 s.2.1 s.2.2.1 s.2.2.2.1 s.2.2.2.2.1 s.2.2.2.2.2.1 s.2.2.2.2.2.2.1 s.2.2.2.2.2.2.2.1 s.2.2.2.2.2.2.2.2.1 s.2.2.2.2.2.2.2.2.2.1 s.2.2.2.2.2.2.2.2.2.2⟩ | 20 => some ⟨Int × Int × Int × Int × Int × (List PV) × Bool × LL × Bool × LL × (List (PV × PV)) × (List (PV × PV)), fun s => nG sz za zb n f es s.1 s.2.1 s.2.2.1 s.2.2.2.1 s.2.2.2.2.1 s.2.2.2.2.2.1 s.2.2.2.2.2.2.1 s.2.2.2.2.2.2.2.1 s.2.2.2.2.2.2.2.2.1 s.2.2.2.2.2.2.2.2.2.1 s.2.2.2.2.2.2.2.2.2.2.1 s.2.2.2.2.2.2.2.2.2.2.2, fun t s => J3 t.1 t.2.1 t.2.2.1 t.2.2.2.1 t.2.2.2.2.1 t.2.2.2.2.2.1 t.2.2.2.2.2.2.1 t.2.2.2.2.2.2.2.1 t.2.2.2.2.2.2.2.2.1 t.2.2.2.2.2.2.2.2.2.1 t.2.2.2.2.2.2.2.2.2.2.1 t.2.2.2.2.2.2.2.2.2.2.2 s.1 s.2.1 s.2.2.1 s.2.2.2.1 s.2.2.2.2.1 s.2.2.2.2.2.1 s.2.2.2.2.2.2.1 s.2.2.2.2.2.2.2.1 s.2.2.2.2.2.2.2.2.1 s.2.2.2.2.2.2.2.2.2.1 s.2.2.2.2.2.2.2.2.2.2.1 s.2.2.2.2.2.2.2.2.2.2.2, fun s => μ3 s.1 s.2.1 s.2.2.1 s.2.2.2.1 s.2.2.2.2.1 s.2.2.2.2.2.1 s.2.2.2.2.2.2.1 s.2.2.2.2.2.2.2.1 s.2.2.2.2.2.2.2.2.1 s.2.2.2.2.2.2.2.2.2.1 s.2.2.2.2.2.2.2.2.2.2.1 s.2.2.2.2.2.2.2.2.2.2.2, fun e h => (gI e 10, gI e 11, gI e 88, hI h 3 0, hI h 3 1, oA h 4, oN h 5, oS h 5, oN h 6, oS h 6, oM h 7, oM h 8), [], [0, 2, 4, 7, 8, 9, 10, 11, 14, 88], [], fun p => ∀ (x10 x11 x88 h3_0 h3_1 : Int) (c_4 : List PV) (n_5 : Bool) (s_5 : LL) (n_6 : Bool) (s_6 : LL) (m_7 : List (PV × PV)) (m_8 : List (PV × PV)), p (x10, x11, x88, h3_0, h3_1, c_4, n_5, s_5, n_6, s_6, m_7, m_8), fun p h s => h s.1 s.2.1 s.2.2.1 s.2.2.2.1 s.2.2.2.2.1 s.2.2.2.2.2.1 s.2.2.2.2.2.2.1 s.2.2.2.2.2.2.2.1 s.2.2.2.2.2.2.2.2.1 s.2.2.2.2.2.2.2.2.2.1 s.2.2.2.2.2.2.2.2.2.2.1 s.2.2.2.2.2.2.2.2.2.2.2⟩ | _ => none) (Tryz.f60.body.getD .skip) [.int .i64 sz, .agg [.int .i32 za, .int .i32 zb], .sl n f es] R = _) h)
end
end Go.Eng



namespace Go.Eng
open Go Go.Proofs Go.Eng.Trie
def encP (v : (Int × Int)) : List PV := [.int .i32 v.1, .int .i32 v.2]
theorem EP : Enc Tryz.prog [21, 21] encP := ⟨fun a => by
 simp only [encP, bA, Bool.and_true]
 rw [show Tryz.prog.underlying 21 = some (.int .i32) by kernel_rfl]
 rfl, fun a b => by
 obtain ⟨a0, a1⟩ := a
 obtain ⟨b0, b1⟩ := b
 simp only [encP, bR, dY, Bool.and_true]
 rw [Bool.eq_iff_iff]
 simp⟩
def pcP (p : Pc (Int × Int)) : List PV := [.int .i64 p.fr, .int .i64 p.to] ++ encP p.v
def jZ (l : List (Pc (Int × Int))) : List (List PV) := l.map pcP
theorem zqu (p : Pc (Int × Int)) : (pcP p).length = 4 := rfl
theorem zgu (l : List (Pc (Int × Int))) : (jZ l).length = l.length := by simp [jZ]
theorem zF (n f : Bool) (l : List (Pc (Int × Int))) (z : (Int × Int)) (i last : Int) (hl : l.length < 4611686018427387904) (hok : ∀ p ∈ l, -9223372036854775808 <= p.fr - 1 /\ p.fr - 1 <= 9223372036854775807) :
 PCall Tryz.prog 98 [.sl n f (jZ l), .agg (encP z), .int .i64 i, .int .i64 last] fun v => v = .tup [.agg (encP (findL l z i last).1), .int .i64 (findL l z i last).2] := by
 refine zqp _ _ _ z.1 z.2 _ _ (fun a k _ _ => 0 <= k /\ k <= l.length /\ findL l z i last = findL (l.drop k.toNat) z i a) (fun _ k _ _ => l.length - k.toNat) ?_
 unfold zgp
 refine ⟨⟨rfl, Int.le_refl _, by omega, rfl⟩, ?_⟩
 rintro a k _ _ ⟨k0, k1, he⟩
 refine aD (fun hc => ?_) (fun hc => ?_)
 ·simp only [decide_eq_true_eq, zgu] at hc
  have hk : k.toNat < l.length := by omega
  have hw : i64.wrap (k + 1) = k + 1 := aC (by omega) (by omega)
  have hn : (k + 1).toNat = k.toNat + 1 := by omega
  have hg : (jZ l).getD k.toNat [] = pcP l[k.toNat] := cN hk
  have hix : aK (jZ l) k 4 := bW zqu k0 (by omega)
  have hm := hok _ (List.getElem_mem hk)
  rw [drop_cons hk] at he
  rw [hw]
  dsimp only
  rw [hn]
  have hmu : l.length - (k.toNat + 1) < l.length - k.toNat := by omega
  refine ⟨hix, l[k.toNat].fr, by rw [hg]; rfl, l[k.toNat].to, by rw [hg]; rfl, l[k.toNat].v.1, by rw [hg]; rfl, l[k.toNat].v.2, by rw [hg]; rfl, ?_⟩
  generalize l[k.toNat] = p at *
  have hw2 : i64.wrap (p.fr - 1) = p.fr - 1 := aC hm.1 hm.2
  rw [hw2]
  rw [yL] at he
  by_cases h1 : p.fr <= i
  ·refine bG (by simpa using h1) ?_
   by_cases h2 : i <= p.to
   ·refine bG (by simpa using h2) ?_
    rw [if_pos ⟨h1, h2⟩] at he
    rw [he]
    repeat' (first | rfl | apply And.intro)
   ·refine bK (by simpa using h2) ?_
    rw [if_neg (by omega), if_neg (by omega)] at he
    refine bK (by simp; omega) ?_
    exact ⟨rfl, ⟨by omega, by omega, he⟩, hmu⟩
  ·refine bK (by simpa using h1) ?_
   rw [if_neg (by omega)] at he
   refine bG (by simp; omega) ?_
   by_cases h3 : p.fr <= a
   ·refine bG (by simpa using h3) ?_
    rw [if_pos (by omega)] at he
    exact ⟨rfl, ⟨by omega, by omega, he⟩, hmu⟩
   ·refine bK (by simpa using h3) ?_
    rw [if_neg (by omega)] at he
    exact ⟨rfl, ⟨by omega, by omega, he⟩, hmu⟩
 ·simp only [decide_eq_true_eq, zgu] at hc
  rw [List.drop_of_length_le (by omega)] at he
  rw [he]; rfl
def TrieP (sz : Int) (F : Int -> (Int × Int)) (v : PV) : Prop := ∃ n f n2 f2 idx blk, v = .ptr [.int .i64 sz, .sl n f (aX idx), .sl n2 f2 (bB encP blk)] /\ TOK sz F idx blk
theorem p84 {sz : Int} {F : Int -> (Int × Int)} {t : PV} (ht : TrieP sz F t) (i : Int) (h1 : sz <= 1114112) : PCall Tryz.prog 61 [t, .int .i64 i] fun v => v = .agg (encP (if 0 <= i /\ i < sz then F i else (0, 0))) := by
 obtain ⟨n, f, n2, f2, idx, blk, rfl, ht⟩ := ht
 refine zqq _ _ _ _ _ _ _ _ ?_
 unfold zgq
 refine aD (fun hc => ?_) (fun hc => ?_)
 ·simp only [decide_eq_true_eq] at hc
  rw [if_neg (by omega)]; rfl
 ·simp only [decide_eq_true_eq] at hc
  refine ⟨_, rfl, ?_⟩
  refine aD (fun hc2 => ?_) (fun hc2 => ?_)
  ·simp only [decide_eq_true_eq, ge_iff_le] at hc2
   rw [if_neg (by omega)]; rfl
  ·simp only [decide_eq_true_eq, ge_iff_le] at hc2
   rw [if_pos (by omega)]
   obtain ⟨hq, g0, hk, hj, he⟩ := ht.get (i := i) (by omega) (by omega)
   have hw : i64.wrap (i.tdiv 128) = i / 128 := by rw [Int.tdiv_eq_ediv_of_nonneg (by omega)]; exact aC (by omega) (by omega)
   have hm : i.tmod 128 = i % 128 := Int.tmod_eq_emod_of_nonneg (by omega)
   have hg : (aX idx).getD (i / 128).toNat [] = [.int .i64 idx[(i / 128).toNat]] := cN hq
   have hg2 : (bB encP blk).getD idx[(i / 128).toNat].toNat [] = cells encP blk[idx[(i / 128).toNat].toNat] := cN hk
   refine ⟨_, _, _, rfl, _, _, _, rfl, ?_⟩
   rw [hw]
   have := EP.at _ _ hj
   simp only [List.length_cons, List.length_nil, Nat.zero_add, Nat.reduceAdd] at this
   have hcell : List.drop ((i % 128).toNat * 2) ((bB encP blk).getD idx[(i / 128).toNat].toNat []) = encP (F i) ++ (List.drop ((i % 128).toNat + 1) (blk[idx[(i / 128).toNat].toNat]).1).flatMap encP := by
    rw [hg2]; unfold cells; rw [this, he]
   refine ⟨bW lZ (by omega) (by omega), idx[(i / 128).toNat], by rw [hg]; rfl, bW (EP.cells_len) g0 (by omega), by rw [hm]; omega, ?_⟩
   rw [hm, hcell]
   exact ⟨(F i).1, rfl, (F i).2, rfl, rfl⟩
def cP (b : aR (Int × Int)) : List PV := cells encP b
def kvP (k : Int) : PV := .int .i64 k
def e8 (kn : List (aR (Int × Int) × Int)) : List (PV × PV) := cC (fun b => .agg (cP b)) kvP kn
def fV (ev : List ((Int × Int) × Int)) : List (PV × PV) := cC (fun v => .agg (encP v)) kvP ev
def kU (sz : Int) (kn : List (aR (Int × Int) × Int)) (ev : List ((Int × Int) × Int)) (ixm ixn bkm bkn : Bool) (idx : List Int) (blk : List (aR (Int × Int))) : Hp :=
 [.box [.box 1 0, .mp 2, .mp 3], .box [.pv (.int .i64 sz), .own 4, .own 5], .mp (e8 kn), .mp (fV ev), .sl (3, 1) ixm ixn (aX idx), .sl (154, 256) bkm bkn (bB encP blk)]
theorem l8 (b : aR (Int × Int)) : (cP b).length = 256 := EP.cells_len b
theorem zG (b : aR (Int × Int)) : List.take 256 (List.drop 0 (cP b)) = cP b := by rw [List.drop_zero, List.take_of_length_le (by rw [l8]; omega)]
theorem zgv : eG Tryz.prog 154 = true := by kernel_rfl
theorem zgw : fE Tryz.prog 154 = (List.replicate 128 [21, 21]).flatten := by kernel_rfl
theorem zH : eG Tryz.prog 86 = true := by kernel_rfl
theorem zI : fE Tryz.prog 86 = [21, 21] := by kernel_rfl
theorem zqv (b : aR (Int × Int)) (kn : List (aR (Int × Int) × Int)) : cH (.agg (cP b)) (e8 kn) = (cD b kn).map kvP := lT (ek := fun b => PV.agg (cP b)) (ev := kvP) EP.blkEq b kn
theorem zqw (b : aR (Int × Int)) (k : Int) (kn : List (aR (Int × Int) × Int)) : bI (.agg (cP b)) (kvP k) (e8 kn) = e8 (bY b k kn) := iX (ek := fun b => PV.agg (cP b)) (ev := kvP) EP.blkEq b k kn
theorem zgx (b : aR (Int × Int)) : a8 Tryz.prog 154 (.agg (cP b)) = true := EP.blkOk zgv zgw b
theorem zgy (kn : List (aR (Int × Int) × Int)) : cR Tryz.prog 154 (e8 kn) := EP.blksOk zgv zgw kn
theorem zgz {sz : Int} {F : Int -> (Int × Int)} {idx : List Int} {blk : List (aR (Int × Int))} {kn : List (aR (Int × Int) × Int)} {ev : List ((Int × Int) × Int)} (hk : TInv sz F idx blk kn ev) (hb : blk.length <= 10000000) (ixn bkn : Bool) (b : aR (Int × Int)) :
 ACall Tryz.prog 100 [.box 0 0, .pv (.agg (cP b))] (kU sz kn ev false ixn false bkn idx blk) fun r h' => ∃ k kn' bn' blk', r = .pv (kvP k) /\ h' = kU sz kn' ev false ixn true bn' idx blk' /\ TInv sz F idx blk' kn' ev /\ 0 <= k /\ blk'[k.toNat]? = some b /\ blk'.length <= blk.length + 1 := by
 refine ACall.mark 1000 [5] (R := fun r h' => ∃ k kn' bm' bn' blk', r = .pv (kvP k) /\ h' = kU sz kn' ev false ixn bm' bn' idx blk' /\ TInv sz F idx blk' kn' ev /\ 0 <= k /\ blk'[k.toNat]? = some b /\ blk'.length <= blk.length + 1) ?_ ?_
 ·refine zqr _ _ _ _ _ _ _ _ _ _ ?_
  unfold zgr
  rw [zG, zqv]
  have h128 : 256 <= (List.drop 0 (cP b)).length := by rw [List.drop_zero, l8]; omega
  refine ⟨h128, zgy kn, zgx b, fun v hv => ?_, fun hv => ?_⟩
  ·cases hg : cD b kn with
   | none => rw [hg] at hv; cases hv
   | some k =>
     rw [hg] at hv; cases hv
     obtain ⟨k0, k1⟩ := hk.kn_ok b k hg
     exact ⟨k, rfl, k, kn, false, bkn, blk, rfl, rfl, hk, k0, k1, by omega⟩
  ·have hsz : aT [cP b] 256 /\ ((bB encP blk).length + 1) * 1024 <= 140737488355328 := ⟨fun e he => by simp at he; subst he; exact l8 b, by rw [jW]; omega⟩
   have fin : ∃ k kn' bm' bn' blk', LV.pv (.int .i64 ((bB encP blk).length : Int)) = .pv (kvP k) /\
    [Ob.box [.box 1 0, .mp 2, .mp 3], .box [.pv (.int .i64 sz), .own 4, .own 5], .mp (bI (.agg (cP b)) (.int .i64 ((bB encP blk).length : Int)) (e8 kn)), .mp (fV ev), .sl (3, 1) false ixn (aX idx), .sl (154, 256) true (bkn && false) (bB encP blk ++ [cP b])] = kU sz kn' ev false ixn bm' bn' idx blk' /\ TInv sz F idx blk' kn' ev /\ 0 <= k /\ blk'[k.toNat]? = some b /\ blk'.length <= blk.length + 1 := by
    refine ⟨blk.length, bY b (blk.length : Int) kn, true, bkn && false, blk ++ [b], by rw [jW]; rfl, ?_, hk.place b, by omega, by simp, by simp⟩
    have := zqw b (blk.length : Int) kn
    unfold kvP at this
    rw [jW, this]
    simp [kU, bB, cP]
   exact ⟨h128, zgy kn, zgx b, h128, ⟨l8 b, hsz, fin⟩, l8 b, ⟨hsz, fin⟩, hsz, fin⟩
 ·rintro r h' ⟨k, kn', bm', bn', blk', rfl, rfl, h1, h2, h3, h4⟩
  exact ⟨k, kn', bn', blk', rfl, rfl, h1, h2, h3, h4⟩
theorem zqx (v : (Int × Int)) (ev : List ((Int × Int) × Int)) : cH (.agg (encP v)) (fV ev) = (cD v ev).map kvP := lT (ek := fun v => PV.agg (encP v)) (ev := kvP) EP.valEq v ev
theorem zqy (v : (Int × Int)) (k : Int) (ev : List ((Int × Int) × Int)) : bI (.agg (encP v)) (kvP k) (fV ev) = fV (bY v k ev) := iX (ek := fun v => PV.agg (encP v)) (ev := kvP) EP.valEq v k ev
theorem zJ (v : (Int × Int)) : a8 Tryz.prog 86 (.agg (encP v)) = true := EP.valOk zH zI v
theorem zg0 (ev : List ((Int × Int) × Int)) : cR Tryz.prog 86 (fV ev) := EP.valsOk zH zI ev
theorem zK (l : List (Int × Int)) (j : Nat) (hj : j < l.length) (v : (Int × Int)) : aP (l.flatMap encP) (0 + j * 2) (encP v) = (l.set j v).flatMap encP := by
 have := EP.put l j hj v
 simp only [List.length_cons, List.length_nil, Nat.zero_add, Nat.reduceAdd] at this ⊢
 exact this
theorem zL (l : List (Int × Int)) : (l.flatMap encP).length = l.length * 2 := EP.flen l
theorem zg1 : List.replicate 256 (PV.int .i32 0) = (List.replicate 128 ((0, 0) : (Int × Int))).flatMap encP := by rfl
theorem zqz {l : List (Int × Int)} {v : (Int × Int)} (hl : l.length = 128) (h : ∀ q, q < 128 -> l[q]? = some v) : l = List.replicate 128 v := by
 refine List.ext_getElem? fun q => ?_
 rcases Nat.lt_or_ge q 128 with hq | hq
 ·rw [h q hq, List.getElem?_replicate, if_pos hq]
 ·rw [List.getElem?_eq_none (by omega), List.getElem?_eq_none (by simp; omega)]
theorem zq0 {sz : Int} {F : Int -> (Int × Int)} {idx : List Int} {blk : List (aR (Int × Int))} {kn : List (aR (Int × Int) × Int)} {ev : List ((Int × Int) × Int)} (hk : TInv sz F idx blk kn ev) (hb : blk.length <= 10000000) (ixn bkn : Bool) (v : (Int × Int)) :
 ACall Tryz.prog 99 [.box 0 0, .pv (.agg (encP v))] (kU sz kn ev false ixn false bkn idx blk) fun r h' => ∃ k kn' ev' bn' blk', r = .pv (kvP k) /\ h' = kU sz kn' ev' false ixn true bn' idx blk' /\ TInv sz F idx blk' kn' ev' /\ 0 <= k /\ blk'[k.toNat]? = some (rep v) /\ blk'.length <= blk.length + 1 := by
 refine ACall.mark 1000 [5] (R := fun r h' => ∃ k kn' ev' bm' bn' blk', r = .pv (kvP k) /\ h' = kU sz kn' ev' false ixn bm' bn' idx blk' /\ TInv sz F idx blk' kn' ev' /\ 0 <= k /\ blk'[k.toNat]? = some (rep v) /\ blk'.length <= blk.length + 1) ?_ ?_
 ·refine zqs _ _ _ _ _ _ _ _ _ v.1 v.2 (fun x m2 m3 c => 0 <= x /\ x <= 128 /\ m2 = e8 kn /\ m3 = fV ev /\ ∃ l : List (Int × Int), l.length = 128 /\ c = l.flatMap encP /\ ∀ q, q < x.toNat -> l[q]? = some v) (fun x _ _ _ => 128 - x.toNat) ?_
  unfold zgs
  rw [show [.int .i32 v.1, .int .i32 v.2] = encP v from rfl, zqx]
  refine ⟨zg0 ev, zJ v, fun u hu => ?_, fun hu => ⟨⟨rfl, Int.le_refl _, by omega, rfl, rfl, List.replicate 128 (0, 0), by simp, zg1, fun q hq => by simp at hq⟩, ?_⟩⟩
  ·cases hg : cD v ev with
   | none => rw [hg] at hu; cases hu
   | some k =>
     rw [hg] at hu; cases hu
     obtain ⟨k0, k1⟩ := hk.ev_ok v k hg
     exact ⟨k, rfl, k, kn, ev, false, bkn, blk, rfl, rfl, hk, k0, k1, by omega⟩
  ·rintro x _ _ _ ⟨x0, x1, rfl, rfl, l, hl, rfl, hq⟩
   refine aD (fun hc => ?_) (fun hc => ?_)
   ·simp only [decide_eq_true_eq] at hc
    have hw : i64.wrap (x + 1) = x + 1 := aC (by omega) (by omega)
    have hn : (x + 1).toNat = x.toNat + 1 := by omega
    rw [zK l x.toNat (by omega) v, hw, zL]
    refine ⟨⟨x0, hc⟩, ⟨rfl, by omega⟩, rfl, ⟨by omega, by omega, rfl, rfl, l.set x.toNat v, by simpa using hl, rfl, fun q hq' => ?_⟩, by dsimp only; omega⟩
    rw [hn] at hq'
    rw [List.getElem?_set]
    by_cases e : x.toNat = q
    ·rw [if_pos e, if_pos (by omega)]
    ·rw [if_neg e]; exact hq q (by omega)
   ·simp only [decide_eq_true_eq] at hc
    have hx : x = 128 := by omega
    subst hx
    have hrep := zqz hl hq
    subst hrep
    have hcI : (List.replicate 128 v).flatMap encP = cP (rep v) := rfl
    rw [hcI, zG]
    refine ⟨by rw [List.drop_zero, l8]; omega, ?_⟩
    refine (zgz hk hb ixn bkn (rep v)).mono ?_
    rintro _ _ ⟨k, kn', bn', blk', rfl, rfl, h1, h2, h3, h4⟩
    refine ⟨(k, e8 kn', bn', bB encP blk'), ⟨rfl, rfl⟩, ⟨trivial, ⟨rfl, rfl, rfl⟩, trivial, trivial, trivial, trivial, trivial⟩, zg0 ev, zJ v, ?_⟩
    have := zqy v k ev
    unfold kvP at this
    simp only [this]
    exact ⟨k, kn', bY v k ev, _, bn', blk', rfl, rfl, h1.even h2 h3, h2, h3, h4⟩
 ·rintro r h' ⟨k, kn', ev', bm', bn', blk', rfl, rfl, h1, h2, h3, h4⟩
  exact ⟨k, kn', ev', bn', blk', rfl, rfl, h1, h2, h3, h4⟩
theorem zq1 {v : (Int × Int)} {j : Nat} {u : (Int × Int)} (h : (Trie.rep v).1[j]? = some u) : u = v /\ j < 128 := by
 simp only [Trie.rep, List.getElem?_replicate] at h
 split at h
 ·rename_i hj; cases h; exact ⟨rfl, hj⟩
 ·cases h
theorem p83 (sz : Int) (z : (Int × Int)) (n f : Bool) (l : List (Pc (Int × Int))) (hl : l.length < 4611686018427387904) (hok : ∀ p ∈ l, -9223372036854775808 <= p.fr - 1 /\ p.fr - 1 <= 9223372036854775807) (hs1 : 1 <= sz) (hs2 : sz <= 1114112) :
 PCall Tryz.prog 60 [.int .i64 sz, .agg (encP z), .sl n f (jZ l)] fun v => TrieP sz (eV l z) v := by
 have hF := fun i => p0 l z i (sz - 1)
 generalize hFF : eV l z = F at *
 refine zqt _ z.1 z.2 _ _ _
  (fun x10 x11 va vb _ s2 _ s3 m4 m5 => ∃ idx blk kn ev, s2 = aX idx /\ s3 = bB encP blk /\ m4 = e8 kn /\ m5 = fV ev /\ TInv sz F idx blk kn ev /\ x11 = 128 * idx.length /\ blk.length <= idx.length /\ x11 < sz + 128 /\ (∀ j, x11 <= j -> j <= x10 -> F j = (va, vb)) /\ x10 <= sz - 1)
  (fun _ x11 _ _ _ _ _ _ _ _ => (sz + 128 - x11).toNat)
  (fun _ y11 _ _ _ _ _ _ _ _ _ x10 x11 x13 va vb _ s2 _ s3 m4 m5 => ∃ idx blk kn ev, s2 = aX idx /\ s3 = bB encP blk /\ m4 = e8 kn /\ m5 = fV ev /\ TInv sz F idx blk kn ev /\ x11 = 128 * idx.length /\ x11 < sz + 128 /\ (∀ j, x11 <= j -> j <= x10 -> F j = (va, vb)) /\ x10 <= sz - 1 /\ 0 <= x13 /\ blk[x13.toNat]? = some (rep (va, vb)) /\
   ((x11 = y11 /\ x11 < sz /\ (x11 + 127 <= x10 ∨ sz - 1 <= x10) /\ blk.length <= idx.length + 1) ∨ (y11 + 128 <= x11 /\ blk.length <= idx.length)))
  (fun _ x11 _ _ _ _ _ _ _ _ _ => (sz + 128 - x11).toNat)
  (fun _ y11 _ _ _ _ _ _ _ _ _ _ x10 x11 x va vb c _ s3 _ s4 m5 m6 => ∃ idx blk kn ev, s3 = aX idx /\ s4 = bB encP blk /\ m5 = e8 kn /\ m6 = fV ev /\ TInv sz F idx blk kn ev /\ x11 = 128 * idx.length /\ blk.length <= idx.length /\ x11 = y11 /\ x11 < sz /\ 0 <= x /\ x <= 128 /\ x10 <= sz - 1 /\ (∀ j, x11 + x <= j -> j <= x10 -> F j = (va, vb)) /\
   ∃ b : List (Int × Int), b.length = 128 /\ c = b.flatMap encP /\ ∀ (q : Nat) u, b[q]? = some u -> q < x.toNat -> x11 + q < sz -> u = F (x11 + q))
  (fun _ _ x _ _ _ _ _ _ _ _ _ => (128 - x).toNat) ?_
 unfold zgt
 have hw1 : i64.wrap (sz - 1) = sz - 1 := aC (by omega) (by omega)
 rw [hw1]
 refine bK (by simp; omega) ?_
 refine (zF n f l z 0 (sz - 1) hl hok).mono ?_
 rintro _ rfl
 obtain ⟨_, f2, f3, f4⟩ := hF 0 (by omega)
 refine ⟨_, rfl, rfl, _, rfl, _, rfl, rfl, _, rfl, _, rfl, _, rfl, _, rfl, ⟨rfl, [], [], [], [], rfl, rfl, rfl, rfl, TInv.nil, rfl, Nat.le_refl _, by omega, f4, f3⟩, ?_⟩
 clear f2 f3 f4
 rintro u0 x v0a v0b _ _ _ _ _ _ ⟨idx, blk, kn, ev, rfl, rfl, rfl, rfl, hk, hx, hb, hx2, hv0, hu0⟩
 refine aD (fun hc => ?_) (fun hc => ?_)
 ·simp only [decide_eq_true_eq] at hc
  have hw2 : i64.wrap (x + 128) = x + 128 := aC (by omega) (by omega)
  rw [hw2]
  have hmin : ∀ a : Int, i64.wrap ((if sz < a + 128 then sz else a + 128) - 1) = (if sz < a + 128 then sz else a + 128) - 1 ∨ ¬ (0 <= a /\ a <= 1114112) := fun a => by
   by_cases ha : 0 <= a /\ a <= 1114112
   ·left; split <;> exact aC (by omega) (by omega)
   ·exact .inr ha
  have hmx := (hmin x).resolve_right (by omega)
  rw [hmx]
  refine aD (fun hgt => ?ga) (fun hgt => ?gb)
  case' ga =>
   refine (zF n f l z x (sz - 1) hl hok).mono ?_
   rintro _ rfl
   obtain ⟨_, hux, hu, hv⟩ := hF x (by omega)
   refine ⟨_, rfl, rfl, _, rfl, _, rfl, rfl, _, rfl, _, rfl, _, rfl, _, rfl, ?_⟩
   revert hv hu
   generalize (findL l z x (sz - 1)).1 = v
   generalize (findL l z x (sz - 1)).2 = u
   clear hv0 hu0 hux
   intro hu hv
  case' gb =>
   obtain ⟨v, rfl, rfl⟩ : ∃ v : (Int × Int), v.1 = v0a /\ v.2 = v0b := ⟨(v0a, v0b), rfl, rfl⟩
   revert hv0 hu0 hgt
   generalize u0 = u
   intro hu hgt hv
  all_goals
   clear hgt
   refine aD (fun hc2 => ?_) (fun hc2 => ?_)
   ·simp only [decide_eq_true_eq, ge_iff_le] at hc2
    have hc3 : x + 127 <= u ∨ sz - 1 <= u := by split at hc2 <;> omega
    refine (zq0 hk (by omega) _ _ v).mono ?_
    rintro _ _ ⟨k, kn', ev', bn', blk', rfl, rfl, g1, g2, g3, g4⟩
    refine ⟨(k, e8 kn', fV ev', bn', bB encP blk'), ⟨rfl, rfl⟩, ⟨trivial, ⟨rfl, rfl, rfl⟩, trivial, trivial, trivial, trivial, trivial⟩, ⟨rfl, idx, blk', kn', ev', rfl, rfl, rfl, rfl, g1, hx, hx2, hv, hu, g2, g3, .inl ⟨rfl, hc, hc3, by omega⟩⟩, ?_⟩
    rintro t y k' wa wb _ _ _ _ _ _ ⟨idx2, blk2, kn2, ev2, rfl, rfl, rfl, rfl, hk2, hy, hy2, hw, ht, hk0, hkb, hor⟩
    have hwy : i64.wrap (y + 128) = y + 128 := aC (by omega) (by omega)
    rw [hwy, (hmin y).resolve_right (by omega)]
    refine aD (fun hc4 => ?_) (fun hc4 => ?_)
    ·simp only [Bool.and_eq_true, decide_eq_true_eq, ge_iff_le] at hc4
     have hc5 : y + 127 <= t ∨ sz - 1 <= t := by have := hc4.2; split at this <;> omega
     refine ⟨⟨fun e he => by simp at he; subst he; rfl, by rw [i6]; omega⟩, rfl, ⟨idx2 ++ [k'], blk2, kn2, ev2, by simp [aX], rfl, rfl, rfl, hk2.push hk0 hkb fun j u' hj hlt => ?_, by simp; omega, by omega, fun j h1 h2 => hw j (by omega) h2, ht, hk0, hkb, .inr ⟨by omega, by simp; omega⟩⟩, by dsimp only; omega⟩
     obtain ⟨rfl, hj2⟩ := zq1 hj
     exact (hw _ (by omega) (by omega)).symm
    ·have hw128 : i64.wrap (y - 128) = y - 128 := aC (by omega) (by omega)
     have hback : i64.wrap (y - 128 + 128) = y := by rw [aC (by omega) (by omega)]; omega
     rw [hw128, hback]
     simp only [Bool.and_eq_true, decide_eq_true_eq, ge_iff_le, not_and] at hc4
     have hor2 : x + 128 <= y /\ blk2.length <= idx2.length := by
      rcases hor with ⟨h1, h2, h3, h4⟩ | h
      ·exfalso
       have := hc4 h2
       split at this <;> omega
      ·exact h
     exact ⟨rfl, ⟨idx2, blk2, kn2, ev2, rfl, rfl, rfl, rfl, hk2, hy, hor2.2, hy2, hw, ht⟩, by dsimp only; omega⟩
   ·clear hc2
    refine ⟨⟨rfl, idx, blk, kn, ev, rfl, rfl, rfl, rfl, hk, hx, hb, rfl, hc, Int.le_refl _, by omega, hu, fun j h1 h2 => hv j (by omega) h2, List.replicate 128 (0, 0), by simp, zg1, fun q u' _ hq _ => by simp at hq⟩, ?_⟩
    rintro t y i wa wb _ _ _ _ _ _ _ ⟨idx2, blk2, kn2, ev2, rfl, rfl, rfl, rfl, hk2, hy, hb2, hyx, hy2, i0, i1, ht, hw, b, hbl, rfl, hbq⟩
    obtain ⟨w, rfl, rfl⟩ : ∃ v : (Int × Int), v.1 = wa /\ v.2 = wb := ⟨(wa, wb), rfl, rfl⟩
    have hwyi : i64.wrap (y + i) = y + i := aC (by omega) (by omega)
    have hwi : i64.wrap (i + 1) = i + 1 := aC (by omega) (by omega)
    have hwy : i64.wrap (y + 128) = y + 128 := aC (by omega) (by omega)
    rw [hwyi, hwi, hwy]
    have step : ∀ (v' : (Int × Int)) (u' : Int), (∀ j, y + i <= j -> j <= u' -> F j = v') -> u' <= sz - 1 -> (y + i < sz -> F (y + i) = v') -> i < 128 ->
     ∃ idx blk kn ev, aX idx2 = aX idx /\ bB encP blk2 = bB encP blk /\ e8 kn2 = e8 kn /\ fV ev2 = fV ev /\ TInv sz F idx blk kn ev /\ y = 128 * idx.length /\ blk.length <= idx.length /\ y = x /\ y < sz /\ 0 <= i + 1 /\ i + 1 <= 128 /\ u' <= sz - 1 /\ (∀ j, y + (i + 1) <= j -> j <= u' -> F j = v') /\
      ∃ c : List (Int × Int), c.length = 128 /\ (b.set i.toNat v').flatMap encP = c.flatMap encP /\ ∀ (q : Nat) u, c[q]? = some u -> q < (i + 1).toNat -> y + q < sz -> u = F (y + q) := fun v' u' h1 h2 h3 h4 => by
     refine ⟨idx2, blk2, kn2, ev2, rfl, rfl, rfl, rfl, hk2, hy, hb2, hyx, hy2, by omega, by omega, h2, fun j a1 a2 => h1 j (by omega) a2, b.set i.toNat v', by simpa using hbl, rfl, fun q u hq hq2 hq3 => ?_⟩
     rw [List.getElem?_set] at hq
     by_cases e : i.toNat = q
     ·rw [if_pos e, if_pos (by omega)] at hq
      cases hq
      have e2 : y + (q : Int) = y + i := by omega
      rw [e2]
      exact (h3 (by omega)).symm
     ·rw [if_neg e] at hq
      exact hbq q u hq (by omega) hq3
    refine aD (fun hc5 => ?_) (fun hc5 => ?_)
    ·simp only [decide_eq_true_eq] at hc5
     refine aD (fun hc6 => ?_) (fun hc6 => ?_)
     ·simp only [Bool.and_eq_true, decide_eq_true_eq, gt_iff_lt] at hc6
      refine (zF n f l z (y + i) (sz - 1) hl hok).mono ?_
      rintro _ rfl
      obtain ⟨q1, q2, q3, q4⟩ := hF (y + i) (by omega)
      refine ⟨_, rfl, rfl, _, rfl, _, rfl, rfl, _, rfl, _, rfl, _, rfl, _, rfl, ⟨i0, hc5⟩, ⟨rfl, by rw [zL]; omega⟩, rfl, ?_, by dsimp only; omega⟩
      have hput := zK b i.toNat (by omega) (findL l z (y + i) (sz - 1)).1
      unfold encP at hput ⊢
      rw [hput]
      exact step _ _ q4 q3 (fun _ => q1.symm) hc5
     ·simp only [Bool.and_eq_true, decide_eq_true_eq, gt_iff_lt, not_and] at hc6
      refine ⟨⟨i0, hc5⟩, ⟨rfl, by rw [zL]; omega⟩, rfl, ?_, by dsimp only; omega⟩
      have hput := zK b i.toNat (by omega) w
      unfold encP at hput ⊢
      rw [hput]
      exact step _ _ hw ht (fun h => hw _ (Int.le_refl _) ((Int.lt_or_le t (y + i)).elim (fun h2 => absurd h (hc6 h2)) id)) hc5
    ·simp only [decide_eq_true_eq] at hc5
     have hi : i = 128 := by omega
     subst hi
     obtain ⟨B, hB⟩ : ∃ B : aR (Int × Int), B.1 = b := ⟨⟨b, hbl⟩, rfl⟩
     subst hB
     have hcI : B.1.flatMap encP = cP B := rfl
     rw [hcI, zG]
     refine ⟨by rw [List.drop_zero, l8]; omega, (fun h => ⟨h, h⟩) ?_⟩
     refine (zgz hk2 (by omega) _ _ B).mono ?_
     rintro _ _ ⟨k, kn', bn', blk', rfl, rfl, h1, h2, h3, h4⟩
     refine ⟨(k, e8 kn', bn', bB encP blk'), ⟨rfl, rfl⟩, ⟨trivial, ⟨rfl, rfl, rfl⟩, trivial, trivial, trivial, trivial, trivial⟩, ⟨fun e he => by simp at he; subst he; rfl, by rw [i6]; omega⟩, rfl, ⟨idx2 ++ [k], blk', kn', ev2, by simp [aX, kvP], rfl, rfl, rfl, h1.push h2 h3 fun j u' hj hlt => ?_, by simp; omega, by simp; omega, by omega, fun j a1 a2 => hw j (by omega) a2, ht⟩, by dsimp only; omega⟩
     have hj2 : j < 128 := by have := (List.getElem?_eq_some_iff.1 hj).1; simp only [hbl] at this; exact this
     rw [<- hy]
     exact hbq j u' hj (by omega) (by omega)
 ·simp only [decide_eq_true_eq] at hc
  exact ⟨_, _, _, _, idx, blk, rfl, by omega, hk.idx_ok⟩
end Go.Eng



namespace Go.Eng
open Go Go.Proofs Go.Eng.Rows Go.Eng.Trie
theorem TrieI.congr {sz : Int} {F G : Int -> Int} {v : PV} (h : TrieI sz F v) (hFG : ∀ i, 0 <= i -> i < sz -> F i = G i) : TrieI sz G v := by
 obtain ⟨n, f, n2, f2, idx, blk, rfl, h1, h2⟩ := h
 refine ⟨n, f, n2, f2, idx, blk, rfl, h1, fun q k hq => ?_⟩
 obtain ⟨k0, b, hb, hv⟩ := h2 q k hq
 exact ⟨k0, b, hb, fun j u hj hlt => by rw [<- hFG _ (by omega) hlt]; exact hv j u hj hlt⟩
theorem TrieP.congr {sz : Int} {F G : Int -> Int × Int} {v : PV} (h : TrieP sz F v) (hFG : ∀ i, 0 <= i -> i < sz -> F i = G i) : TrieP sz G v := by
 obtain ⟨n, f, n2, f2, idx, blk, rfl, h1, h2⟩ := h
 refine ⟨n, f, n2, f2, idx, blk, rfl, h1, fun q k hq => ?_⟩
 obtain ⟨k0, b, hb, hv⟩ := h2 q k hq
 exact ⟨k0, b, hb, fun j u hj hlt => by rw [<- hFG _ (by omega) hlt]; exact hv j u hj hlt⟩
theorem TrieF.congr {sz : Int} {F G : Int -> Fl} {v : PV} (h : TrieF sz F v) (hFG : ∀ i, 0 <= i -> i < sz -> F i = G i) : TrieF sz G v := by
 obtain ⟨n, f, n2, f2, idx, blk, rfl, h1, h2⟩ := h
 refine ⟨n, f, n2, f2, idx, blk, rfl, h1, fun q k hq => ?_⟩
 obtain ⟨k0, b, hb, hv⟩ := h2 q k hq
 exact ⟨k0, b, hb, fun j u hj hlt => by rw [<- hFG _ (by omega) hlt]; exact hv j u hj hlt⟩
def toI (s : Sp) : Pc Int := ⟨s.fr, s.to, s.a⟩
theorem zM (n f : Bool) (rows : List Row) (k : Int) (hl : rows.length < 1000000) : PCall Tryz.prog 57 [.sl n f (aZ rows), .int .i64 k] fun v => TrieI 1114112 (aB rows k) v := by
 have hg := lW k rows
 have hlen := hg.len
 refine zod _ _ _ _ (fun _ _ s10 x11 x12 m s => s10 = aL (aI k rows) /\ x11 = (aI k rows).length /\ 0 <= x12 /\ x12 <= x11 /\ s = jX (((aI k rows).take x12.toNat).map toI)) (fun _ _ _ x11 x12 _ _ => (x11 - x12).toNat) ?_
 unfold ze1
 refine (p29 _ _ rows k (by omega)).mono ?_
 rintro _ ⟨n1, f1, rfl⟩
 refine ⟨_, _, _, rfl, ⟨rfl, rfl, by rw [eJ], Int.le_refl _, by rw [eJ]; omega, rfl⟩, ?_⟩
 rintro _ _ _ x11 i m _ ⟨rfl, rfl, i0, i1, rfl⟩
 refine aD (fun hc => ?_) (fun hc => ?_)
 ·simp only [decide_eq_true_eq] at hc
  have hi : i.toNat < (aI k rows).length := by omega
  have hw : i64.wrap (i + 1) = i + 1 := aC (by omega) (by omega)
  have hn : (i + 1).toNat = i.toNat + 1 := by omega
  have hgd : (aL (aI k rows)).getD i.toNat [] = dG (aI k rows)[i.toNat] := cN hi
  have hix : aK (aL (aI k rows)) i 4 := bW g8 i0 (by omega)
  refine ⟨hix, (aI k rows)[i.toNat].fr, by rw [hgd]; rfl, (aI k rows)[i.toNat].to, by rw [hgd]; rfl, (aI k rows)[i.toNat].a, by rw [hgd]; rfl, (aI k rows)[i.toNat].b, by rw [hgd]; rfl, ⟨fun e he => by simp at he; subst he; rfl, by simp [jX]; omega⟩, rfl, ?_⟩
  rw [hw]
  refine ⟨⟨rfl, rfl, by omega, by omega, ?_⟩, by dsimp only; omega⟩
  rw [hn, cG hi, List.map_append]
  unfold jX
  rw [List.map_append]
  rfl
 ·simp only [decide_eq_true_eq] at hc
  rw [List.take_of_length_le (by omega)]
  refine (zqa 1114112 0 _ _ _ (by simp; omega) (fun p hp => ?_) (by omega) (by omega)).mono fun v hv => hv.congr fun i h0 h1 => zpt rows k i
  obtain ⟨s, hs, rfl⟩ := List.mem_map.1 hp
  have := hg.2 s hs
  exact ⟨by simp only [toI]; omega, by simp only [toI]; omega⟩

def tD (ll : List (Bool × Bool × List Sp)) : List (List PV) := ll.map fun x => [.sl x.1 x.2.1 (aL x.2.2)]
abbrev tE (M : List (Int × Bool)) : List (PV × PV) := cC (fun n => .int .i64 n) (fun b => .bool b) M
def iA (ll : List (Bool × Bool × List Sp)) : List Sp := (ll.map (·.2.2)).flatten
def nH (l : List Sp) : List Int := l.flatMap fun s => [s.fr, s.to + 1]
theorem zq2 (l : List Sp) (s : Sp) (x : Int) : x ∈ nH (l ++ [s]) ↔ x ∈ nH l ∨ x = s.fr ∨ x = s.to + 1 := by
 simp [nH]
def JM (done : List Sp) (m : List (PV × PV)) : Prop := ∃ M : List (Int × Bool), m = tE M /\ (M.map (·.1)).Nodup /\ M.length <= 1 + 2 * done.length /\ ∀ x, x ∈ M.map (·.1) ↔ x = 0 ∨ x ∈ nH done
theorem zq3 (n f : Bool) (ll : List (Bool × Bool × List Sp)) (hl : ll.length < 1000) (hg : ∀ x ∈ ll, Rows.Good x.2.2) :
 PCall Tryz.prog 89 [.sl n f (tD ll)] fun v => ∃ n f t, v = .sl n f (aX t) /\ t.length < 4000000000 /\ ∀ x, x ∈ t ↔ kR (ll.map (·.2.2)) x := by
 have hlen : ∀ k, (iA (ll.take k)).length <= 1114112 * k := fun k => by
  induction k with
  | zero => simp [iA]
  | succ k ih =>
    by_cases hk : k < ll.length
    ·rw [cG hk]
     have := (hg _ (List.getElem_mem hk)).len
     simp only [iA, List.map_append, List.flatten_append, List.length_append, List.map_cons, List.map_nil, List.flatten_cons, List.flatten_nil, List.append_nil] at ih ⊢
     omega
    ·rw [List.take_of_length_le (by omega)]
     rw [List.take_of_length_le (by omega)] at ih
     omega
 refine zoe _ _ _ (fun i m => 0 <= i /\ i <= ll.length /\ JM (iA (ll.take i.toNat)) m) (fun i _ => ll.length - i.toNat)
  (fun i _ _ _ _ _ _ i' n18 f18 s18 x19 k m => i' = i /\ 0 <= i /\ ∃ hi : i.toNat < ll.length, s18 = aL ll[i.toNat].2.2 /\ x19 = ll[i.toNat].2.2.length /\ 0 <= k /\ k <= x19 /\ JM (iA (ll.take i.toNat) ++ ll[i.toNat].2.2.take k.toNat) m) (fun _ _ _ _ x19 k _ => (x19 - k).toNat)
  (fun m s r _ => ∃ (A : List Int) (R : List (Int × Bool)) (K : List Int), s = aX A /\ r = tE R /\ (A ++ R.map (·.1)).Perm K /\ K.length < 4000000000 /\ (∀ x, x ∈ K ↔ kR (ll.map (·.2.2)) x)) (fun _ _ r _ => r.length) ?_
 unfold ze2
 refine ⟨fun kv hkv => (by cases hkv), ⟨rfl, Int.le_refl _, by omega, [(0, true)], rfl, by simp, by simp [iA], fun x => by simp [iA, nH]⟩, ?_⟩
 rintro i _ ⟨i0, i1, M, rfl, hnd, hml, hmem⟩
 have hlc : (tD ll).length = ll.length := by simp [tD]
 refine aD (fun hc => ?_) (fun hc => ?_)
 ·simp only [decide_eq_true_eq, hlc] at hc
  have hi : i.toNat < ll.length := by omega
  have hw : i64.wrap (i + 1) = i + 1 := aC (by omega) (by omega)
  have hn : (i + 1).toNat = i.toNat + 1 := by omega
  have hgd : (tD ll).getD i.toNat [] = [.sl ll[i.toNat].1 ll[i.toNat].2.1 (aL ll[i.toNat].2.2)] := cN hi
  have hgi := hg _ (List.getElem_mem hi)
  have hgl := hgi.len
  have hsl := hlen i.toNat
  refine ⟨bW (enc := fun x : Bool × Bool × List Sp => [PV.sl x.1 x.2.1 (aL x.2.2)]) (fun _ => rfl) i0 hc, _, _, _, by rw [hgd]; rfl, ⟨rfl, rfl, i0, hi, rfl, by rw [eJ], Int.le_refl _, by rw [eJ]; omega, M, rfl, hnd, by simpa using hml, by simpa using hmem⟩, ?_⟩
  rintro i' n18 f18 _ _ k _ ⟨rfl, _, _, rfl, rfl, k0, k1, M, rfl, hnd, hml, hmem⟩
  rw [List.length_append, List.length_take] at hml
  refine aD (fun hc2 => ?_) (fun hc2 => ?_)
  ·simp only [decide_eq_true_eq] at hc2
   have hk : k.toNat < ll[i'.toNat].2.2.length := by omega
   have hwk : i64.wrap (k + 1) = k + 1 := aC (by omega) (by omega)
   have hnk : (k + 1).toNat = k.toNat + 1 := by omega
   have hgk : (aL ll[i'.toNat].2.2).getD k.toNat [] = dG ll[i'.toNat].2.2[k.toNat] := cN hk
   have hix : aK (aL ll[i'.toNat].2.2) k 4 := bW g8 k0 (by omega)
   have hr := hgi.2 _ (List.getElem_mem hk)
   have hts : ll[i'.toNat].2.2.take (k.toNat + 1) = ll[i'.toNat].2.2.take k.toNat ++ [ll[i'.toNat].2.2[k.toNat]] := cG hk
   generalize ll[i'.toNat].2.2[k.toNat] = s at *
   have hwt : i64.wrap (s.to + 1) = s.to + 1 := aC (by omega) (by omega)
   have set1 := iX (ek := fun n => PV.int .i64 n) (ev := fun b => PV.bool b) (pX .i64) s.fr true M
   have set2 := iX (ek := fun n => PV.int .i64 n) (ev := fun b => PV.bool b) (pX .i64) (s.to + 1) true (bY s.fr true M)
   have fin : (JM (iA (ll.take i'.toNat) ++ ll[i'.toNat].2.2.take (k.toNat + 1)) (bI (.int .i64 (s.to + 1)) (.bool true) (bI (.int .i64 s.fr) (.bool true) (tE M)))) := by
    refine ⟨bY (s.to + 1) true (bY s.fr true M), by rw [set1, set2], zee (zee hnd), ?_, fun x => ?_⟩
    ·have e1 := zeg s.fr true M
     have e2 := zeg (s.to + 1) true (bY s.fr true M)
     rw [hts, List.length_append, List.length_append, List.length_take]
     simp only [List.length_cons, List.length_nil]
     omega
    ·rw [zef, zef, hmem, hts, <- List.append_assoc, zq2]
     constructor
     ·rintro ((h | h) | h)
      ·exact h.elim .inl fun h => .inr (.inl h)
      ·exact .inr (.inr (.inl h))
      ·exact .inr (.inr (.inr h))
     ·rintro (h | h | h | h)
      ·exact .inl (.inl (.inl h))
      ·exact .inl (.inl (.inr h))
      ·exact .inl (.inr h)
      ·exact .inr h
   have hk1 : jV .i64 (bI (.int .i64 s.fr) (.bool true) (tE M)) := by rw [set1]; exact lV _
   refine ⟨hix, s.fr, by rw [hgk]; rfl, s.to, by rw [hgk]; rfl, s.a, by rw [hgk]; rfl, s.b, by rw [hgk]; rfl, ?_⟩
   rw [hwt, hwk]
   have hmu : ((ll[i'.toNat].2.2.length : Int) - (k + 1)).toNat < ((ll[i'.toNat].2.2.length : Int) - k).toNat := by omega
   rw [<- hnk] at fin
   refine ⟨⟨?_, ?_⟩, ?_⟩ <;> exact ⟨lV M, hk1, rfl, ⟨rfl, i0, hi, rfl, rfl, by omega, by omega, fin⟩, hmu⟩
  ·simp only [decide_eq_true_eq] at hc2
   have htl : ll[i'.toNat].2.2.take k.toNat = ll[i'.toNat].2.2 := List.take_of_length_le (by omega)
   rw [htl] at hmem
   have hso : iA (ll.take (i' + 1).toNat) = iA (ll.take i'.toNat) ++ ll[i'.toNat].2.2 := by
    rw [hn, cG hi]; simp only [iA, List.map_append, List.map_cons, List.map_nil, List.flatten_append, List.flatten_cons, List.flatten_nil, List.append_nil]
   rw [hw]
   refine ⟨rfl, ⟨by omega, by omega, M, rfl, hnd, ?_, fun x => ?_⟩, by dsimp only; omega⟩
   ·rw [hso, List.length_append]; omega
   ·rw [hmem, hso]
 ·simp only [decide_eq_true_eq, hlc] at hc
  rw [List.take_of_length_le (by omega)] at hmem hml
  have hM : M.length < 4000000000 := by
   have := hlen ll.length
   rw [List.take_of_length_le (Nat.le_refl _)] at this
   omega
  refine ⟨⟨rfl, [], M, M.map (·.1), rfl, rfl, List.Perm.refl _, by simpa using hM, fun x => ?_⟩, ?_⟩
  ·rw [hmem]
   unfold kR nH iA
   simp only [List.mem_flatMap, List.mem_flatten, List.mem_cons, List.not_mem_nil, or_false]
   constructor
   ·rintro (h | ⟨s, ⟨l, hl, hs⟩, h⟩)
    ·exact .inl h
    ·exact .inr ⟨l, hl, s, hs, h⟩
   ·rintro (h | ⟨l, hl, s, hs, h⟩)
    ·exact .inl h
    ·exact .inr ⟨s, ⟨l, hl, hs⟩, h⟩
  ·rintro m _ _ q ⟨A, R, K, rfl, rfl, hp, hKl, hKm⟩
   have hlen2 := hp.length_eq
   simp only [List.length_append, List.length_map] at hlen2
   refine ⟨fun hr => ?_, fun j k v hj => ?_⟩
   ·have hR : R = [] := by cases R with | nil => rfl | cons => simp [cC] at hr
    subst hR
    simp only [List.map_nil, List.append_nil] at hp
    simp only [List.length_nil] at hlen2
    exact ⟨_, _, A, rfl, by omega, fun x => by rw [hp.mem_iff, hKm]⟩
   ·obtain ⟨hjl, rfl, rfl, hpe, he⟩ := znv hj
    refine ⟨R[j].1, rfl, R[j].2, rfl, _, rfl, _, rfl, ⟨fun e he => by simp at he; subst he; rfl, by rw [i6]; omega⟩, rfl, ⟨A ++ [R[j].1], R.eraseIdx j, K, by simp [aX], he, ?_, hKl, hKm⟩, ?_⟩
    ·refine List.Perm.trans ?_ hp
     rw [List.append_assoc]
     refine List.Perm.append_left A ?_
     simpa using hpe.map (·.1)
    ·dsimp only
     rw [he, zed, zed, List.length_eraseIdx_of_lt hjl]; omega
end Go.Eng



namespace Go.Eng
open Go Go.Proofs Go.Eng.Rows Go.Eng.Trie
theorem nJ {i : Int} (h0 : 0 <= i) (h1 : i < 4) : i = 0 ∨ i = 1 ∨ i = 2 ∨ i = 3 := by omega
def cW (l0 l1 l2 l3 : List Sp) (i : Nat) : List Sp := [l0, l1, l2, l3].getD i []
theorem at4 (n0 f0 n1 f1 n2 f2 n3 f3 : Bool) (l0 l1 l2 l3 : List Sp) {i : Int} (h0 : 0 <= i) (h1 : i < 4) : ∃ n f, [PV.sl n0 f0 (aL l0), .sl n1 f1 (aL l1), .sl n2 f2 (aL l2), .sl n3 f3 (aL l3)].getD i.toNat .unit = .sl n f (aL (cW l0 l1 l2 l3 i.toNat)) := by
 rcases nJ h0 h1 with rfl | rfl | rfl | rfl
 ·exact ⟨n0, f0, rfl⟩
 ·exact ⟨n1, f1, rfl⟩
 ·exact ⟨n2, f2, rfl⟩
 ·exact ⟨n3, f3, rfl⟩
theorem zq4 (l0 l1 l2 l3 : List Sp) {i : Int} (h0 : 0 <= i) (h1 : i < 4) : ([l0, l1, l2, l3].take (i + 1).toNat) = ([l0, l1, l2, l3].take i.toNat) ++ [cW l0 l1 l2 l3 i.toNat] := by
 rcases nJ h0 h1 with rfl | rfl | rfl | rfl <;> rfl
theorem zq5 (l0 l1 l2 l3 : List Sp) {i : Int} (h0 : 0 <= i) (h1 : i < 4) : cW l0 l1 l2 l3 i.toNat ∈ [l0, l1, l2, l3] := by
 rcases nJ h0 h1 with rfl | rfl | rfl | rfl <;> simp [cW]
theorem zq6 (a last : Int) (n0 f0 n1 f1 n2 f2 n3 f3 : Bool) (l0 l1 l2 l3 : List Sp) (hg : ∀ l ∈ [l0, l1, l2, l3], Rows.Good l) :
 PCall Tryz.prog 91 [.int .i64 a, .int .i64 last, .agg [.sl n0 f0 (aL l0), .sl n1 f1 (aL l1), .sl n2 f2 (aL l2), .sl n3 f3 (aL l3)]] fun v => v = .int .i64 (dS a last [l0, l1, l2, l3].flatten) := by
 refine zof _ _ _ _ _ _ _ _ _ _ _ _ _ _
  (fun x _ _ s0 _ _ s1 _ _ s2 _ _ s3 i => s0 = aL l0 /\ s1 = aL l1 /\ s2 = aL l2 /\ s3 = aL l3 /\ 0 <= i /\ i <= 4 /\ x = dS a last ([l0, l1, l2, l3].take i.toNat).flatten) (fun _ _ _ _ _ _ _ _ _ _ _ _ _ i => (4 - i).toNat)
  (fun _ _ _ _ _ _ _ _ _ _ _ _ _ i _ _ _ _ _ x _ _ s0 _ _ s1 _ _ s2 _ _ s3 i' _ _ s15 x16 k => s0 = aL l0 /\ s1 = aL l1 /\ s2 = aL l2 /\ s3 = aL l3 /\ i = i' /\ s15 = aL (cW l0 l1 l2 l3 i.toNat) /\ x16 = (cW l0 l1 l2 l3 i.toNat).length /\ 0 <= k /\ k <= x16 /\
   x = dS a last (([l0, l1, l2, l3].take i.toNat).flatten ++ (cW l0 l1 l2 l3 i.toNat).take k.toNat)) (fun _ _ _ _ _ _ _ _ _ _ _ _ _ _ _ _ _ x16 k => (x16 - k).toNat) ?_
 unfold ze3
 refine ⟨_, _, _, rfl, _, _, _, rfl, _, _, _, rfl, _, _, _, rfl, ⟨rfl, rfl, rfl, rfl, rfl, Int.le_refl _, by omega, rfl⟩, ?_⟩
 rintro _ n0 f0 _ n1 f1 _ n2 f2 _ n3 f3 _ i ⟨rfl, rfl, rfl, rfl, i0, i1, rfl⟩
 have hw : i64.wrap (i + 1) = i + 1 := aC (by omega) (by omega)
 refine aD (fun hc => ?_) (fun hc => ?_)
 ·simp only [decide_eq_true_eq] at hc
  obtain ⟨m, g, hat⟩ := at4 n0 f0 n1 f1 n2 f2 n3 f3 l0 l1 l2 l3 i0 hc
  have hgi := hg _ (zq5 l0 l1 l2 l3 i0 hc)
  have hgl := hgi.len
  refine ⟨⟨i0, hc, by simp; omega⟩, m, g, _, hat, ⟨rfl, rfl, rfl, rfl, rfl, rfl, rfl, by rw [eJ], Int.le_refl _, by rw [eJ]; omega, by simp⟩, ?_⟩
  rintro _ n0 f0 _ n1 f1 _ n2 f2 _ n3 f3 _ _ n15 f15 _ _ k ⟨rfl, rfl, rfl, rfl, rfl, rfl, rfl, k0, k1, rfl⟩
  have htk := zq4 l0 l1 l2 l3 i0 hc
  refine aD (fun hc2 => ?_) (fun hc2 => ?_)
  ·simp only [decide_eq_true_eq] at hc2
   have hk : k.toNat < (cW l0 l1 l2 l3 i.toNat).length := by omega
   have hwk : i64.wrap (k + 1) = k + 1 := aC (by omega) (by omega)
   have hnk : (k + 1).toNat = k.toNat + 1 := by omega
   have hgk : (aL (cW l0 l1 l2 l3 i.toNat)).getD k.toNat [] = dG (cW l0 l1 l2 l3 i.toNat)[k.toNat] := cN hk
   have hix : aK (aL (cW l0 l1 l2 l3 i.toNat)) k 4 := bW g8 k0 (by omega)
   have hr := hgi.2 _ (List.getElem_mem hk)
   have hts : (cW l0 l1 l2 l3 i.toNat).take (k.toNat + 1) = (cW l0 l1 l2 l3 i.toNat).take k.toNat ++ [(cW l0 l1 l2 l3 i.toNat)[k.toNat]] := cG hk
   have hmu : (((cW l0 l1 l2 l3 i.toNat).length : Int) - (k + 1)).toNat < (((cW l0 l1 l2 l3 i.toNat).length : Int) - k).toNat := by omega
   refine ⟨hix, (cW l0 l1 l2 l3 i.toNat)[k.toNat].fr, by rw [hgk]; rfl, (cW l0 l1 l2 l3 i.toNat)[k.toNat].to, by rw [hgk]; rfl, (cW l0 l1 l2 l3 i.toNat)[k.toNat].a, by rw [hgk]; rfl, (cW l0 l1 l2 l3 i.toNat)[k.toNat].b, by rw [hgk]; rfl, ?_⟩
   rw [hwk]
   generalize (cW l0 l1 l2 l3 i.toNat)[k.toNat] = s at *
   have hws : i64.wrap (s.fr - 1) = s.fr - 1 := aC (by omega) (by omega)
   rw [hws]
   have hstep : dS a last (([l0, l1, l2, l3].take i.toNat).flatten ++ (cW l0 l1 l2 l3 i.toNat).take (k + 1).toNat) = if s.fr > a /\ s.fr <= dS a last (([l0, l1, l2, l3].take i.toNat).flatten ++ (cW l0 l1 l2 l3 i.toNat).take k.toNat) then s.fr - 1 else dS a last (([l0, l1, l2, l3].take i.toNat).flatten ++ (cW l0 l1 l2 l3 i.toNat).take k.toNat) := by
    rw [hnk, hts, <- List.append_assoc, zfu]; rfl
   refine aD (fun h1 => aD (fun h2 => ?_) (fun h2 => ?_)) (fun h1 => ?_)
   ·simp only [decide_eq_true_eq] at h1 h2
    rw [if_pos ⟨h1, h2⟩] at hstep
    exact ⟨rfl, ⟨rfl, rfl, rfl, rfl, rfl, rfl, rfl, by omega, by omega, hstep.symm⟩, hmu⟩
   ·simp only [decide_eq_true_eq] at h1 h2
    rw [if_neg (fun h => h2 h.2)] at hstep
    exact ⟨rfl, ⟨rfl, rfl, rfl, rfl, rfl, rfl, rfl, by omega, by omega, hstep.symm⟩, hmu⟩
   ·simp only [decide_eq_true_eq] at h1
    rw [if_neg (fun h => h1 h.1)] at hstep
    exact ⟨rfl, ⟨rfl, rfl, rfl, rfl, rfl, rfl, rfl, by omega, by omega, hstep.symm⟩, hmu⟩
  ·simp only [decide_eq_true_eq] at hc2
   have htl : (cW l0 l1 l2 l3 i.toNat).take k.toNat = (cW l0 l1 l2 l3 i.toNat) := List.take_of_length_le (by omega)
   rw [hw, htl]
   refine ⟨rfl, ⟨rfl, rfl, rfl, rfl, by omega, by omega, ?_⟩, by dsimp only; omega⟩
   rw [htk]; simp
 ·simp only [decide_eq_true_eq] at hc
  have : i = 4 := by omega
  subst this
  rfl
end Go.Eng



namespace Go.Eng
open Go Go.Proofs Go.Eng.Rows Go.Eng.Trie
def kd (q : Nat) : Int := [5, 7, 8, 3].getD q 0
def k4 (rows : List Row) (q : Nat) : List Sp := aI (kd q) rows
theorem zq7 (rows : List Row) {i : Int} (h0 : 0 <= i) (h1 : i < 4) : cW (aI 5 rows) (aI 7 rows) (aI 8 rows) (aI 3 rows) i.toNat = k4 rows i.toNat := by
 rcases nJ h0 h1 with rfl | rfl | rfl | rfl <;> rfl
def CellsK (rows : List Row) (i : Int) (c : List PV) : Prop := c.length = 4 /\ ∀ q : Nat, (q : Int) < i -> ∃ n f, c[q]? = some (.sl n f (aL (k4 rows q)))
def HasC (rows : List Row) (a i : Int) (c : List PV) : Prop := c.length = 4 /\ ∀ q : Nat, (q : Int) < i -> c[q]? = some (.bool (bP rows (kd q) a))
theorem zg2 {c : List PV} (hl : c.length = 4) {i : Int} (h0 : 0 <= i) (h1 : i < 4) (v : PV) : (aP c (0 + i.toNat * 1) [v]).length = 4 /\ ∀ q : Nat, (aP c (0 + i.toNat * 1) [v])[q]? = if q = i.toNat then some v else c[q]? := by
 have hle : (0 + i.toNat * 1) + [v].length <= c.length := by simp; omega
 refine ⟨by rw [iG _ _ _ hle, hl], fun q => ?_⟩
 rw [kD _ _ _ hle]
 simp only [Nat.zero_add, Nat.mul_one, List.length_cons, List.length_nil]
 by_cases hq : q = i.toNat
 ·subst hq; rw [if_pos (by omega), if_pos rfl]; simp
 ·rw [if_neg (by omega), if_neg hq]
theorem CellsK.put {rows : List Row} {i : Int} {c : List PV} (h : CellsK rows i c) (h0 : 0 <= i) (h1 : i < 4) (n f : Bool) : CellsK rows (i + 1) (aP c (0 + i.toNat * 1) [.sl n f (aL (k4 rows i.toNat))]) := by
 obtain ⟨e1, e2⟩ := zg2 h.1 h0 h1 (.sl n f (aL (k4 rows i.toNat)))
 refine ⟨e1, fun q hq => ?_⟩
 rw [e2]
 by_cases hqi : q = i.toNat
 ·subst hqi; rw [if_pos rfl]; exact ⟨n, f, rfl⟩
 ·rw [if_neg hqi]; exact h.2 q (by omega)
theorem HasC.put {rows : List Row} {a i : Int} {c : List PV} (h : HasC rows a i c) (h0 : 0 <= i) (h1 : i < 4) {b : Bool} (hb : b = bP rows (kd i.toNat) a) : HasC rows a (i + 1) (aP c (0 + i.toNat * 1) [.bool b]) := by
 obtain ⟨e1, e2⟩ := zg2 h.1 h0 h1 (.bool b)
 refine ⟨e1, fun q hq => ?_⟩
 rw [e2]
 by_cases hqi : q = i.toNat
 ·subst hqi; rw [if_pos rfl, hb]
 ·rw [if_neg hqi]; exact h.2 q (by omega)
theorem eq4 {c : List PV} {a0 a1 a2 a3 : PV} (hl : c.length = 4) (h0 : c[0]? = some a0) (h1 : c[1]? = some a1) (h2 : c[2]? = some a2) (h3 : c[3]? = some a3) : c = [a0, a1, a2, a3] := by
 match c, hl with
 | [b0, b1, b2, b3], _ => simp at h0 h1 h2 h3; rw [h0, h1, h2, h3]
theorem CellsK.all {rows : List Row} {c : List PV} (h : CellsK rows 4 c) : ∃ n0 f0 n1 f1 n2 f2 n3 f3, c = [.sl n0 f0 (aL (aI 5 rows)), .sl n1 f1 (aL (aI 7 rows)), .sl n2 f2 (aL (aI 8 rows)), .sl n3 f3 (aL (aI 3 rows))] := by
 obtain ⟨n0, f0, e0⟩ := h.2 0 (by omega)
 obtain ⟨n1, f1, e1⟩ := h.2 1 (by omega)
 obtain ⟨n2, f2, e2⟩ := h.2 2 (by omega)
 obtain ⟨n3, f3, e3⟩ := h.2 3 (by omega)
 exact ⟨n0, f0, n1, f1, n2, f2, n3, f3, eq4 h.1 e0 e1 e2 e3⟩
theorem HasC.all {rows : List Row} {a : Int} {c : List PV} (h : HasC rows a 4 c) : c = [.bool (dH rows a).1, .bool (dH rows a).2.1, .bool (dH rows a).2.2.1, .bool (dH rows a).2.2.2] :=
 eq4 h.1 (h.2 0 (by omega)) (h.2 1 (by omega)) (h.2 2 (by omega)) (h.2 3 (by omega))
theorem zq8 {i : Int} (h0 : 0 <= i) (h1 : i < 4) : [PV.int .i64 5, .int .i64 7, .int .i64 8, .int .i64 3].getD i.toNat .unit = .int .i64 (kd i.toNat) := by
 rcases nJ h0 h1 with rfl | rfl | rfl | rfl <;> rfl
theorem zg3 (rows : List Row) : ∀ l ∈ l4 rows, Rows.Good l := by
 intro l hl
 simp only [l4, List.mem_cons, List.not_mem_nil, or_false] at hl
 rcases hl with rfl | rfl | rfl | rfl <;> exact lW _ _
theorem zq9 (rows : List Row) {i : Int} (h0 : 0 <= i) (h1 : i < 4) : (l4 rows).take (i + 1).toNat = (l4 rows).take i.toNat ++ [k4 rows i.toNat] := by
 rcases nJ h0 h1 with rfl | rfl | rfl | rfl <;> rfl
theorem zra {rows : List Row} {x : Int} (h : kR (l4 rows) x) : 0 <= x /\ x <= 1114112 := by
 rcases h with rfl | ⟨l, hl, s, hs, h⟩
 ·omega
 ·have := (zg3 rows l hl).2 s hs
  omega
def TrP (rows : List Row) (t : List Int) (i : Int) (s : List (List PV)) : Prop := ∃ P : List (Pc Fl), s = jY P /\ (P.length : Int) <= i /\ PiecesOK rows (t.take i.toNat) P
theorem zrb (n f : Bool) (rows : List Row) (hl : rows.length < 1000000) : PCall Tryz.prog 58 [.sl n f (aZ rows)] fun v => TrieF 1114112 (dH rows) v := by
 refine zog _ _ _
  (fun a b c d i c0 => a = 5 /\ b = 7 /\ c = 8 /\ d = 3 /\ 0 <= i /\ i <= 4 /\ CellsK rows i c0) (fun _ _ _ _ i _ => (4 - i).toNat)
  (fun p4 _ _ s29 x30 i _ s => CellsK rows 4 p4 /\ ∃ t, s29 = aX t /\ x30 = t.length /\ t.length < 4000000000 /\ (∀ x, x ∈ t ↔ kR (l4 rows) x) /\ 0 <= i /\ i <= x30 /\ TrP rows t i s) (fun _ _ _ _ x30 i _ _ => (x30 - i).toNat)
  (fun p4 a _ _ _ s29 x30 i _ _ _ _ _ _ _ _ _ _ _ _ _ _ s _ p4' a' x11 _ _ s29' x30' i' _ _ s0 _ _ s1 _ _ s2 _ _ s3 k _ s' c1 => p4 = p4' /\ a = a' /\ s29 = s29' /\ x30 = x30' /\ i = i' /\ s = s' /\ s0 = aL (aI 5 rows) /\ s1 = aL (aI 7 rows) /\ s2 = aL (aI 8 rows) /\ s3 = aL (aI 3 rows) /\
   0 <= k /\ k <= 4 /\ HasC rows a k c1 /\ LastOK ((l4 rows).take k.toNat) a x11) (fun _ _ _ _ _ _ _ _ _ _ _ _ _ _ _ _ _ _ _ _ k _ _ _ => (4 - k).toNat) ?_
 unfold ze4
 refine ⟨⟨rfl, Nat.le_refl _⟩, _, rfl, _, rfl, _, rfl, _, rfl, ⟨rfl, rfl, rfl, rfl, rfl, Int.le_refl _, by omega, rfl, fun q hq => absurd hq (by omega)⟩, ?_⟩
 rintro _ _ _ _ i c0 ⟨rfl, rfl, rfl, rfl, i0, i1, hck⟩
 have hw : i64.wrap (i + 1) = i + 1 := aC (by omega) (by omega)
 refine aD (fun hc => ?_) (fun hc => ?_)
 ·simp only [decide_eq_true_eq] at hc
  refine ⟨⟨i0, hc, by simp; omega⟩, kd i.toNat, zq8 i0 hc, ?_⟩
  refine (p29 _ _ rows (kd i.toNat) (by omega)).mono ?_
  rintro _ ⟨n1, f1, rfl⟩
  rw [hw]
  exact ⟨_, _, _, rfl, ⟨i0, hc⟩, ⟨rfl, by rw [hck.1]; omega⟩, rfl, ⟨rfl, rfl, rfl, rfl, by omega, by omega, hck.put i0 hc n1 f1⟩, by dsimp only; omega⟩
 ·simp only [decide_eq_true_eq] at hc
  have : i = 4 := by omega
  subst this
  obtain ⟨n0, f0, n1, f1, n2, f2, n3, f3, rfl⟩ := hck.all
  refine ⟨⟨⟨by simp, by simp⟩, rfl⟩, ?_⟩
  refine (zq3 false true [(n0, f0, aI 5 rows), (n1, f1, aI 7 rows), (n2, f2, aI 8 rows), (n3, f3, aI 3 rows)] (by simp) (fun x hx => ?_)).mono ?_
  ·simp only [List.mem_cons, List.not_mem_nil, or_false] at hx
   rcases hx with rfl | rfl | rfl | rfl <;> exact lW _ _
  rintro _ ⟨n4, f4, t, rfl, htl, ht⟩
  refine ⟨_, _, _, rfl, ⟨rfl, hck, t, rfl, by rw [i6], htl, ht, Int.le_refl _, by rw [i6]; omega, [], rfl, Int.le_refl _, PiecesOK.nil rows⟩, ?_⟩
  clear ht htl
  rintro p4 n29 f29 _ _ i m _ ⟨hck, t, rfl, rfl, htl, ht, i0, i1, P, rfl, hPl, hP⟩
  have hw : i64.wrap (i + 1) = i + 1 := aC (by omega) (by omega)
  refine aD (fun hc => ?_) (fun hc => ?_)
  ·simp only [decide_eq_true_eq] at hc
   have hi : i.toNat < t.length := by omega
   have hn : (i + 1).toNat = i.toNat + 1 := by omega
   have hgd : (aX t).getD i.toNat [] = [.int .i64 t[i.toNat]] := cN hi
   have hts : t.take (i.toNat + 1) = t.take i.toNat ++ [t[i.toNat]] := cG hi
   have hcut := (ht t[i.toNat]).1 (List.getElem_mem hi)
   have hrng := zra hcut
   obtain ⟨n0, f0, n1, f1, n2, f2, n3, f3, rfl⟩ := hck.all
   refine ⟨bW lZ i0 (by omega), t[i.toNat], by rw [hgd]; rfl, _, _, _, rfl, _, _, _, rfl, _, _, _, rfl, _, _, _, rfl,
    ⟨rfl, rfl, rfl, rfl, rfl, rfl, rfl, rfl, rfl, rfl, rfl, Int.le_refl _, by omega, ⟨rfl, fun q hq => absurd hq (by omega)⟩, LastOK.nil _⟩, ?_⟩
   generalize t[i.toNat] = a at *
   rintro _ _ x11 n29 f29 _ _ _ n0 f0 _ n1 f1 _ n2 f2 _ n3 f3 _ k m' _ c1 ⟨rfl, rfl, rfl, rfl, rfl, rfl, rfl, rfl, rfl, rfl, k0, k1, hhas, hlast⟩
   have hwk : i64.wrap (k + 1) = k + 1 := aC (by omega) (by omega)
   refine aD (fun hc2 => ?_) (fun hc2 => ?_)
   ·simp only [decide_eq_true_eq] at hc2
    obtain ⟨n4, f4, hat⟩ := at4 n0 f0 n1 f1 n2 f2 n3 f3 (aI 5 rows) (aI 7 rows) (aI 8 rows) (aI 3 rows) k0 hc2
    rw [zq7 rows k0 hc2] at hat
    refine ⟨⟨k0, hc2, by simp; omega⟩, n4, f4, _, hat, ?_⟩
    have hwa : i32.wrap a = a := dM (by omega) (by omega)
    rw [hwa]
    refine (p34 _ _ (k4 rows k.toNat) a (lW _ _) (by omega)).mono ?_
    rintro _ ⟨x, q, rfl, hq1, hq2⟩
    have htk := zq9 rows k0 hc2
    have hmu : (4 - (k + 1)).toNat < (4 - k).toNat := by omega
    refine ⟨_, rfl, rfl, _, rfl, _, rfl, rfl, x.fr, rfl, x.to, rfl, x.a, rfl, x.b, rfl, _, rfl, q, rfl, ?_⟩
    rw [hwk]
    have hsz : ([PV.bool true].length : Nat) = 1 /\ 0 + k.toNat * 1 + 1 <= c1.length := ⟨rfl, by rw [hhas.1]; omega⟩
    cases q with
    | true =>
      obtain ⟨hx1, hx2⟩ := hq1 rfl
      have hv : (x.a == 1) = bP rows (kd k.toNat) a := by
       unfold bP; rw [lY hx1 hx2]; rfl
      refine bG rfl ⟨⟨k0, hc2⟩, hsz, bG rfl ⟨rfl, ⟨rfl, rfl, rfl, rfl, rfl, rfl, rfl, rfl, rfl, rfl, by omega, by omega, hhas.put k0 hc2 hv, ?_⟩, hmu⟩⟩
      rw [htk]
      have := hlast.some hx1 hx2 (lW _ _)
      exact this
    | false =>
      obtain ⟨_, hno⟩ := hq2 rfl
      have hv : false = bP rows (kd k.toNat) a := by
       unfold bP; rw [s7 hno]
      refine bK (by simp) ⟨⟨k0, hc2⟩, hsz, bK (by simp) ⟨rfl, ⟨rfl, rfl, rfl, rfl, rfl, rfl, rfl, rfl, rfl, rfl, by omega, by omega, hhas.put k0 hc2 hv, ?_⟩, hmu⟩⟩
      rw [htk]
      exact hlast.none hno
   ·simp only [decide_eq_true_eq] at hc2
    have : k = 4 := by omega
    subst this
    have hc1 := hhas.all
    subst hc1
    have hmu : ((t.length : Int) - (i + 1)).toNat < ((t.length : Int) - i).toNat := by omega
    refine ⟨_, rfl, _, rfl, _, rfl, _, rfl, ?_⟩
    rw [hw]
    refine aD (fun hc3 => ?_) (fun hc3 => ?_)
    ·refine ⟨_, _, _, rfl, _, _, _, rfl, _, _, _, rfl, _, _, _, rfl, ⟨by omega, by omega⟩, _, rfl, ⟨by omega, by omega⟩, _, rfl, ⟨by omega, by omega⟩, _, rfl, ⟨by omega, by omega⟩, _, rfl, ?_⟩
     refine (zq6 a x11 _ _ _ _ _ _ _ _ (aI 5 rows) (aI 7 rows) (aI 8 rows) (aI 3 rows) (zg3 rows)).mono ?_
     rintro _ rfl
     refine ⟨_, rfl, ⟨fun e he => by simp at he; subst he; rfl, by simp [jY]; omega⟩, rfl, ⟨hck, t, rfl, rfl, htl, ht, by omega, by omega, P ++ [⟨a, dS a x11 (l4 rows).flatten, dH rows a⟩], ?_, by simp; omega, ?_⟩, hmu⟩
     ·unfold jY; rw [List.map_append]; rfl
     ·rw [hn, hts]; exact hP.put hrng.1 hrng.2 hlast
    ·refine ⟨rfl, ⟨hck, t, rfl, rfl, htl, ht, by omega, by omega, P, rfl, by omega, ?_⟩, hmu⟩
     rw [hn, hts]
     refine hP.skip ?_
     revert hc3
     generalize dH rows a = fl
     obtain ⟨b0, b1, b2, b3⟩ := fl
     cases b0 <;> cases b1 <;> cases b2 <;> cases b3 <;> simp
  ·simp only [decide_eq_true_eq] at hc
   rw [List.take_of_length_le (by omega)] at hP
   refine (zqo 1114112 (false, false, false, false) _ _ P (by omega) (fun p hp => ?_) (by omega) (by omega)).mono fun v hv => hv.congr fun i h0 h1 => hP.val ht h0 (by omega)
   have := (hP.sound p hp).1
   omega
end Go.Eng



namespace Go.Eng.Rows
open Go Go.Eng Go.Eng.Trie
theorem zg4 (k v p : PV) (M : List (PV × PV)) : iT (d8 k M) p (bI k v M) = bI k p M /\ d8 k M < (bI k v M).length := by
 unfold iT d8 bI
 cases h : bO k M with
 | none => simp
 | some j =>
   have := lO h
   simp [this]
def cX (rows : List Row) : Prop := ∀ x ∈ rows, x.kind = 2 -> (1 <= x.a /\ x.a <= 1114111) /\ 0 <= x.b /\ x.b <= 1114111
theorem i7 {rows : List Row} {k r : Int} {p : Int × Int} (h : bM rows k r = some p) : ∃ x ∈ rows, x.kind = k /\ x.a = p.1 /\ x.b = p.2 /\ x.fr <= r /\ r <= x.to /\ 0 <= r /\ r <= 1114111 := by
 unfold bM at h
 split at h
 ·rename_i hr
  unfold first at h
  cases hf : rows.find? (fun x => x.has k r) with
  | none => rw [hf] at h; cases h
  | some x =>
    rw [hf] at h; cases h
    have h1 := List.mem_of_find?_eq_some hf
    have h2 := List.find?_some hf
    simp only [Row.has, Bool.and_eq_true, decide_eq_true_eq] at h2
    exact ⟨x, h1, h2.1, rfl, rfl, h2.2.1, h2.2.2, hr.1, hr.2⟩
 ·cases h
theorem nK {rows : List Row} (hp : cX rows) (r : Int) : (0 <= (aH rows r).1 /\ (aH rows r).1 <= 1114111) /\ 0 <= (aH rows r).2 /\ (aH rows r).2 <= 1114111 := by
 unfold aH
 cases h : bM rows 2 r with
 | none => simp
 | some p =>
   obtain ⟨x, h1, h2, h3, h4, _⟩ := i7 h
   have := hp x h1 h2
   simp only; omega
theorem zrc {rows : List Row} (hp : cX rows) {r : Int} {p : Int × Int} (h : bM rows 2 r = some p) : aH rows r ≠ (0, 0) := by
 unfold aH
 rw [h]
 obtain ⟨x, h1, h2, h3, h4, _⟩ := i7 h
 have := hp x h1 h2
 intro e
 simp only at e
 rw [e] at h3
 simp only at h3
 omega
theorem zrd {rows : List Row} {r : Int} {s : Sp} (hs : s ∈ aI 2 rows) (h : s.has r) : aH rows r = (s.a, s.b) := by
 unfold aH; rw [lY hs h]
theorem zre {rows : List Row} {r : Int} (h : aH rows r ≠ (0, 0)) : ∃ s ∈ aI 2 rows, s.has r := by
 cases hf : bM rows 2 r with
 | none => unfold aH at h; rw [hf] at h; exact absurd rfl h
 | some p => obtain ⟨s, h1, h2, _⟩ := yN hf; exact ⟨s, h1, h2⟩
theorem zg5 {rows : List Row} (hp : cX rows) {s : Sp} (hs : s ∈ aI 2 rows) : (1 <= s.a /\ s.a <= 1114111) /\ 0 <= s.b /\ s.b <= 1114111 := by
 have hg := (lW 2 rows).2 s hs
 obtain ⟨x, h1, h2, h3, h4, _⟩ := i7 (lY hs (r := s.fr) ⟨Int.le_refl _, hg.2.1⟩)
 have := hp x h1 h2
 simp only at h3 h4
 omega
def l9 (rows : List Row) (r : Int) : Prop := aH rows r ≠ (0, 0) /\ dO rows r = false
structure MadeOK (rows : List Row) (D : Int -> Prop) (made : List ((Int × Int) × Int)) (sec : List (Int × Bool)) : Prop where
 m1 : ∀ p r, cD p made = some r -> D r /\ l9 rows r /\ aH rows r = p /\ ∀ r', D r' -> l9 rows r' -> aH rows r' = p -> r <= r'
 m2 : ∀ p, cD p made = none -> ∀ r', D r' -> l9 rows r' -> aH rows r' ≠ p
 s1 : ∀ b v, cD b sec = some v -> v = true /\ ∃ r, D r /\ l9 rows r /\ (aH rows r).2 = b
 s2 : ∀ b, cD b sec = none -> ∀ r', D r' -> l9 rows r' -> (aH rows r').2 ≠ b
theorem MadeOK.nil (rows : List Row) : MadeOK rows (fun _ => False) [] [] := ⟨fun p r h => (by cases h), fun p _ r' h => h.elim, fun b v h => (by cases h), fun b _ r' h => h.elim⟩
theorem MadeOK.same {rows : List Row} {D D' : Int -> Prop} {made : List ((Int × Int) × Int)} {sec : List (Int × Bool)} (h : MadeOK rows D made sec) (hd : ∀ r, l9 rows r -> (D r ↔ D' r)) : MadeOK rows D' made sec :=
 ⟨fun p r hr => by
  obtain ⟨h1, h2, h3, h4⟩ := h.m1 p r hr
  exact ⟨(hd r h2).1 h1, h2, h3, fun r' q1 q2 q3 => h4 r' ((hd r' q2).2 q1) q2 q3⟩,
 fun p hr r' q1 q2 => h.m2 p hr r' ((hd r' q2).2 q1) q2,
 fun b v hb => by
  obtain ⟨h1, r, h2, h3, h4⟩ := h.s1 b v hb
  exact ⟨h1, r, (hd r h3).1 h2, h3, h4⟩,
 fun b hb r' q1 q2 => h.s2 b hb r' ((hd r' q2).2 q1) q2⟩
theorem MadeOK.known {rows : List Row} {D : Int -> Prop} {made : List ((Int × Int) × Int)} {sec : List (Int × Bool)} (h : MadeOK rows D made sec) {x r0 : Int} (hx : ∀ r, D r -> r < x) (hk : cD (aH rows x) made = some r0) : MadeOK rows (fun r => D r ∨ r = x) made sec := by
 obtain ⟨k1, k2, k3, k4⟩ := h.m1 _ _ hk
 refine ⟨fun p r hr => ?_, fun p hr r' q1 q2 => ?_, fun b v hb => ?_, fun b hb r' q1 q2 => ?_⟩
 ·obtain ⟨h1, h2, h3, h4⟩ := h.m1 p r hr
  refine ⟨.inl h1, h2, h3, fun r' q1 q2 q3 => ?_⟩
  rcases q1 with q1 | rfl
  ·exact h4 r' q1 q2 q3
  ·exact Int.le_of_lt (hx r h1)
 ·rcases q1 with q1 | rfl
  ·exact h.m2 p hr r' q1 q2
  ·intro e; rw [<- e, hk] at hr; cases hr
 ·obtain ⟨h1, r, h2, h3, h4⟩ := h.s1 b v hb
  exact ⟨h1, r, .inl h2, h3, h4⟩
 ·rcases q1 with q1 | rfl
  ·exact h.s2 b hb r' q1 q2
  ·intro e
   exact h.s2 b hb r0 k1 k2 (by rw [k3, e])
theorem MadeOK.out {rows : List Row} {D : Int -> Prop} {made : List ((Int × Int) × Int)} {sec : List (Int × Bool)} (h : MadeOK rows D made sec) {x : Int} (ho : dO rows x = true) : MadeOK rows (fun r => D r ∨ r = x) made sec :=
 h.same fun r hr => ⟨.inl, fun hd => hd.elim id fun e => by subst e; have := hr.2; rw [ho] at this; cases this⟩
theorem MadeOK.put {rows : List Row} {D : Int -> Prop} {made : List ((Int × Int) × Int)} {sec : List (Int × Bool)} (h : MadeOK rows D made sec) {x : Int} (hx : ∀ r, D r -> r < x) (hn : cD (aH rows x) made = none) (hg : l9 rows x) :
 MadeOK rows (fun r => D r ∨ r = x) (bY (aH rows x) x made) (bY (aH rows x).2 true sec) := by
 refine ⟨fun p r hr => ?_, fun p hr r' q1 q2 => ?_, fun b v hb => ?_, fun b hb r' q1 q2 => ?_⟩
 ·rw [lU] at hr
  split at hr
  ·rename_i hp; cases hr; subst hp
   refine ⟨.inr rfl, hg, rfl, fun r' q1 q2 q3 => ?_⟩
   rcases q1 with q1 | rfl
   ·exact absurd q3 (h.m2 _ hn r' q1 q2)
   ·exact Int.le_refl _
  ·rename_i hp
   obtain ⟨h1, h2, h3, h4⟩ := h.m1 p r hr
   refine ⟨.inl h1, h2, h3, fun r' q1 q2 q3 => ?_⟩
   rcases q1 with q1 | rfl
   ·exact h4 r' q1 q2 q3
   ·exact Int.le_of_lt (hx r h1)
 ·rw [lU] at hr
  split at hr
  ·cases hr
  ·rename_i hp
   rcases q1 with q1 | rfl
   ·exact h.m2 p hr r' q1 q2
   ·exact fun e => hp e.symm
 ·rw [lU] at hb
  split at hb
  ·rename_i hp; cases hb; exact ⟨rfl, x, .inr rfl, hg, hp.symm⟩
  ·obtain ⟨h1, r, h2, h3, h4⟩ := h.s1 b v hb
   exact ⟨h1, r, .inl h2, h3, h4⟩
 ·rw [lU] at hb
  split at hb
  ·cases hb
  ·rename_i hp
   rcases q1 with q1 | rfl
   ·exact h.s2 b hb r' q1 q2
   ·exact fun e => hp e.symm
end Go.Eng.Rows



namespace Go.Eng
open Go Go.Proofs Go.Eng.Rows Go.Eng.Trie
structure Tri (rows : List Row) (tc tg tj tf tp : PV) : Prop where
 c : TrieI 1114112 (aB rows 1) tc
 g : TrieI 1114112 (aB rows 4) tg
 j : TrieI 1114112 (aB rows 6) tj
 f : TrieF 1114112 (dH rows) tf
 p : TrieP 1114112 (aH rows) tp
theorem TrieI.ptr {sz : Int} {F : Int -> Int} {v : PV} (h : TrieI sz F v) : ∃ ps, v = .ptr ps := by
 obtain ⟨n, f, n2, f2, idx, blk, rfl, _⟩ := h; exact ⟨_, rfl⟩
theorem TrieF.ptr {sz : Int} {F : Int -> Fl} {v : PV} (h : TrieF sz F v) : ∃ ps, v = .ptr ps := by
 obtain ⟨n, f, n2, f2, idx, blk, rfl, _⟩ := h; exact ⟨_, rfl⟩
theorem TrieP.ptr {sz : Int} {F : Int -> Int × Int} {v : PV} (h : TrieP sz F v) : ∃ ps, v = .ptr ps := by
 obtain ⟨n, f, n2, f2, idx, blk, rfl, _⟩ := h; exact ⟨_, rfl⟩
theorem zN {rows : List Row} {k r : Int} (h : ¬ (0 <= r /\ r < 1114112)) : bM rows k r = none := by
 unfold bM; rw [if_neg (by omega)]
theorem zO (rows : List Row) (k r : Int) : (if 0 <= r /\ r < 1114112 then aB rows k r else 0) = aB rows k r := by
 split
 ·rfl
 ·rename_i h; unfold aB; rw [zN h]
theorem zg6 (rows : List Row) (r : Int) : (if 0 <= r /\ r < 1114112 then aH rows r else (0, 0)) = aH rows r := by
 split
 ·rfl
 ·rename_i h; unfold aH; rw [zN h]
theorem zg7 (rows : List Row) (r : Int) : (if 0 <= r /\ r < 1114112 then dH rows r else (false, false, false, false)) = dH rows r := by
 split
 ·rfl
 ·rename_i h; unfold dH bP; simp only [zN h]
section
variable {rows : List Row} {tc tg tj tf tp : PV} (M S : List (PV × PV))
theorem tF (ht : Tri rows tc tg tj tf tp) {r : Int} (hr : -2147483648 <= r /\ r <= 2147483647) : PCall Tryz.prog 80 [.ptr [tc, tg, tj, tf, tp, .mp M, .mp S], .int .i32 r] fun v => v = .int .i64 (aB rows 1 r) := by
 refine zoh _ _ _ _ _ _ _ _ ?_
 unfold ze5
 obtain ⟨ps, rfl⟩ := ht.c.ptr
 refine .inl ⟨ps, rfl, ?_⟩
 have hw : i64.wrap r = r := aC (by omega) (by omega)
 rw [hw]
 refine (yV ht.c r (by omega)).mono ?_
 rintro _ rfl
 exact ⟨_, rfl, by rw [zO]⟩
theorem zP (ht : Tri rows tc tg tj tf tp) {r : Int} (hr : -2147483648 <= r /\ r <= 2147483647) : PCall Tryz.prog 101 [.ptr [tc, tg, tj, tf, tp, .mp M, .mp S], .int .i32 r] fun v =>
 v = .tup [.int .i32 (aH rows r).1, .int .i32 (aH rows r).2, .bool (!decide (aH rows r = (0, 0)))] := by
 refine zoi _ _ _ _ _ _ _ _ ?_
 unfold ze6
 obtain ⟨ps, rfl⟩ := ht.p.ptr
 refine .inl ⟨ps, rfl, ?_⟩
 have hw : i64.wrap r = r := aC (by omega) (by omega)
 rw [hw]
 refine (p84 ht.p r (by omega)).mono ?_
 rintro _ rfl
 rw [zg6]
 refine ⟨_, rfl, rfl, _, rfl, _, rfl, ?_⟩
 generalize aH rows r = p
 obtain ⟨a, b⟩ := p
 simp only [cond_false, Bool.and_true]
 congr 4
 by_cases h1 : a = 0 <;> by_cases h2 : b = 0 <;> simp [h1, h2]
theorem zrf (hp : cX rows) (ht : Tri rows tc tg tj tf tp) {r : Int} (hr : -2147483648 <= r /\ r <= 2147483647) : PCall Tryz.prog 62 [.ptr [tc, tg, tj, tf, tp, .mp M, .mp S], .int .i32 r] fun v => v = .bool (dO rows r) := by
 refine zoj _ _ _ _ _ _ _ _ ?_
 unfold ze7
 refine (zP M S ht hr).mono ?_
 rintro _ rfl
 have hrng := nK hp r
 have hf : bP rows 3 r = (dH rows r).2.2.2 := rfl
 refine ⟨_, rfl, rfl, _, rfl, _, rfl, _, rfl, _, rfl, _, rfl, _, rfl, ?_⟩
 have hw : i64.wrap r = r := aC (by omega) (by omega)
 rw [hw]
 refine aD (fun h1 => aD (fun h2 => ?_) (fun h2 => ?_)) (fun h1 => ?_)
 ·simp only [Bool.not_eq_true', decide_eq_false_iff_not] at h1
  simp only [beq_iff_eq] at h2
  unfold dO; simp [h1, h2]
 ·simp only [Bool.not_eq_true', decide_eq_false_iff_not] at h1
  simp only [beq_iff_eq] at h2
  obtain ⟨ps, hps⟩ := ht.f.ptr
  refine .inl ⟨ps, by rw [hps], ?_⟩
  rw [<- hps]
  refine (zge ht.f r (by omega)).mono ?_
  rintro _ rfl
  rw [zg7]
  refine ⟨_, rfl, rfl, _, rfl, _, rfl, _, rfl, _, rfl, ?_⟩
  refine aD (fun h3 => ?_) (fun h3 => ?_)
  ·rw [<- hf] at h3
   unfold dO; simp [h1, h2, h3]
  ·rw [<- hf] at h3
   refine (tF M S ht hr).mono ?_
   rintro _ rfl
   refine ⟨_, rfl, ?_⟩
   refine aD (fun h4 => ?_) (fun h4 => ?_)
   ·simp only [bne_iff_ne, ne_eq] at h4
    unfold dO; simp [h1, h2, h4]
   ·simp only [bne_iff_ne, ne_eq, Decidable.not_not] at h4
    refine (tF M S ht (by omega)).mono ?_
    rintro _ rfl
    refine ⟨_, rfl, ?_⟩
    unfold dO
    simp only [Bool.not_eq_true] at h3
    simp only [h1, h2, h3, h4, decide_false, Bool.not_false, Bool.true_and, Bool.false_or, decide_true, Bool.not_true]
    rfl
 ·simp only [Bool.not_eq_true', decide_eq_false_iff_not, Decidable.not_not] at h1
  unfold dO; simp [h1]
end
abbrev eA (M : List ((Int × Int) × Int)) : List (PV × PV) := cC (fun p => .agg (encP p)) (fun n => .int .i32 n) M
abbrev iB (S : List (Int × Bool)) : List (PV × PV) := cC (fun n => .int .i32 n) (fun b => .bool b) S
theorem zQ (p : Int × Int) : a8 Tryz.prog 86 (.agg (encP p)) = true := zJ p
theorem zR (made : List ((Int × Int) × Int)) : cR Tryz.prog 86 (eA made) := by
 unfold eA; exact EP.valsOk zH zI made
theorem zg8 (made : List ((Int × Int) × Int)) (p : Int × Int) : cH (.agg (encP p)) (eA made) = (cD p made).map fun n => .int .i32 n := lT (ek := fun p => PV.agg (encP p)) (ev := fun n => PV.int .i32 n) EP.valEq p made
end Go.Eng



namespace Go.Eng
open Go Go.Proofs Go.Eng.Rows Go.Eng.Trie
def dT (rows : List Row) (v : PV) : Prop := ∃ tc tg tj tf tp made sec, v = .ptr [tc, tg, tj, tf, tp, .mp (eA made), .mp (iB sec)] /\ Tri rows tc tg tj tf tp /\ MadeOK rows (fun r => 0 <= r /\ r <= 1114111) made sec
def toP (s : Sp) : Pc (Int × Int) := ⟨s.fr, s.to, (s.a, s.b)⟩
theorem qB {v : PV} (h : ∃ ps, v = .ptr ps) : eQ v = true := by obtain ⟨ps, rfl⟩ := h; rfl
def mA (l : List Sp) (r : Int) : Prop := ∃ s ∈ l, s.has r
theorem zrg (n f : Bool) (rows : List Row) (hl : rows.length < 1000000) (hp : cX rows) : PCall Tryz.prog 17 [.sl n f (aZ rows)] (dT rows) := by
 have hg := lW 2 rows
 have hlen := hg.len
 refine zok _ _ _
  (fun _ _ s5 _ _ s28 x29 i h0 h1 h2 h3 _ s m2 m3 => s5 = aL (aI 2 rows) /\ s28 = aL (aI 2 rows) /\ x29 = (aI 2 rows).length /\ 0 <= i /\ i <= x29 /\ TrieI 1114112 (aB rows 1) h0 /\ TrieI 1114112 (aB rows 4) h1 /\ TrieI 1114112 (aB rows 6) h2 /\ TrieF 1114112 (dH rows) h3 /\
   s = jZ (((aI 2 rows).take i.toNat).map toP) /\ m2 = [] /\ m3 = []) (fun _ _ _ _ _ _ x29 i _ _ _ _ _ _ _ _ => (x29 - i).toNat)
  (fun _ _ s5 x29 i h0 h1 h2 h3 h4 m2 m3 => s5 = aL (aI 2 rows) /\ x29 = (aI 2 rows).length /\ 0 <= i /\ i <= x29 /\ Tri rows h0 h1 h2 h3 h4 /\ ∃ made sec, m2 = eA made /\ m3 = iB sec /\ MadeOK rows (mA ((aI 2 rows).take i.toNat)) made sec) (fun _ _ _ x29 i _ _ _ _ _ _ _ => (x29 - i).toNat)
  (fun _ _ _ _ _ i _ _ _ _ _ _ _ _ _ _ _ r _ _ s5 x29 i' h0 h1 h2 h3 h4 a b c d m2 m3 => s5 = aL (aI 2 rows) /\ x29 = (aI 2 rows).length /\ i = i' /\ 0 <= i /\ Tri rows h0 h1 h2 h3 h4 /\ ∃ hi : i.toNat < (aI 2 rows).length, a = (aI 2 rows)[i.toNat].fr /\ b = (aI 2 rows)[i.toNat].to /\ a <= r /\ r <= b + 1 /\
   ∃ made sec, m2 = eA made /\ m3 = iB sec /\ MadeOK rows (fun x => mA ((aI 2 rows).take i.toNat) x ∨ (a <= x /\ x < r)) made sec) (fun r _ _ _ _ _ _ _ _ _ _ _ b _ _ _ _ => (b + 1 - r).toNat) ?_
 unfold ze8
 refine (zM _ _ rows 1 hl).mono fun v hv => (zM _ _ rows 4 hl).mono fun v1 hv1 => (zM _ _ rows 6 hl).mono fun v2 hv2 => (zrb _ _ rows hl).mono fun v3 hv3 => ⟨qB hv.ptr, qB hv1.ptr, qB hv2.ptr, qB hv3.ptr, ?_⟩
 refine (p29 _ _ rows 2 (by omega)).mono ?_
 rintro _ ⟨n1, f1, rfl⟩
 refine ⟨_, _, _, rfl, ⟨rfl, rfl, rfl, by rw [eJ], Int.le_refl _, by rw [eJ]; omega, hv, hv1, hv2, hv3, rfl, rfl, rfl⟩, ?_⟩
 clear hv hv1 hv2 hv3
 rintro n5 f5 _ n28 f28 _ _ i v v1 v2 v3 m _ _ _ ⟨rfl, rfl, rfl, i0, i1, hv, hv1, hv2, hv3, rfl, rfl, rfl⟩
 have hw : i64.wrap (i + 1) = i + 1 := aC (by omega) (by omega)
 refine aD (fun hc => ?_) (fun hc => ?_)
 ·simp only [decide_eq_true_eq] at hc
  have hi : i.toNat < (aI 2 rows).length := by omega
  have hn : (i + 1).toNat = i.toNat + 1 := by omega
  have hgd : (aL (aI 2 rows)).getD i.toNat [] = dG (aI 2 rows)[i.toNat] := cN hi
  have hix : aK (aL (aI 2 rows)) i 4 := bW g8 i0 (by omega)
  have hsr := zg5 hp (List.getElem_mem hi)
  refine ⟨hix, (aI 2 rows)[i.toNat].fr, by rw [hgd]; rfl, (aI 2 rows)[i.toNat].to, by rw [hgd]; rfl, (aI 2 rows)[i.toNat].a, by rw [hgd]; rfl, (aI 2 rows)[i.toNat].b, by rw [hgd]; rfl, ⟨fun e he => by simp at he; subst he; rfl, by simp [jZ]; omega⟩, rfl, ?_⟩
  have w1 : i32.wrap (aI 2 rows)[i.toNat].a = (aI 2 rows)[i.toNat].a := dM (by omega) (by omega)
  have w2 : i32.wrap (aI 2 rows)[i.toNat].b = (aI 2 rows)[i.toNat].b := dM (by omega) (by omega)
  rw [hw, w1, w2]
  refine ⟨⟨rfl, rfl, rfl, by omega, by omega, hv, hv1, hv2, hv3, ?_, rfl, rfl⟩, by dsimp only; omega⟩
  rw [hn, cG hi, List.map_append]
  unfold jZ
  rw [List.map_append]
  rfl
 ·simp only [decide_eq_true_eq] at hc
  rw [List.take_of_length_le (by omega)]
  refine (p83 1114112 (0, 0) _ _ ((aI 2 rows).map toP) (by simp; omega) (fun p hp' => ?_) (by omega) (by omega)).mono fun v4 hv4 => ?_
  ·obtain ⟨s, hs, rfl⟩ := List.mem_map.1 hp'
   have := hg.2 s hs
   simp only [toP]; omega
  have hv4 : TrieP 1114112 (aH rows) v4 := hv4.congr fun i h0 h1 => zpu rows i
  refine ⟨qB hv4.ptr, ⟨rfl, rfl, by rw [eJ], Int.le_refl _, by rw [eJ]; omega, ⟨hv, hv1, hv2, hv3, hv4⟩, [], [], rfl, rfl, (MadeOK.nil rows).same fun r hr => ⟨False.elim, fun ⟨s, hs, _⟩ => by cases hs⟩⟩, ?_⟩
  clear hv hv1 hv2 hv3 hv4 hw hc i0 i1
  rintro n5 f5 _ _ i v v1 v2 v3 v4 _ _ ⟨rfl, rfl, i0, i1, htri, made, sec, rfl, rfl, hm⟩
  have hw : i64.wrap (i + 1) = i + 1 := aC (by omega) (by omega)
  refine aD (fun hc => ?_) (fun hc => ?_)
  ·simp only [decide_eq_true_eq] at hc
   have hi : i.toNat < (aI 2 rows).length := by omega
   have hn : (i + 1).toNat = i.toNat + 1 := by omega
   have hgd : (aL (aI 2 rows)).getD i.toNat [] = dG (aI 2 rows)[i.toNat] := cN hi
   have hix : aK (aL (aI 2 rows)) i 4 := bW g8 i0 (by omega)
   have hsr := hg.2 _ (List.getElem_mem hi)
   have hts : (aI 2 rows).take (i.toNat + 1) = (aI 2 rows).take i.toNat ++ [(aI 2 rows)[i.toNat]] := cG hi
   have hlt : ∀ x, mA ((aI 2 rows).take i.toNat) x -> x < (aI 2 rows)[i.toNat].fr := fun x ⟨s, hs, hx⟩ => by
    obtain ⟨j, hj, rfl⟩ := List.getElem_of_mem hs
    rw [List.length_take] at hj
    rw [List.getElem_take] at hx
    have := (List.pairwise_iff_getElem.1 hg.1) j i.toNat (by omega) hi (by omega)
    unfold Sp.has at hx
    omega
   have w1 : i32.wrap (aI 2 rows)[i.toNat].fr = (aI 2 rows)[i.toNat].fr := dM (by omega) (by omega)
   refine ⟨hix, (aI 2 rows)[i.toNat].fr, by rw [hgd]; rfl, (aI 2 rows)[i.toNat].to, by rw [hgd]; rfl, (aI 2 rows)[i.toNat].a, by rw [hgd]; rfl, (aI 2 rows)[i.toNat].b, by rw [hgd]; rfl, ?_⟩
   rw [w1]
   refine ⟨⟨rfl, rfl, rfl, rfl, i0, htri, hi, rfl, rfl, Int.le_refl _, by omega, made, sec, rfl, rfl, hm.same fun r hr => ⟨.inl, fun h => h.elim id fun h => by omega⟩⟩, ?_⟩
   clear htri hm
   rintro r n5 f5 _ _ _ v v1 v2 v3 v4 _ _ c d _ _ ⟨rfl, rfl, rfl, _, htri, _, rfl, rfl, r0, r1, made, sec, rfl, rfl, hm⟩
   have hwr : i64.wrap r = r := aC (by omega) (by omega)
   have hwr1 : i32.wrap (r + 1) = r + 1 := dM (by omega) (by omega)
   rw [hwr]
   refine aD (fun hc2 => ?_) (fun hc2 => ?_)
   ·simp only [decide_eq_true_eq] at hc2
    have hhas : (aI 2 rows)[i.toNat].has r := ⟨r0, hc2⟩
    have hpr := zrd (List.getElem_mem hi) hhas
    have hpne : aH rows r ≠ (0, 0) := by
     have := zg5 hp (List.getElem_mem hi)
     rw [hpr]; intro e; injection e with e1 e2; omega
    have hmax : ∀ x, (mA ((aI 2 rows).take i.toNat) x ∨ ((aI 2 rows)[i.toNat].fr <= x /\ x < r)) -> x < r := fun x hx => by
     rcases hx with hx | hx
     ·have := hlt x hx; omega
     ·exact hx.2
    have hD : ∀ x, ((mA ((aI 2 rows).take i.toNat) x ∨ ((aI 2 rows)[i.toNat].fr <= x /\ x < r)) ∨ x = r) ↔ (mA ((aI 2 rows).take i.toNat) x ∨ ((aI 2 rows)[i.toNat].fr <= x /\ x < r + 1)) := fun x => by
     constructor
     ·rintro ((h | h) | h)
      ·exact .inl h
      ·exact .inr (by omega)
      ·exact .inr (by omega)
     ·rintro (h | h)
      ·exact .inl (.inl h)
      ·by_cases e : x = r
       ·exact .inr e
       ·exact .inl (.inr (by omega))
    have hmu : ((aI 2 rows)[i.toNat].to + 1 - (r + 1)).toNat < ((aI 2 rows)[i.toNat].to + 1 - r).toNat := by omega
    refine (p84 htri.p r (by omega)).mono ?_
    rintro _ rfl
    rw [zg6]
    refine ⟨_, rfl, rfl, _, rfl, _, rfl, zR made, zQ (aH rows r), fun v7 hv7 => ?_, fun hv7 => ?_⟩
    ·have hv7 : cH (.agg (encP (aH rows r))) (eA made) = some v7 := hv7
     rw [zg8] at hv7
     cases hk : cD (aH rows r) made with
     | none => rw [hk] at hv7; cases hv7
     | some q =>
       rw [hk] at hv7; cases hv7
       refine ⟨q, rfl, ?_⟩
       rw [hwr1]
       exact ⟨rfl, ⟨rfl, rfl, rfl, i0, htri, hi, rfl, rfl, by omega, by omega, made, sec, rfl, rfl, (hm.known hmax hk).same fun x hx => hD x⟩, hmu⟩
    ·have hv7 : cH (.agg (encP (aH rows r))) (eA made) = none := hv7
     rw [zg8] at hv7
     have hk : cD (aH rows r) made = none := by cases h : cD (aH rows r) made with | none => rfl | some q => rw [h] at hv7; cases hv7
     refine (zrf _ _ hp htri (by omega)).mono ?_
     rintro _ rfl
     refine ⟨_, rfl, rfl, ?_⟩
     rw [hwr1]
     refine aD (fun ho => ?_) (fun ho => ?_)
     ·simp only [Bool.not_eq_true'] at ho
      have hm' := (hm.put hmax hk ⟨hpne, ho⟩).same fun x hx => hD x
      obtain ⟨e1, e2⟩ := zg4 (.agg (encP (aH rows r))) (eT (.agg (encP (aH rows r))) (.int .i32 0) (eA made)) (.int .i32 r) (eA made)
      obtain ⟨e3, e4⟩ := zg4 (.int .i32 (aH rows r).2) (eT (.int .i32 (aH rows r).2) (.bool false) (iB sec)) (.bool true) (iB sec)
      have e1 := e1.trans (iX (ek := fun p => PV.agg (encP p)) (ev := fun n => PV.int .i32 n) EP.valEq (aH rows r) r made)
      have e3 := e3.trans (iX (ek := fun n => PV.int .i32 n) (ev := fun b => PV.bool b) (pX .i32) (aH rows r).2 true sec)
      have b1 : (0 : Int) <= (d8 (.agg (encP (aH rows r))) (eA made) : Nat) /\ ((d8 (.agg (encP (aH rows r))) (eA made) : Nat) : Int).toNat < (bI (.agg (encP (aH rows r))) (eT (.agg (encP (aH rows r))) (.int .i32 0) (eA made)) (eA made)).length := ⟨by omega, by rw [Int.toNat_natCast]; exact e2⟩
      have b2 : (0 : Int) <= (d8 (.int .i32 (aH rows r).2) (iB sec) : Nat) /\ ((d8 (.int .i32 (aH rows r).2) (iB sec) : Nat) : Int).toNat < (bI (.int .i32 (aH rows r).2) (eT (.int .i32 (aH rows r).2) (.bool false) (iB sec)) (iB sec)).length := ⟨by omega, by rw [Int.toNat_natCast]; exact e4⟩
      refine ⟨⟨zR made, zQ _, b1, lV sec, b2, ?_⟩, zR made, zQ _, ⟨b1, lV sec, b2, ?_⟩, b1, lV sec, b2, ?_⟩
      all_goals exact ⟨rfl, ⟨rfl, rfl, rfl, i0, htri, hi, rfl, rfl, by omega, by omega, bY (aH rows r) r made, bY (aH rows r).2 true sec, e1, e3, hm'⟩, hmu⟩
     ·simp only [Bool.not_eq_true', Bool.not_eq_false] at ho
      exact ⟨rfl, ⟨rfl, rfl, rfl, i0, htri, hi, rfl, rfl, by omega, by omega, made, sec, rfl, rfl, (hm.out ho).same fun x hx => hD x⟩, hmu⟩
   ·simp only [decide_eq_true_eq] at hc2
    rw [hw]
    refine ⟨rfl, ⟨rfl, rfl, by omega, by omega, htri, made, sec, rfl, rfl, ?_⟩, by dsimp only; omega⟩
    rw [hn, hts]
    refine hm.same fun x hx => ?_
    unfold mA
    constructor
    ·rintro (⟨s, hs, h⟩ | h)
     ·exact ⟨s, List.mem_append_left _ hs, h⟩
     ·exact ⟨_, List.mem_append_right _ (List.mem_singleton.2 rfl), by unfold Sp.has; omega⟩
    ·rintro ⟨s, hs, h⟩
     rcases List.mem_append.1 hs with hs | hs
     ·exact .inl ⟨s, hs, h⟩
     ·simp only [List.mem_singleton] at hs; subst hs
      unfold Sp.has at h; exact .inr (by omega)
  ·simp only [decide_eq_true_eq] at hc
   rw [List.take_of_length_le (by omega)] at hm
   refine ⟨v, v1, v2, v3, v4, made, sec, rfl, htri, hm.same fun r hr => ?_⟩
   constructor
   ·rintro ⟨s, hs, h⟩
    have := hg.2 s hs
    unfold Sp.has at h
    omega
   ·intro _
    exact zre hr.1
end Go.Eng



namespace Go.Eng.Rows
open Go Go.Eng Go.Eng.Trie
def bN (r : Int) : Bool := decide (44032 <= r) && decide (r <= 55203)
def dP (r : Int) : List Int :=
 if (r - 44032) % 28 = 0 then [4352 + (r - 44032) / 588, 4449 + (r - 44032) / 28 % 21]
 else [4352 + (r - 44032) / 588, 4449 + (r - 44032) / 28 % 21, 4519 + (r - 44032) % 28]
def zrh (r : Int) : Bool := (decide (4449 <= r) && decide (r <= 4469)) || (decide (4520 <= r) && decide (r <= 4546))
def aQ (rows : List Row) : Nat -> Int -> List Int
 | 0, r => if bN r then dP r else [r]
 | d + 1, r => if bN r then dP r else if aH rows r = (0, 0) then [r] else aQ rows d (aH rows r).1 ++ (if (aH rows r).2 = 0 then [] else aQ rows d (aH rows r).2)
def zri (rows : List Row) (r : Int) : Bool := rows.any fun x => decide (x.kind = 2) && (decide (x.b = r) && (!decide (r = 0) && !dO rows x.fr))
def ofQ (rows : List Row) (r : Int) : Int := if dO rows r then 1 else if zri rows r || zrh r then 2 else 0
def zg9 (rows : List Row) (r : Int) : Int := (aQ rows 8 r).headD 0
def zS (rows : List Row) (r : Int) : Bool := (decide (aB rows 1 r = 0) && decide (ofQ rows r = 0)) && (decide (aB rows 1 (zg9 rows r) = 0) && decide (ofQ rows (zg9 rows r) = 0))
theorem i9 {rows : List Row} {d : Nat} {r : Int} (h : bN r = true) : aQ rows d r = dP r := by cases d <;> simp [aQ, h]
theorem nL {rows : List Row} {d : Nat} {r : Int} (h : bN r = false) (h2 : aH rows r = (0, 0)) : aQ rows d r = [r] := by cases d <;> simp [aQ, h, h2]
theorem tG (r : Int) : (dP r).length <= 3 := by unfold dP; split <;> simp
theorem kV (rows : List Row) : ∀ (d : Nat) (r : Int), (aQ rows d r).length <= 3 * 2 ^ d
 | 0, r => by
   unfold aQ; split
   ·have := tG r; simp; omega
   ·simp
 | d + 1, r => by
   unfold aQ
   have h2 : 2 ^ (d + 1) = 2 * 2 ^ d := by rw [Nat.pow_succ]; omega
   have h3 : 1 <= 2 ^ d := Nat.one_le_two_pow
   split
   ·have := tG r; omega
   ·split
    ·simp; omega
    ·have e1 := kV rows d (aH rows r).1
     rw [List.length_append]
     split
     ·simp; omega
     ·have e2 := kV rows d (aH rows r).2; omega
theorem zha {r : Int} (h : bN r = true) : ∀ x ∈ dP r, 0 <= x /\ x <= 1114111 := by
 simp only [bN, Bool.and_eq_true, decide_eq_true_eq] at h
 intro x hx
 unfold dP at hx
 split at hx <;> simp only [List.mem_cons, List.not_mem_nil, or_false] at hx
 ·rcases hx with rfl | rfl <;> omega
 ·rcases hx with rfl | rfl | rfl <;> omega
theorem zhb (r : Int) : dP r ≠ [] := by unfold dP; split <;> simp
theorem zhc (rows : List Row) : ∀ (d : Nat) (r : Int), aQ rows d r ≠ []
 | 0, r => by unfold aQ; split; exact zhb r; simp
 | d + 1, r => by
   unfold aQ
   split
   ·exact zhb r
   ·split
    ·simp
    ·intro e; exact zhc rows d _ (List.append_eq_nil_iff.1 e).1
theorem tH {rows : List Row} (hp : cX rows) : ∀ (d : Nat) (r : Int), ∀ x ∈ aQ rows d r, x = r ∨ (0 <= x /\ x <= 1114111)
 | 0, r => fun x hx => by
   unfold aQ at hx
   split at hx
   ·rename_i h; exact .inr (zha h x hx)
   ·simp at hx; exact .inl hx
 | d + 1, r => fun x hx => by
   unfold aQ at hx
   have hg := nK hp r
   split at hx
   ·rename_i h; exact .inr (zha h x hx)
   ·split at hx
    ·simp at hx; exact .inl hx
    ·rcases List.mem_append.1 hx with hx | hx
     ·rcases tH hp d _ x hx with rfl | h
      ·exact .inr hg.1
      ·exact .inr h
     ·split at hx
      ·cases hx
      ·rcases tH hp d _ x hx with rfl | h
       ·exact .inr hg.2
       ·exact .inr h
def eB (rows : List Row) : Prop := ∀ x ∈ rows, x.kind = 2 -> x.fr = x.to /\ (0 <= x.fr /\ x.fr <= 1114111) /\ first rows 2 x.fr = some (x.a, x.b)
end Go.Eng.Rows



namespace Go.Eng
open Go Go.Proofs Go.Eng.Rows Go.Eng.Trie
theorem fW (a b : List Int) : aA (a ++ b) = aA a ++ aA b := by simp [aA]
theorem dC (a : List Int) : aT (aA a) 1 := pW (enc := fun n => [PV.int .i32 n]) (fun _ => rfl) a
def R32 (l : List Int) : Prop := ∀ x ∈ l, -2147483648 <= x /\ x <= 2147483647
theorem zrj (x : Int) : ([PV.int .i32 x] : List PV).length = 1 := rfl
theorem e9 {l : List Int} {i : Int} (h0 : 0 <= i) (hi : i.toNat < l.length) : aK (aA l) i 1 /\ (aA l).getD i.toNat [] = [.int .i32 l[i.toNat]] :=
 ⟨bW zrj h0 (by omega), cN hi⟩
theorem zrk (r : Int) : PCall Tryz.prog 160 [.int .i32 r] fun v => v = .bool (bN r) := by
 refine zn6 _ ?_; unfold zer
 unfold bN
 by_cases h1 : 44032 <= r <;> by_cases h2 : r <= 55203 <;> simp [h1, h2] <;> omega
theorem pIs (r : Int) : PCall Tryz.prog 109 [.int .i32 r] fun v => v = .bool (bN r) := by
 refine zn8 _ ?_; unfold zet
 unfold bN
 by_cases h1 : 44032 <= r <;> by_cases h2 : r <= 55203 <;> simp [h1, h2]
theorem zhd {r : Int} (h : bN r = true) : (44032 <= r /\ r <= 55203) /\ i32.wrap (r - 44032) = r - 44032 /\ i32.wrap (4352 + i32.wrap ((r - 44032).tdiv 588)) = 4352 + (r - 44032) / 588 /\
 i32.wrap (4449 + (i32.wrap ((r - 44032).tdiv 28)).tmod 21) = 4449 + (r - 44032) / 28 % 21 /\ i32.wrap (4519 + (r - 44032).tmod 28) = 4519 + (r - 44032) % 28 := by
 simp only [bN, Bool.and_eq_true, decide_eq_true_eq] at h
 have e1 : (r - 44032).tdiv 588 = (r - 44032) / 588 := Int.tdiv_eq_ediv_of_nonneg (by omega)
 have e2 : (r - 44032).tdiv 28 = (r - 44032) / 28 := Int.tdiv_eq_ediv_of_nonneg (by omega)
 have e3 : (r - 44032).tmod 28 = (r - 44032) % 28 := Int.tmod_eq_emod_of_nonneg (by omega)
 have w1 : i32.wrap ((r - 44032) / 588) = (r - 44032) / 588 := dM (by omega) (by omega)
 have w2 : i32.wrap ((r - 44032) / 28) = (r - 44032) / 28 := dM (by omega) (by omega)
 have e4 : ((r - 44032) / 28).tmod 21 = (r - 44032) / 28 % 21 := Int.tmod_eq_emod_of_nonneg (by omega)
 rw [e1, e2, e3, w1, w2, e4]
 exact ⟨h, dM (by omega) (by omega), dM (by omega) (by omega), dM (by omega) (by omega), dM (by omega) (by omega)⟩
theorem zhe (r : Int) : PCall Tryz.prog 142 [.int .i32 r] fun v => if bN r then v = .sl false true (aA (dP r)) else v = .sl true true [] := by
 refine zn7 _ ?_; unfold zes
 refine (zrk r).mono ?_
 rintro _ rfl
 refine ⟨_, rfl, ?_⟩
 cases h : bN r with
 | false => exact bG rfl rfl
 | true =>
   obtain ⟨hr, a1, a2, a3, a4⟩ := zhd h
   refine bK (by simp) ?_
   rw [a1, a2, a3, a4]
   refine ⟨⟨rfl, by omega⟩, ⟨by omega, by omega⟩, _, rfl, ?_⟩
   by_cases hc : (r - 44032) % 28 = 0
   ·refine bG (by simp; omega) ⟨⟨by unfold dB; simp, rfl⟩, ?_⟩
    simp [dP, hc, aA]
   ·refine bK (by simp; omega) ⟨⟨by unfold dB; simp, rfl⟩, ?_⟩
    simp [dP, hc, aA]
def zT (L : List Int) (r1 : LV) (h' : Hp) : Prop := (∃ nl, r1 = .own 0 /\ h' = [.sl (21, 1) true nl (aA L)]) ∨ (r1 = .pv (.sl false true (aA L)) /\ h' = [])
def FullR (L : List Int) (r1 : LV) (h' : Hp) : Prop := (∃ m nl, r1 = .own 0 /\ h' = [.sl (21, 1) m nl (aA L)]) ∨ (r1 = .pv (.sl false true (aA L)) /\ h' = [])
theorem FullR.mark {f : Nat} {args : List LV} {L : List Int} (h : ACall Tryz.prog f args [] (FullR L)) : ACall Tryz.prog f args [] (zT L) := by
 refine ACall.mark 0 [] h ?_
 rintro r h' (⟨m, nl, rfl, rfl⟩ | ⟨rfl, rfl⟩)
 ·exact .inl ⟨nl, rfl, rfl⟩
 ·exact .inr ⟨rfl, rfl⟩
theorem zU {r : Int} (hs : bN r = true) : ACall Tryz.prog 110 [.pv (.int .i32 r)] [] (zT (dP r)) := by
 refine FullR.mark (zeu _ ?_); unfold wZ
 refine (pIs r).mono ?_
 rintro _ rfl
 refine ⟨_, rfl, ?_⟩
 rw [hs]
 refine bK (by simp) ?_
 obtain ⟨hr, a1, a2, a3, a4⟩ := zhd hs
 have w0 : i64.wrap r = r := aC (by omega) (by omega)
 have w1 : i64.wrap (r - 44032) = r - 44032 := aC (by omega) (by omega)
 have e1 : (r - 44032).tdiv 588 = (r - 44032) / 588 := Int.tdiv_eq_ediv_of_nonneg (by omega)
 have e2 : (r - 44032).tdiv 28 = (r - 44032) / 28 := Int.tdiv_eq_ediv_of_nonneg (by omega)
 have e3 : (r - 44032).tmod 28 = (r - 44032) % 28 := Int.tmod_eq_emod_of_nonneg (by omega)
 have w2 : i64.wrap ((r - 44032) / 588) = (r - 44032) / 588 := aC (by omega) (by omega)
 have w3 : i64.wrap ((r - 44032) / 28) = (r - 44032) / 28 := aC (by omega) (by omega)
 have e4 : ((r - 44032) / 28).tmod 21 = (r - 44032) / 28 % 21 := Int.tmod_eq_emod_of_nonneg (by omega)
 rw [w0, w1, e1, e2, e3, w2, w3, e4]
 have w4 : i64.wrap (4352 + (r - 44032) / 588) = 4352 + (r - 44032) / 588 := aC (by omega) (by omega)
 have w5 : i64.wrap (4449 + (r - 44032) / 28 % 21) = 4449 + (r - 44032) / 28 % 21 := aC (by omega) (by omega)
 have w6 : i64.wrap (4519 + (r - 44032) % 28) = 4519 + (r - 44032) % 28 := aC (by omega) (by omega)
 rw [w4, w5, w6]
 have w7 : i32.wrap (4352 + (r - 44032) / 588) = 4352 + (r - 44032) / 588 := dM (by omega) (by omega)
 have w8 : i32.wrap (4449 + (r - 44032) / 28 % 21) = 4449 + (r - 44032) / 28 % 21 := dM (by omega) (by omega)
 have w9 : i32.wrap (4519 + (r - 44032) % 28) = 4519 + (r - 44032) % 28 := dM (by omega) (by omega)
 rw [w7, w8, w9]
 by_cases hc : (r - 44032) % 28 = 0
 ·refine bK (by simp [hc]) (.inr ⟨by simp [dP, hc, aA], rfl⟩)
 ·refine bG (by simp [hc]) ⟨?_, .inl ⟨false, false, rfl, by simp [dP, hc, aA]⟩⟩
  exact ⟨rfl, .inr (by simp), dC [_, _], dC [_], by simp⟩
section
variable {rows : List Row}
theorem pA (n f : Bool) (k r : Int) (hl : rows.length < 1000000) (hr : -9223372036854775808 <= r /\ r <= 9223372036854775807) : PCall Tryz.prog 140 [.sl n f (aZ rows), .int .i64 k, .int .i64 r] fun v => v = .int .i64 (aB rows k r) := by
 refine zn9 _ _ _ _ _ ?_; unfold zev
 refine (p33 n f rows k r (by omega)).mono ?_
 rintro _ ⟨m, rfl, hm⟩
 refine ⟨m, rfl, ?_⟩
 rcases hm with ⟨rfl, hn⟩ | ⟨m0, hm, hr2, hf⟩
 ·refine bG (by simp) ?_
  unfold aB bM
  split
  ·rename_i p hp
   split at hp
   ·rename_i hr2; rw [hn hr2.1 hr2.2] at hp; cases hp
   ·cases hp
  ·rfl
 ·refine bK (by simp; omega) ?_
  have hg : (aZ rows).getD m.toNat [] = lX rows[m.toNat] := cN hm
  refine ⟨bW nF m0 (by omega), rows[m.toNat].a, by rw [hg]; rfl, ?_⟩
  unfold aB bM
  rw [if_pos hr2, hf]
theorem kW (n f : Bool) (k r : Int) (hl : rows.length < 1000000) (hr : -2147483648 <= r /\ r <= 2147483647) : PCall Tryz.prog 112 [.sl n f (aZ rows), .int .i64 k, .int .i32 r] fun v => v = .int .i64 (aB rows k r) := by
 refine zoa _ _ _ _ _ ?_; unfold zew
 have hw : i64.wrap r = r := aC (by omega) (by omega)
 rw [hw]
 refine (pA n f k r hl (by omega)).mono ?_
 rintro _ rfl
 exact ⟨_, rfl, rfl⟩
theorem qC (n f : Bool) (r : Int) (hl : rows.length < 1000000) (hr : -2147483648 <= r /\ r <= 2147483647) : PCall Tryz.prog 75 [.sl n f (aZ rows), .int .i32 r] fun v => v = .int .i64 (aB rows 1 r) := by
 refine zoc _ _ _ _ ?_; unfold zey
 refine (kW n f 1 r hl hr).mono ?_
 rintro _ rfl
 exact ⟨_, rfl, rfl⟩
theorem tI (hp : cX rows) (n f : Bool) (r : Int) (hl : rows.length < 1000000) (hr : -2147483648 <= r /\ r <= 2147483647) : PCall Tryz.prog 111 [.sl n f (aZ rows), .int .i32 r] fun v =>
 v = .tup [.int .i32 (aH rows r).1, .int .i32 (aH rows r).2, .bool (!decide (aH rows r = (0, 0)))] := by
 refine zob _ _ _ _ ?_; unfold zex
 have hw : i64.wrap r = r := aC (by omega) (by omega)
 rw [hw]
 refine (p33 n f rows 2 r (by omega)).mono ?_
 rintro _ ⟨m, rfl, hm⟩
 refine ⟨m, rfl, ?_⟩
 rcases hm with ⟨rfl, hn⟩ | ⟨m0, hm, hr2, hf⟩
 ·refine bG (by simp) ?_
  have : aH rows r = (0, 0) := by
   unfold aH bM
   split
   ·rename_i p hp
    split at hp
    ·rename_i hr2; rw [hn hr2.1 hr2.2] at hp; cases hp
    ·cases hp
   ·rfl
  rw [this]; rfl
 ·refine bK (by simp; omega) ?_
  have hg : (aZ rows).getD m.toNat [] = lX rows[m.toNat] := cN hm
  have hfg : bM rows 2 r = some (rows[m.toNat].a, rows[m.toNat].b) := by unfold bM; rw [if_pos hr2]; exact hf
  have hne := zrc hp hfg
  have hpg : aH rows r = (rows[m.toNat].a, rows[m.toNat].b) := by unfold aH; rw [hfg]
  have hrng := nK hp r
  obtain ⟨y, hy, hk, ha, hb2, _⟩ := i7 hfg
  have hya := hp y hy hk
  rw [hpg] at hrng hne ⊢
  simp only at hrng ha hb2
  have w1 : i32.wrap rows[m.toNat].a = rows[m.toNat].a := dM (by omega) (by omega)
  have w2 : i32.wrap rows[m.toNat].b = rows[m.toNat].b := dM (by omega) (by omega)
  have hix : aK (aZ rows) m 5 := bW nF m0 (by omega)
  refine ⟨hix, rows[m.toNat].a, by rw [hg]; rfl, ?_⟩
  refine bK (by simp; omega) ⟨hix, rows[m.toNat].a, by rw [hg]; rfl, hix, rows[m.toNat].b, by rw [hg]; rfl, ?_⟩
  rw [w1, w2]
  simp [hne]
end
end Go.Eng



namespace Go.Eng
open Go Go.Proofs Go.Eng.Rows Go.Eng.Trie
section
variable {rows : List Row}
theorem zrl (hp : cX rows) (n f : Bool) (hl : rows.length < 1000000) : ∀ (d : Nat) (r : Int), d <= 8 -> (-2147483648 <= r /\ r <= 2147483647) ->
 ACall Tryz.prog 73 [.pv (.sl n f (aZ rows)), .pv (.int .i32 r), .pv (.int .i64 d)] [] (zT (aQ rows d r)) := by
 intro d
 induction d with
 | zero =>
   intro r hd hr
   refine FullR.mark (zez _ _ _ _ _ ?_); unfold xA
   refine (pIs r).mono ?_
   rintro _ rfl
   refine ⟨_, rfl, ?_⟩
   refine aD (fun hs => ?_) (fun hs => ?_)
   ·rw [i9 hs]
    refine (zU hs).mono ?_
    rintro r1 h' (⟨nl, rfl, rfl⟩ | ⟨rfl, rfl⟩)
    ·exact .inl ⟨(nl, _), ⟨rfl, rfl⟩, trivial, .inl ⟨true, nl, rfl, rfl⟩⟩
    ·exact .inr ⟨_, ⟨rfl, rfl⟩, trivial, .inr ⟨rfl, rfl⟩⟩
   ·simp only [Bool.not_eq_true] at hs
    refine (tI hp n f r hl hr).mono ?_
    rintro _ rfl
    refine ⟨_, rfl, rfl, _, rfl, _, rfl, _, rfl, _, rfl, _, rfl, _, rfl, ?_⟩
    refine bG (by simp) (.inr ⟨?_, rfl⟩)
    simp [aQ, hs, aA]
 | succ d ih =>
   intro r hd hr
   have hg := nK hp r
   have hw : i64.wrap (((d + 1 : Nat) : Int) - 1) = (d : Int) := by rw [show (((d + 1 : Nat) : Int) - 1) = (d : Int) by omega]; exact aC (by omega) (by omega)
   refine FullR.mark (zez _ _ _ _ _ ?_); unfold xA
   rw [hw]
   refine (pIs r).mono ?_
   rintro _ rfl
   refine ⟨_, rfl, ?_⟩
   refine aD (fun hs => ?_) (fun hs => ?_)
   ·rw [i9 hs]
    refine (zU hs).mono ?_
    rintro r1 h' (⟨nl, rfl, rfl⟩ | ⟨rfl, rfl⟩)
    ·exact .inl ⟨(nl, _), ⟨rfl, rfl⟩, trivial, .inl ⟨true, nl, rfl, rfl⟩⟩
    ·exact .inr ⟨_, ⟨rfl, rfl⟩, trivial, .inr ⟨rfl, rfl⟩⟩
   ·simp only [Bool.not_eq_true] at hs
    refine (tI hp n f r hl hr).mono ?_
    rintro _ rfl
    refine ⟨_, rfl, rfl, _, rfl, _, rfl, _, rfl, _, rfl, _, rfl, _, rfl, ?_⟩
    by_cases h0 : aH rows r = (0, 0)
    ·refine bG (by simp [h0]) (.inr ⟨?_, rfl⟩)
     rw [nL hs h0]; rfl
    ·refine bK (by simp [h0]; omega) ?_
     have hpow : 2 ^ d <= 2 ^ 8 := Nat.pow_le_pow_right (by omega) (by omega)
     have ea := kV rows d (aH rows r).1
     have eb := kV rows d (aH rows r).2
     have na := zhc rows d (aH rows r).2
     have heq : aQ rows (d + 1) r = aQ rows d (aH rows r).1 ++ (if (aH rows r).2 = 0 then [] else aQ rows d (aH rows r).2) := by
      rw [aQ]; simp [hs, h0]
     rw [heq]
     refine (ih (aH rows r).1 (by omega) (by omega)).mono ?_
     have second : ∀ (K : LV -> Hp -> Prop), (aH rows r).2 ≠ 0 -> (∀ nl, K (.own 0) [.sl (21, 1) true nl (aA (aQ rows d (aH rows r).2))]) -> K (.pv (.sl false true (aA (aQ rows d (aH rows r).2)))) [] -> ACall Tryz.prog 73 [.pv (.sl n f (aZ rows)), .pv (.int .i32 (aH rows r).2), .pv (.int .i64 d)] [] K := fun K _ k1 k2 => by
      refine (ih (aH rows r).2 (by omega) (by omega)).mono ?_
      rintro r1 h' (⟨nl, rfl, rfl⟩ | ⟨rfl, rfl⟩)
      ·exact k1 nl
      ·exact k2
     have sz : ∀ L : List Int, L.length <= 768 -> ((aA (aQ rows d (aH rows r).1)).length + (aA L).length) * 4 <= 140737488355328 := fun L h => by simp only [aS]; omega
     rintro r1 h' (⟨nl, rfl, rfl⟩ | ⟨rfl, rfl⟩)
     ·refine .inl ⟨(nl, _), ⟨rfl, rfl⟩, trivial, aD (fun hb => ?_) (fun hb => ?_)⟩
      ·simp only [bne_iff_ne, ne_eq] at hb
       rw [if_neg hb]
       refine second _ hb (fun nl2 => .inl ⟨(nl2, _), ⟨rfl, rfl⟩, trivial, ⟨dC _, sz _ (by omega)⟩, .inl ⟨true, _, rfl, by rw [fW]; rfl⟩⟩) (.inr ⟨_, ⟨rfl, rfl⟩, trivial, ⟨dC _, sz _ (by omega)⟩, .inl ⟨true, _, rfl, by rw [fW]; rfl⟩⟩)
      ·simp only [bne_iff_ne, ne_eq, Decidable.not_not] at hb
       rw [if_pos hb, List.append_nil]
       exact .inl ⟨true, nl, rfl, rfl⟩
     ·refine .inr ⟨_, ⟨rfl, rfl⟩, trivial, aD (fun hb => ?_) (fun hb => ?_)⟩
      ·simp only [bne_iff_ne, ne_eq] at hb
       rw [if_neg hb]
       have ap : kE true (aA (aQ rows d (aH rows r).1)) (aA (aQ rows d (aH rows r).2)) 1 4 := ⟨rfl, .inr (by simpa [aA] using na), dC _, dC _, sz _ (by omega)⟩
       refine second _ hb (fun nl2 => .inl ⟨(nl2, _), ⟨rfl, rfl⟩, trivial, ap, .inl ⟨false, _, rfl, by rw [fW]; rfl⟩⟩) (.inr ⟨_, ⟨rfl, rfl⟩, trivial, ap, .inl ⟨false, _, rfl, by rw [fW]⟩⟩)
      ·simp only [bne_iff_ne, ne_eq, Decidable.not_not] at hb
       rw [if_pos hb, List.append_nil]
       exact .inr ⟨rfl, rfl⟩
end
end Go.Eng



namespace Go.Eng
open Go Go.Proofs Go.Eng.Rows Go.Eng.Trie
section
variable {rows : List Row} {tc tg tj tf tp : PV} (M S : List (PV × PV))
def zrm (T : PV) (L : List Int) (r1 : LV) (h' : Hp) : Prop := ∃ nl, r1 = .tup [] /\ h' = [.box [.pv T, .own 1], .sl (21, 1) true nl (aA L)]
theorem zrn (hp : cX rows) (ht : Tri rows tc tg tj tf tp) : ∀ (d : Nat) (r : Int) (nl : Bool) (pre : List Int), d <= 8 -> (-2147483648 <= r /\ r <= 2147483647) -> pre.length + 3 * 2 ^ d <= 1000000000 ->
 ACall Tryz.prog 120 [.box 0 0, .pv (.int .i32 r), .pv (.int .i64 d)] [.box [.pv (.ptr [tc, tg, tj, tf, tp, .mp M, .mp S]), .own 1], .sl (21, 1) false nl (aA pre)] (zrm (.ptr [tc, tg, tj, tf, tp, .mp M, .mp S]) (pre ++ aQ rows d r)) := by
 intro d
 induction d with
 | zero =>
   intro r nl pre hd hr hb
   refine ze0 _ _ _ _ _ _ _ _ _ _ _ ?_; unfold xB
   refine (zhe r).mono ?_
   intro v hv
   by_cases hs : bN r = true
   ·rw [if_pos hs] at hv; subst hv
    refine ⟨_, _, _, rfl, bG (by simp) ⟨⟨dC _, ?_⟩, _, rfl, by rw [i9 hs, fW]⟩⟩
    have := tG r
    simp only [aS]; omega
   ·rw [if_neg hs] at hv; subst hv
    simp only [Bool.not_eq_true] at hs
    refine ⟨_, _, _, rfl, bK (by simp) ?_⟩
    refine (zP M S ht hr).mono ?_
    rintro _ rfl
    refine ⟨_, rfl, rfl, _, rfl, _, rfl, _, rfl, _, rfl, _, rfl, _, rfl, bG (by simp) ⟨⟨dC [_], ?_⟩, nl && false, rfl, ?_⟩⟩
    ·simp only [aS]; omega
    ·have : aQ rows 0 r = [r] := by simp [aQ, hs]
     rw [this, fW]; rfl
 | succ d ih =>
   intro r nl pre hd hr hb
   have hg := nK hp r
   have hw : i64.wrap (((d + 1 : Nat) : Int) - 1) = (d : Int) := by rw [show (((d + 1 : Nat) : Int) - 1) = (d : Int) by omega]; exact aC (by omega) (by omega)
   have h2 : 2 ^ (d + 1) = 2 * 2 ^ d := by rw [Nat.pow_succ]; omega
   have h3 : 1 <= 2 ^ d := Nat.one_le_two_pow
   refine ze0 _ _ _ _ _ _ _ _ _ _ _ ?_; unfold xB
   rw [hw]
   refine (zhe r).mono ?_
   intro v hv
   by_cases hs : bN r = true
   ·rw [if_pos hs] at hv; subst hv
    refine ⟨_, _, _, rfl, bG (by simp) ⟨⟨dC _, ?_⟩, _, rfl, by rw [i9 hs, fW]⟩⟩
    have := tG r
    simp only [aS]; omega
   ·rw [if_neg hs] at hv; subst hv
    simp only [Bool.not_eq_true] at hs
    refine ⟨_, _, _, rfl, bK (by simp) ?_⟩
    refine (zP M S ht hr).mono ?_
    rintro _ rfl
    refine ⟨_, rfl, rfl, _, rfl, _, rfl, _, rfl, _, rfl, _, rfl, _, rfl, ?_⟩
    by_cases h0 : aH rows r = (0, 0)
    ·refine bG (by simp [h0]) ⟨⟨dC [_], ?_⟩, nl && false, rfl, ?_⟩
     ·simp only [aS]; omega
     ·rw [nL hs h0, fW]; rfl
    ·refine bK (by simp [h0]; omega) ?_
     have ea := kV rows d (aH rows r).1
     have heq : aQ rows (d + 1) r = aQ rows d (aH rows r).1 ++ (if (aH rows r).2 = 0 then [] else aQ rows d (aH rows r).2) := by
      rw [aQ]; simp [hs, h0]
     rw [heq]
     refine (ih (aH rows r).1 nl pre (by omega) (by omega) (by omega)).mono ?_
     rintro r1 h' ⟨nl1, rfl, rfl⟩
     refine ⟨(nl1, _), ⟨rfl, rfl⟩, ⟨trivial, trivial, trivial⟩, aD (fun hb2 => ?_) (fun hb2 => ?_)⟩
     ·simp only [bne_iff_ne, ne_eq] at hb2
      rw [if_neg hb2]
      refine (ih (aH rows r).2 nl1 (pre ++ aQ rows d (aH rows r).1) (by omega) (by omega) (by rw [List.length_append]; omega)).mono ?_
      rintro r2 h2 ⟨nl2, rfl, rfl⟩
      exact ⟨(nl2, _), ⟨rfl, rfl⟩, ⟨trivial, trivial, trivial⟩, nl2, rfl, by rw [<- List.append_assoc]; rfl⟩
     ·simp only [bne_iff_ne, ne_eq, Decidable.not_not] at hb2
      rw [if_pos hb2, List.append_nil]
      exact ⟨nl1, rfl, rfl⟩
end
end Go.Eng



namespace Go.Eng.Srt
open Go Go.Eng
section
variable {α : Type} (key : α -> Int)
def Srtd (l : List α) : Prop := l.Pairwise fun x y => key x <= key y
def Stab (l r : List α) : Prop := l.Perm r /\ ∀ c, l.filter (fun x => decide (key x = c)) = r.filter (fun x => decide (key x = c))
variable {key}
theorem Stab.refl (l : List α) : Stab key l l := ⟨List.Perm.refl _, fun _ => rfl⟩
theorem Stab.trans {a b c : List α} (h : Stab key a b) (k : Stab key b c) : Stab key a c := ⟨h.1.trans k.1, fun x => (h.2 x).trans (k.2 x)⟩
theorem Stab.symm {a b : List α} (h : Stab key a b) : Stab key b a := ⟨h.1.symm, fun x => (h.2 x).symm⟩
theorem Stab.app {a b c d : List α} (h : Stab key a b) (k : Stab key c d) : Stab key (a ++ c) (b ++ d) := ⟨h.1.append k.1, fun x => by rw [List.filter_append, List.filter_append, h.2, k.2]⟩
theorem Stab.len {a b : List α} (h : Stab key a b) : a.length = b.length := h.1.length_eq
theorem Stab.mem {a b : List α} (h : Stab key a b) {x : α} : x ∈ a ↔ x ∈ b := h.1.mem_iff
theorem Stab.rot {a b : List α} (h : ∀ x ∈ a, ∀ y ∈ b, key x ≠ key y) : Stab key (a ++ b) (b ++ a) := by
 refine ⟨List.perm_append_comm, fun c => ?_⟩
 rw [List.filter_append, List.filter_append]
 by_cases hc : ∃ x ∈ a, key x = c
 ·obtain ⟨x, hx, hxc⟩ := hc
  have : b.filter (fun x => decide (key x = c)) = [] := List.filter_eq_nil_iff.2 fun y hy => by
   simp only [decide_eq_true_eq]; intro e; exact h x hx y hy (hxc.trans e.symm)
  rw [this]; simp
 ·have : a.filter (fun x => decide (key x = c)) = [] := List.filter_eq_nil_iff.2 fun y hy => by
   simp only [decide_eq_true_eq]; intro e; exact hc ⟨y, hy, e⟩
  rw [this]; simp
theorem Stab.rot1 {u v : List α} {a b : List α} (h : ∀ x ∈ a, ∀ y ∈ b, key x ≠ key y) : Stab key (u ++ (a ++ b) ++ v) (u ++ (b ++ a) ++ v) := ((Stab.refl u).app (.rot h)).app (.refl v)
theorem Stab.uniq : ∀ {l r : List α}, Srtd key l -> Srtd key r -> Stab key l r -> l = r
 | [], r, _, _, h => by have := h.len; cases r with | nil => rfl | cons => simp at this
 | x :: l, [], _, _, h => by have := h.len; simp at this
 | x :: l, y :: r, hl, hr, h => by
   have hk : key x = key y := by
    have h1 : key x <= key y := by
     rcases List.mem_cons.1 (h.mem.2 List.mem_cons_self : y ∈ x :: l) with e | e
     ·rw [e]; exact Int.le_refl _
     ·exact (List.pairwise_cons.1 hl).1 y e
    have h2 : key y <= key x := by
     rcases List.mem_cons.1 (h.mem.1 List.mem_cons_self : x ∈ y :: r) with e | e
     ·rw [e]; exact Int.le_refl _
     ·exact (List.pairwise_cons.1 hr).1 x e
    omega
   have hxy : x = y := by
    have := h.2 (key x)
    rw [List.filter_cons, List.filter_cons, if_pos (by simp), if_pos (by simp [hk])] at this
    exact (List.cons.inj this).1
   subst hxy
   have ht : Stab key l r := ⟨(List.perm_cons x).1 h.1, fun c => by
    have := h.2 c
    rw [List.filter_cons, List.filter_cons] at this
    split at this
    ·exact (List.cons.inj this).2
    ·exact this⟩
   rw [Stab.uniq (List.pairwise_cons.1 hl).2 (List.pairwise_cons.1 hr).2 ht]
theorem iM {a b : List α} : Srtd key (a ++ b) ↔ Srtd key a /\ Srtd key b /\ ∀ x ∈ a, ∀ y ∈ b, key x <= key y := List.pairwise_append
end
section
variable {α : Type}
theorem nM (u v : List α) (x : α) : (u ++ x :: v)[u.length]? = some x := by simp
theorem qD (u v : List α) (x y : α) : (u ++ x :: v).set u.length y = u ++ y :: v := by simp
theorem zro (u v w : List α) (x y : α) : ((u ++ x :: (v ++ y :: w)).set u.length y).set (u.length + 1 + v.length) x = u ++ y :: (v ++ x :: w) := by
 rw [qD]
 have e : u ++ y :: (v ++ y :: w) = (u ++ y :: v) ++ y :: w := by simp
 have e2 : u.length + 1 + v.length = (u ++ y :: v).length := by simp; omega
 rw [e, e2, qD]
 simp
theorem zhf (u w : List α) (x y : α) : ((u ++ x :: y :: w).set (u.length + 1) x).set u.length y = u ++ y :: x :: w := by
 have e : u ++ x :: y :: w = (u ++ [x]) ++ y :: w := by simp
 have e2 : u.length + 1 = (u ++ [x]).length := by simp
 rw [e, e2, qD]
 have e3 : (u ++ [x]) ++ x :: w = u ++ x :: (x :: w) := by simp
 rw [e3, qD]
theorem zrp (u w : List α) (x y : α) : ((u ++ x :: y :: w).set u.length y).set (u.length + 1) x = u ++ y :: x :: w := by
 simp
end
end Go.Eng.Srt



namespace Go.Eng
open Go Go.Proofs Go.Eng.Rows Go.Eng.Srt
def jA (T : PV) (key : Int -> Int) : Prop := ∀ a b : Int, (-2147483648 <= a /\ a <= 2147483647) -> (-2147483648 <= b /\ b <= 2147483647) -> PCall Tryz.prog 145 [.int .i32 a, .int .i32 b, .ptr [T]] fun v => ∃ n : Int, v = .int .i64 n /\ (n < 0 ↔ key a < key b)
theorem c7 {D : List Int} {k : Nat} {v : Int} (h : D[k]? = some v) : (aA D).getD k [] = [.int .i32 v] := by
 simp [aA, List.getD, h]
theorem zhg (D : List Int) (k : Nat) (v : Int) : (aA D).set k [.int .i32 v] = aA (D.set k v) := by simp [aA, List.map_set]
theorem kX {D : List Int} (h : R32 D) {k : Nat} {v : Int} (hv : D[k]? = some v) : -2147483648 <= v /\ v <= 2147483647 := h v (List.mem_of_getElem? hv)
theorem tJ (D : List Int) {i j : Nat} {x y : Int} (hi : D[i]? = some x) (hj : D[j]? = some y) (hij : i ≠ j) (p q : Int) :
 ((aA D).set i (.int .i32 p :: zq (List.drop 1 ((aA D).getD i [])))).set j (.int .i32 q :: zq (List.drop 1 (((aA D).set i (.int .i32 p :: zq (List.drop 1 ((aA D).getD i [])))).getD j []))) = aA ((D.set i p).set j q) /\
 ((aA D).getD i []).length = 1 /\ ((aA D).getD j []).length = 1 /\ (((aA D).set i (.int .i32 p :: zq (List.drop 1 ((aA D).getD i [])))).getD j []).length = 1 := by
 rw [c7 hi, c7 hj]
 have e1 : (aA D).set i (.int .i32 p :: zq (List.drop 1 [PV.int .i32 x])) = aA (D.set i p) := zhg D i p
 have hj2 : (D.set i p)[j]? = some y := by rw [List.getElem?_set_ne hij]; exact hj
 rw [e1, c7 hj2]
 exact ⟨zhg _ _ _, rfl, rfl, rfl⟩
def zrq (key : Int -> Int) (nl : Bool) (T : PV) (P S R : List Int) (r : LV) (h' : Hp) : Prop := ∃ S' : List Int, r = .tup [] /\ h' = [.sl (21, 1) false nl (aA (P ++ S' ++ R)), .box [.pv T]] /\ Srtd key S' /\ Stab key S S'
section
variable {key : Int -> Int} {T : PV}
theorem zhh (hc : jA T key) (lo hi : Nat) (nl : Bool) (P S R : List Int) (a b : Int) (ha : 0 <= a) (hP : P.length = lo + a.toNat) (hb : b = a + S.length) (hhi : (lo : Int) + b <= hi) (hr : R32 (P ++ S ++ R)) (hlen : hi < 1000000000000) :
 ACall Tryz.prog 174 [.sub 0 lo hi, .pv (.int .i64 a), .pv (.int .i64 b), .fn 145 [.box 1 0]] [.sl (21, 1) false nl (aA (P ++ S ++ R)), .box [.pv T]] (zrq key nl T P S R) := by
 refine zn1 _ _ _ _ _ _ _
  (fun i s => ∃ A B, s = aA (P ++ (A ++ B) ++ R) /\ Srtd key A /\ Stab key S (A ++ B) /\ (i <= b -> (A.length : Int) = i - a) /\ a < i /\ (b < i -> S = [])) (fun i _ => (b + 1 - i).toNat)
  (fun i _ _ i' j s => i = i' /\ ∃ A x B C, s = aA (P ++ (A ++ x :: (B ++ C)) ++ R) /\ (A.length : Int) = j - a /\ (B.length : Int) = i - j /\ Srtd key (A ++ B) /\ (∀ y ∈ B, key x < key y) /\ Stab key S (A ++ x :: (B ++ C)) /\ a <= j) (fun _ j _ => (j - a).toNat) ?_
 unfold zem
 have hwa : i64.wrap (a + 1) = a + 1 := aC (by omega) (by omega)
 rw [hwa]
 refine ⟨⟨rfl, S.take 1, S.drop 1, by rw [List.take_append_drop], ?_, by rw [List.take_append_drop]; exact .refl _, fun h => ?_, by omega, fun h => ?_⟩, ?_⟩
 ·cases S with
  | nil => exact List.Pairwise.nil
  | cons x l => exact List.pairwise_singleton _ _
 ·cases S with
  | nil => simp at hb; omega
  | cons x l => simp; omega
 ·cases S with
  | nil => rfl
  | cons x l => simp at hb; omega
 rintro i _ ⟨A, B, rfl, hA, hst, hAB, hi0, hi1⟩
 refine aD (fun hc1 => ?_) (fun hc1 => ?_)
 ·simp only [decide_eq_true_eq] at hc1
  have hlAB := hst.len
  rw [List.length_append] at hlAB
  have hiw : i64.wrap (i + 1) = i + 1 := aC (by omega) (by omega)
  cases B with
  | nil =>
    have := hAB (by omega)
    simp at hlAB; omega
  | cons x C =>
    have hAl := hAB (by omega)
    refine ⟨⟨rfl, rfl, A, x, [], C, rfl, hAl, by simp, by simpa using hA, fun y hy => (by cases hy), hst, by omega⟩, ?_⟩
    clear hst hlAB hA hAl hAB
    rintro _ j _ ⟨rfl, A, x, B, C, rfl, hAl, hBl, hAB, hxB, hst, hja⟩
    have hR : R32 (P ++ (A ++ x :: (B ++ C)) ++ R) := fun y hy => hr y (by
     simp only [List.mem_append] at hy ⊢
     rcases hy with (hy | hy) | hy
     ·exact .inl (.inl hy)
     ·exact .inl (.inr (hst.mem.2 (by simpa using hy)))
     ·exact .inr hy)
    have hlen2 := hst.len
    simp only [List.length_append, List.length_cons] at hlen2
    have fin : (∀ y ∈ A, key y <= key x) -> ∃ A' B', aA (P ++ (A ++ x :: (B ++ C)) ++ R) = aA (P ++ (A' ++ B') ++ R) /\ Srtd key A' /\ Stab key S (A' ++ B') /\ (i + 1 <= b -> (A'.length : Int) = i + 1 - a) /\ a < i + 1 /\ (b < i + 1 -> S = []) := fun hAx => by
     refine ⟨A ++ x :: B, C, by simp, ?_, by simpa using hst, fun _ => by simp; omega, by omega, fun h => by omega⟩
     obtain ⟨s1, s2, s3⟩ := iM.1 hAB
     refine iM.2 ⟨s1, List.pairwise_cons.2 ⟨fun y hy => Int.le_of_lt (hxB y hy), s2⟩, fun y hy z hz => ?_⟩
     rcases List.mem_cons.1 hz with rfl | hz
     ·exact hAx y hy
     ·exact s3 y hy z hz
    have hmu1 : (b + 1 - (i + 1)).toNat < (b + 1 - i).toNat := by omega
    refine aD (fun hc2 => ?_) (fun hc2 => ?_)
    ·simp only [decide_eq_true_eq, gt_iff_lt] at hc2
     have hwj : i64.wrap (j - 1) = j - 1 := aC (by omega) (by omega)
     rw [hwj]
     obtain ⟨A0, y, rfl⟩ : ∃ A0 y, A = A0 ++ [y] := by
      rcases List.eq_nil_or_concat A with h | ⟨A0, y, h⟩
      ·subst h; simp at hAl; omega
      ·exact ⟨A0, y, by simpa using h⟩
     simp only [List.length_append, List.length_cons, List.length_nil] at hAl
     have hD : P ++ (A0 ++ [y] ++ x :: (B ++ C)) ++ R = (P ++ A0) ++ y :: x :: (B ++ C ++ R) := by simp
     have hk : lo + (j - 1).toNat = (P ++ A0).length := by simp; omega
     have hk1 : lo + j.toNat = (P ++ A0).length + 1 := by simp; omega
     have gy : (P ++ (A0 ++ [y] ++ x :: (B ++ C)) ++ R)[lo + (j - 1).toNat]? = some y := by rw [hD, hk]; simp
     have gx : (P ++ (A0 ++ [y] ++ x :: (B ++ C)) ++ R)[lo + j.toNat]? = some x := by
      rw [hD, hk1, List.getElem?_append_right (by omega)]; simp
     obtain ⟨t1, t2, t3, t4⟩ := tJ _ gx gy (by omega) y x
     have hsw : ((P ++ (A0 ++ [y] ++ x :: (B ++ C)) ++ R).set (lo + j.toNat) y).set (lo + (j - 1).toNat) x = P ++ (A0 ++ x :: ((y :: B) ++ C)) ++ R := by
      rw [hD, hk, hk1, zhf]; simp
     rw [hsw] at t1
     refine ⟨⟨by omega, by omega, t2⟩, x, by rw [c7 gx]; rfl, ⟨by omega, by omega, t3⟩, y, by rw [c7 gy]; rfl, ?_⟩
     refine (hc x y (kX hR gx) (kX hR gy)).mono ?_
     rintro _ ⟨n2, rfl, hn2⟩
     refine ⟨n2, rfl, rfl, aD (fun hlt => ?_) (fun hlt => ?_)⟩
     ·simp only [decide_eq_true_eq] at hlt
      have hkey := hn2.1 hlt
      refine ⟨⟨by omega, by omega, t3⟩, y, by rw [c7 gy]; rfl, ⟨by omega, by omega, t2⟩, x, by rw [c7 gx]; rfl, ⟨by omega, by omega, t2⟩, ?_⟩
      have hsrt : Srtd key (A0 ++ y :: B) := by simpa using hAB
      have hst2 : Stab key S (A0 ++ x :: ((y :: B) ++ C)) := by
       refine hst.trans ?_
       have := Stab.rot1 (key := key) (u := A0) (v := B ++ C) (a := [y]) (b := [x]) (fun p hp q hq => by simp at hp hq; subst hp; subst hq; omega)
       simpa using this
      have hle1 : 1 <= ((aA (P ++ (A0 ++ [y] ++ x :: (B ++ C)) ++ R)).getD (lo + j.toNat) []).length := by rw [t2]; exact Nat.le_refl _
      refine ⟨?_, ?_⟩
      all_goals
       refine ⟨⟨rfl, hle1⟩, ⟨by omega, by omega, t4⟩, ⟨rfl, by rw [t4]; exact Nat.le_refl _⟩, ?_⟩
       exact ⟨rfl, ⟨rfl, A0, x, y :: B, C, t1, by omega, by rw [List.length_cons]; omega, hsrt, fun z hz => (by rcases List.mem_cons.1 hz with rfl | hz; exact hkey; exact hxB z hz), hst2, by omega⟩, by dsimp only; omega⟩
     ·simp only [decide_eq_true_eq] at hlt
      have hkey : ¬ key x < key y := fun h => hlt (hn2.2 h)
      rw [hiw]
      refine ⟨rfl, fin fun z hz => ?_, hmu1⟩
      rcases List.mem_append.1 hz with hz | hz
      ·have := (iM.1 (iM.1 hAB).1).2.2 z hz y (by simp)
       omega
      ·simp only [List.mem_singleton] at hz; subst hz; omega
    ·simp only [decide_eq_true_eq, gt_iff_lt] at hc2
     have hA0 : A = [] := List.length_eq_zero_iff.1 (by omega)
     subst hA0
     rw [hiw]
     exact ⟨rfl, fin fun z hz => (by cases hz), hmu1⟩
 ·simp only [decide_eq_true_eq] at hc1
  have hB : B = [] := by
   by_cases hib : i <= b
   ·have h1 := hAB hib
    have h2 := hst.len
    rw [List.length_append] at h2
    exact List.length_eq_zero_iff.1 (by omega)
   ·have h0 := hi1 (by omega)
    subst h0
    have h2 := hst.len
    rw [List.length_append] at h2
    exact List.length_eq_zero_iff.1 (by simp at h2; omega)
  subst hB
  exact ⟨A, rfl, by simp, hA, by simpa using hst⟩
end
end Go.Eng



namespace Go.Eng
open Go Go.Proofs Go.Eng.Rows Go.Eng.Srt
section
variable {T : PV}
theorem zV (lo hi : Nat) (nl : Bool) (P X Q Y R : List Int) (a b n : Int) (ha : 0 <= a) (hP : P.length = lo + a.toNat) (hX : (X.length : Int) = n) (hY : (Y.length : Int) = n) (hQ : b = a + n + Q.length) (hhi : (lo : Int) + b + n <= hi) (hlen : hi < 1000000000000) :
 ACall Tryz.prog 178 [.sub 0 lo hi, .pv (.int .i64 a), .pv (.int .i64 b), .pv (.int .i64 n), .fn 145 [.box 1 0]] [.sl (21, 1) false nl (aA (P ++ (X ++ (Q ++ (Y ++ R))))), .box [.pv T]]
  fun r h' => r = .tup [] /\ h' = [.sl (21, 1) false nl (aA (P ++ (Y ++ (Q ++ (X ++ R))))), .box [.pv T]] := by
 refine zn2 _ _ _ _ _ _ _ _
  (fun i s => 0 <= i /\ i <= n /\ s = aA (P ++ (Y.take i.toNat ++ (X.drop i.toNat ++ (Q ++ (X.take i.toNat ++ (Y.drop i.toNat ++ R))))))) (fun i _ => (n - i).toNat) ?_
 unfold zen
 refine ⟨⟨rfl, Int.le_refl _, by omega, by simp⟩, ?_⟩
 rintro i _ ⟨i0, i1, rfl⟩
 refine aD (fun hc => ?_) (fun hc => ?_)
 ·simp only [decide_eq_true_eq] at hc
  have hix : i.toNat < X.length := by omega
  have hiy : i.toNat < Y.length := by omega
  have wb : i64.wrap (b + i) = b + i := aC (by omega) (by omega)
  have wa : i64.wrap (a + i) = a + i := aC (by omega) (by omega)
  have wi : i64.wrap (i + 1) = i + 1 := aC (by omega) (by omega)
  have hn : (i + 1).toNat = i.toNat + 1 := by omega
  rw [wb, wa, wi]
  have lt : (Y.take i.toNat).length = i.toNat := by rw [List.length_take]; omega
  have ltx : (X.take i.toNat).length = i.toNat := by rw [List.length_take]; omega
  have dx : X.drop i.toNat = X[i.toNat] :: X.drop (i.toNat + 1) := List.drop_eq_getElem_cons hix
  have dy : Y.drop i.toNat = Y[i.toNat] :: Y.drop (i.toNat + 1) := List.drop_eq_getElem_cons hiy
  have tx : X.take (i.toNat + 1) = X.take i.toNat ++ [X[i.toNat]] := cG hix
  have ty : Y.take (i.toNat + 1) = Y.take i.toNat ++ [Y[i.toNat]] := cG hiy
  have ldx : (X.drop (i.toNat + 1)).length = X.length - (i.toNat + 1) := List.length_drop
  obtain ⟨D, hDe⟩ : ∃ D, D = P ++ (Y.take i.toNat ++ (X.drop i.toNat ++ (Q ++ (X.take i.toNat ++ (Y.drop i.toNat ++ R))))) := ⟨_, rfl⟩
  rw [<- hDe]
  have hD : D = (P ++ Y.take i.toNat) ++ X[i.toNat] :: ((X.drop (i.toNat + 1) ++ Q ++ X.take i.toNat) ++ Y[i.toNat] :: (Y.drop (i.toNat + 1) ++ R)) := by rw [hDe, dx, dy]; simp only [List.append_assoc, List.cons_append, List.nil_append]
  have hka : lo + (a + i).toNat = (P ++ Y.take i.toNat).length := by rw [List.length_append, lt]; omega
  have hkb : lo + (b + i).toNat = (P ++ Y.take i.toNat).length + 1 + (X.drop (i.toNat + 1) ++ Q ++ X.take i.toNat).length := by simp only [List.length_append, lt, ltx, ldx]; omega
  have hsw : (D.set (lo + (a + i).toNat) Y[i.toNat]).set (lo + (b + i).toNat) X[i.toNat] = P ++ (Y.take (i + 1).toNat ++ (X.drop (i + 1).toNat ++ (Q ++ (X.take (i + 1).toNat ++ (Y.drop (i + 1).toNat ++ R))))) := by
   rw [hD, hka, hkb, zro, hn, tx, ty]; simp only [List.append_assoc, List.cons_append, List.nil_append]
  have gx : D[lo + (a + i).toNat]? = some X[i.toNat] := by rw [hD, hka, nM]
  have gy : D[lo + (b + i).toNat]? = some Y[i.toNat] := by
   have e : ∀ (u v w : List Int) (x y : Int), u ++ x :: (v ++ y :: w) = (u ++ x :: v) ++ y :: w := fun u v w x y => by simp
   have e2 : ∀ (u v : List Int) (x : Int), u.length + 1 + v.length = (u ++ x :: v).length := fun u v x => by simp; omega
   rw [hD, hkb, e, e2 _ _ X[i.toNat], nM]
  obtain ⟨t1, t2, t3, t4⟩ := tJ _ gx gy (by omega) Y[i.toNat] X[i.toNat]
  rw [hsw] at t1
  have hla : 1 <= ((aA D).getD (lo + (a + i).toNat) []).length := by rw [t2]; exact Nat.le_refl _
  refine ⟨⟨by omega, by omega, t3⟩, Y[i.toNat], by rw [c7 gy]; rfl, ⟨by omega, by omega, t2⟩, X[i.toNat], by rw [c7 gx]; rfl, ⟨by omega, by omega, t2⟩, ?_⟩
  refine ⟨?_, ?_⟩
  all_goals exact ⟨⟨rfl, hla⟩, ⟨by omega, by omega, t4⟩, ⟨rfl, by rw [t4]; exact Nat.le_refl _⟩, rfl, ⟨by omega, by omega, t1⟩, by dsimp only; omega⟩
 ·simp only [decide_eq_true_eq] at hc
  have hi : i = n := by omega
  subst hi
  rw [List.take_of_length_le (by omega), List.take_of_length_le (by omega), List.drop_of_length_le (by omega), List.drop_of_length_le (by omega)]
  exact ⟨rfl, by simp⟩
theorem zrr (lo hi : Nat) (nl : Bool) (P X Y R : List Int) (a m b : Int) (ha : 0 <= a) (hP : P.length = lo + a.toNat) (hX : m = a + X.length) (hY : b = m + Y.length) (hx : X ≠ []) (hy : Y ≠ []) (hhi : (lo : Int) + b <= hi) (hlen : hi < 1000000000000) :
 ACall Tryz.prog 177 [.sub 0 lo hi, .pv (.int .i64 a), .pv (.int .i64 m), .pv (.int .i64 b), .fn 145 [.box 1 0]] [.sl (21, 1) false nl (aA (P ++ (X ++ (Y ++ R)))), .box [.pv T]]
  fun r h' => r = .tup [] /\ h' = [.sl (21, 1) false nl (aA (P ++ (Y ++ (X ++ R)))), .box [.pv T]] := by
 have hxl := List.length_pos_iff.2 hx
 have hyl := List.length_pos_iff.2 hy
 refine zn3 _ _ _ _ _ _ _ _
  (fun i j s => 0 < i /\ 0 < j /\ i + j <= b - a /\ ∃ P1 U V R1 : List Int, s = aA (P1 ++ (U ++ (V ++ R1))) /\ P1 ++ (V ++ (U ++ R1)) = P ++ (Y ++ (X ++ R)) /\ (U.length : Int) = i /\ (V.length : Int) = j /\ ((P1.length : Int) + i = lo + m) /\ (lo : Int) + a <= P1.length /\ m + j <= b) (fun i j _ => (i + j).toNat) ?_
 unfold zeo
 have w1 : i64.wrap (m - a) = X.length := by rw [aC (by omega) (by omega)]; omega
 have w2 : i64.wrap (b - m) = Y.length := by rw [aC (by omega) (by omega)]; omega
 rw [w1, w2]
 refine ⟨⟨rfl, by omega, by omega, by omega, P, X, Y, R, rfl, rfl, rfl, rfl, by omega, by omega, by omega⟩, ?_⟩
 rintro i j _ ⟨i0, j0, hij, P1, U, V, R1, rfl, he, hU, hV, hP1, hPa, hmj⟩
 have wmi : i64.wrap (m - i) = m - i := aC (by omega) (by omega)
 rw [wmi]
 have lens : ∀ (s t : List Int), s.length = t.length -> (aA s).length = (aA t).length := fun s t h => by simp [h]
 refine aD (fun hne => ?_) (fun hne => ?_)
 ·simp only [bne_iff_ne, ne_eq] at hne
  refine aD (fun hgt => ?_) (fun hgt => ?_)
  ·simp only [decide_eq_true_eq, gt_iff_lt] at hgt
   have w3 : i64.wrap (i - j) = i - j := aC (by omega) (by omega)
   rw [w3]
   obtain ⟨U1, U2, rfl, hU1⟩ : ∃ U1 U2, U = U1 ++ U2 /\ (U1.length : Int) = j := ⟨U.take j.toNat, U.drop j.toNat, by rw [List.take_append_drop], by rw [List.length_take]; omega⟩
   rw [List.length_append] at hU
   have := zV (T := T) lo hi nl P1 U1 U2 V R1 (m - i) m j (by omega) (by omega) hU1 hV (by omega) (by omega) hlen
   rw [show P1 ++ (U1 ++ U2 ++ (V ++ R1)) = P1 ++ (U1 ++ (U2 ++ (V ++ R1))) by simp]
   refine this.mono ?_
   rintro r h' ⟨rfl, rfl⟩
   refine ⟨_, ⟨rfl, rfl⟩, ⟨trivial, ⟨rfl, rfl, lens _ _ (by simp only [List.length_append]; omega)⟩, trivial⟩, rfl, ⟨by omega, by omega, by omega, P1 ++ V, U2, U1, R1, by simp, by rw [<- he]; simp, by omega, hU1, by rw [List.length_append]; omega, by rw [List.length_append]; omega, by omega⟩, by dsimp only; omega⟩
  ·simp only [decide_eq_true_eq, gt_iff_lt] at hgt
   have w3 : i64.wrap (j - i) = j - i := aC (by omega) (by omega)
   have w4 : i64.wrap (m + j) = m + j := aC (by omega) (by omega)
   have w5 : i64.wrap (m + j - i) = m + j - i := aC (by omega) (by omega)
   rw [w4, w5, w3]
   obtain ⟨V1, V2, rfl, hV1⟩ : ∃ V1 V2, V = V1 ++ V2 /\ (V1.length : Int) = j - i := ⟨V.take (j - i).toNat, V.drop (j - i).toNat, by rw [List.take_append_drop], by rw [List.length_take]; omega⟩
   rw [List.length_append] at hV
   have := zV (T := T) lo hi nl P1 U V1 V2 R1 (m - i) (m + j - i) i (by omega) (by omega) hU (by omega) (by omega) (by omega) hlen
   rw [show P1 ++ (U ++ (V1 ++ V2 ++ R1)) = P1 ++ (U ++ (V1 ++ (V2 ++ R1))) by simp]
   refine this.mono ?_
   rintro r h' ⟨rfl, rfl⟩
   refine ⟨_, ⟨rfl, rfl⟩, ⟨trivial, ⟨rfl, rfl, lens _ _ (by simp only [List.length_append]; omega)⟩, trivial⟩, rfl, ⟨by omega, by omega, by omega, P1, V2, V1, U ++ R1, by simp, by rw [<- he]; simp, by omega, hV1, by omega, by omega, by omega⟩, by dsimp only; omega⟩
 ·simp only [bne_iff_ne, ne_eq, Decidable.not_not] at hne
  have := zV (T := T) lo hi nl P1 U [] V R1 (m - i) m i (by omega) (by omega) hU (by omega) (by simp) (by omega) hlen
  refine ACall.mono (by simpa using this) ?_
  rintro r h' ⟨rfl, rfl⟩
  refine ⟨_, ⟨rfl, rfl⟩, ⟨trivial, ⟨rfl, rfl, lens _ _ (by simp only [List.length_append]; omega)⟩, trivial⟩, rfl, ?_⟩
  rw [<- he]
end
end Go.Eng



namespace Go.Eng.Srt
open Go Go.Eng
variable {key : Int -> Int}
theorem Srtd.get {l : List Int} (h : Srtd key l) {i j : Nat} (hij : i <= j) (hj : j < l.length) : key (l.getD i 0) <= key (l.getD j 0) := by
 have hi : i < l.length := by omega
 simp only [List.getD, List.getElem?_eq_getElem hi, List.getElem?_eq_getElem hj, Option.getD_some]
 rcases Nat.lt_or_ge i j with h1 | h1
 ·exact (List.pairwise_iff_getElem.1 h) i j hi hj h1
 ·have : i = j := by omega
  subst this; exact Int.le_refl _
theorem kY {l : List Int} {x : Int} (h : x ∈ l) : ∃ i, i < l.length /\ l.getD i 0 = x := by
 obtain ⟨i, hi, rfl⟩ := List.getElem_of_mem h
 exact ⟨i, hi, by simp [List.getD, hi]⟩
theorem qE {l : List Int} {i : Nat} (h : i < l.length) : l[i]? = some (l.getD i 0) := by simp [List.getD, h]
theorem Srtd.sub {l m : List Int} (h : Srtd key l) (hs : m.Sublist l) : Srtd key m := List.Pairwise.sublist hs h
theorem zhi {x : Int} {A B : List Int} (hs : Srtd key (A ++ B)) (h1 : ∀ y ∈ A, key y <= key x) (h2 : ∀ y ∈ B, key x <= key y) : Srtd key (A ++ x :: B) := by
 obtain ⟨s1, s2, s3⟩ := iM.1 hs
 refine iM.2 ⟨s1, List.pairwise_cons.2 ⟨h2, s2⟩, fun y hy z hz => ?_⟩
 rcases List.mem_cons.1 hz with rfl | hz
 ·exact h1 y hy
 ·exact s3 y hy z hz
theorem zrs {X1 X2 Y1 Y2 S1 S2 : List Int} (hX : Srtd key (X1 ++ X2)) (hY : Srtd key (Y1 ++ Y2)) (f1 : ∀ x ∈ X2, ∀ y ∈ Y1, key y < key x) (f2 : ∀ x ∈ X1, ∀ y ∈ Y2, key x <= key y)
 (h1 : Srtd key S1) (k1 : Stab key (X1 ++ Y1) S1) (h2 : Srtd key S2) (k2 : Stab key (X2 ++ Y2) S2) : Srtd key (S1 ++ S2) /\ Stab key ((X1 ++ X2) ++ (Y1 ++ Y2)) (S1 ++ S2) := by
 obtain ⟨_, _, x3⟩ := iM.1 hX
 obtain ⟨_, _, y3⟩ := iM.1 hY
 refine ⟨iM.2 ⟨h1, h2, fun x hx y hy => ?_⟩, ?_⟩
 ·rcases List.mem_append.1 (k1.mem.2 hx) with hx | hx <;> rcases List.mem_append.1 (k2.mem.2 hy) with hy | hy
  ·exact x3 x hx y hy
  ·exact f2 x hx y hy
  ·exact Int.le_of_lt (f1 y hy x hx)
  ·exact y3 x hx y hy
 ·refine Stab.trans ?_ (k1.app k2)
  have := Stab.rot1 (key := key) (u := X1) (v := Y2) (a := X2) (b := Y1) (fun x hx y hy => by have := f1 x hx y hy; omega)
  simpa using this
end Go.Eng.Srt



namespace Go.Eng
open Go Go.Proofs Go.Eng.Rows Go.Eng.Srt
def jB (key : Int -> Int) (nl : Bool) (T : PV) (P S R : List Int) (r : LV) (h' : Hp) : Prop := ∃ S' : List Int, r = .tup [] /\ h' = [.sl (21, 1) false nl (aA (P ++ (S' ++ R))), .box [.pv T]] /\ Srtd key S' /\ Stab key S S'
section
variable {key : Int -> Int} {T : PV}
theorem qF {i j : Int} (h0 : 0 <= i) (h1 : i <= j) (h2 : j <= 1000000000000) : i64.wrap ((IntKind.u64.wrap (i64.wrap (i + j))).fdiv (2 ^ 1)) = (i + j) / 2 := zfs h0 h1 (by omega)
theorem zrt (hc : jA T key) (lo hi : Nat) (nl : Bool) (P Y R : List Int) (x : Int) (a m b : Int) (ha : 0 <= a) (hP : P.length = lo + a.toNat) (hm : m = a + 1) (hb : b = m + Y.length) (hhi : (lo : Int) + b <= hi) (hr : R32 (P ++ ([x] ++ (Y ++ R)))) (hlen : hi < 1000000000000) (hY : Srtd key Y) :
 ACall Tryz.prog 175 [.sub 0 lo hi, .pv (.int .i64 a), .pv (.int .i64 m), .pv (.int .i64 b), .fn 145 [.box 1 0]] [.sl (21, 1) false nl (aA (P ++ ([x] ++ (Y ++ R)))), .box [.pv T]] (jB key nl T P ([x] ++ Y) R) := by
 have hat : ∀ h : Int, m <= h -> h < b -> (P ++ ([x] ++ (Y ++ R)))[lo + h.toNat]? = some (Y.getD (h - m).toNat 0) := fun h h1 h2 => by
  have e : P ++ ([x] ++ (Y ++ R)) = (P ++ [x]) ++ (Y ++ R) := by simp
  rw [e, List.getElem?_append_right (by simp; omega), show lo + h.toNat - (P ++ [x]).length = (h - m).toNat by simp; omega, List.getElem?_append_left (by omega)]
  exact qE (by omega)
 have hax : (P ++ ([x] ++ (Y ++ R)))[lo + a.toNat]? = some x := by rw [<- hP]; exact nM P (Y ++ R) x
 refine wV _ _ _ _ _ _ _ _
  (fun i j s => s = aA (P ++ ([x] ++ (Y ++ R))) /\ m <= i /\ i <= j /\ j <= b /\ (∀ h, m <= h -> h < i -> key (Y.getD (h - m).toNat 0) < key x) /\ (∀ h, j <= h -> h < b -> ¬ key (Y.getD (h - m).toNat 0) < key x)) (fun i j _ => (j - i).toNat)
  (fun i k s => m <= i /\ i <= b /\ (∀ h, m <= h -> h < i -> key (Y.getD (h - m).toNat 0) < key x) /\ (∀ h, i <= h -> h < b -> ¬ key (Y.getD (h - m).toNat 0) < key x) /\ a <= k /\ k <= i - 1 /\ s = aA (P ++ (Y.take (k - a).toNat ++ (x :: (Y.drop (k - a).toNat ++ R))))) (fun i k _ => (i - 1 - k).toNat)
  (fun _ _ _ => True) (fun _ _ _ => 0) (fun _ _ _ => True) (fun _ _ _ => 0) (fun _ _ _ => True) (fun _ _ _ => 0) ?_
 unfold sU
 have w1 : i64.wrap (m - a) = 1 := by rw [aC (by omega) (by omega)]; omega
 refine bG (by rw [w1]; rfl) ⟨⟨rfl, rfl, Int.le_refl _, by omega, Int.le_refl _, fun h h1 h2 => by omega, fun h h1 h2 => by omega⟩, ?_⟩
 rintro i j _ ⟨rfl, i0, hij, hjb, hlt, hge⟩
 refine aD (fun hc1 => ?_) (fun hc1 => ?_)
 ·simp only [decide_eq_true_eq] at hc1
  rw [qF (by omega) (by omega) (by omega)]
  obtain ⟨h, hh⟩ : ∃ h, h = (i + j) / 2 := ⟨_, rfl⟩
  rw [<- hh]
  have b1 : i <= h /\ h < j := by omega
  have gy := hat h (by omega) (by omega)
  have wh : i64.wrap (h + 1) = h + 1 := aC (by omega) (by omega)
  rw [wh]
  refine ⟨⟨by omega, by omega, by rw [c7 gy]; rfl⟩, _, by rw [c7 gy]; rfl, ⟨by omega, by omega, by rw [c7 hax]; rfl⟩, x, by rw [c7 hax]; rfl, ?_⟩
  refine (hc _ x (kX hr gy) (kX hr hax)).mono ?_
  rintro _ ⟨n2, rfl, hn2⟩
  refine ⟨n2, rfl, rfl, aD (fun hl => ?_) (fun hl => ?_)⟩
  ·simp only [decide_eq_true_eq] at hl
   have hk := hn2.1 hl
   refine ⟨rfl, ⟨rfl, by omega, by omega, by omega, fun q q1 q2 => ?_, hge⟩, by dsimp only; omega⟩
   have := hY.get (i := (q - m).toNat) (j := (h - m).toNat) (by omega) (by omega)
   omega
  ·simp only [decide_eq_true_eq] at hl
   have hk : ¬ key (Y.getD (h - m).toNat 0) < key x := fun h => hl (hn2.2 h)
   refine ⟨rfl, ⟨rfl, by omega, by omega, by omega, hlt, fun q q1 q2 => ?_⟩, by dsimp only; omega⟩
   have := hY.get (i := (h - m).toNat) (j := (q - m).toNat) (by omega) (by omega)
   omega
 ·simp only [decide_eq_true_eq] at hc1
  have : i = j := by omega
  subst this
  refine ⟨⟨rfl, i0, hjb, hlt, hge, Int.le_refl _, by omega, by simp⟩, ?_⟩
  clear hc1 hij hjb hlt hge i0
  rintro i k _ ⟨i0, ib, hlt, hge, k0, k1, rfl⟩
  have wi : i64.wrap (i - 1) = i - 1 := aC (by omega) (by omega)
  rw [wi]
  refine aD (fun hc2 => ?_) (fun hc2 => ?_)
  ·simp only [decide_eq_true_eq] at hc2
   have wk : i64.wrap (k + 1) = k + 1 := aC (by omega) (by omega)
   rw [wk]
   have hlk : (k - a).toNat < Y.length := by omega
   have hn : (k + 1 - a).toNat = (k - a).toNat + 1 := by omega
   have dy : Y.drop (k - a).toNat = Y[(k - a).toNat] :: Y.drop ((k - a).toNat + 1) := List.drop_eq_getElem_cons hlk
   have ty : Y.take ((k - a).toNat + 1) = Y.take (k - a).toNat ++ [Y[(k - a).toNat]] := cG hlk
   have lt : (Y.take (k - a).toNat).length = (k - a).toNat := by rw [List.length_take]; omega
   obtain ⟨D, hDe⟩ : ∃ D, D = P ++ (Y.take (k - a).toNat ++ (x :: (Y.drop (k - a).toNat ++ R))) := ⟨_, rfl⟩
   have hRD : R32 D := fun y hy => hr y (by
    rw [hDe] at hy
    simp only [List.mem_append, List.mem_cons] at hy ⊢
    rcases hy with hy | hy | hy | hy | hy
    ·exact .inl hy
    ·exact .inr (.inr (.inl (List.mem_of_mem_take hy)))
    ·exact .inr (.inl (by simp [hy]))
    ·exact .inr (.inr (.inl (List.mem_of_mem_drop hy)))
    ·exact .inr (.inr (.inr hy)))
   rw [<- hDe]
   have hD : D = (P ++ Y.take (k - a).toNat) ++ x :: Y[(k - a).toNat] :: (Y.drop ((k - a).toNat + 1) ++ R) := by rw [hDe, dy]; simp only [List.append_assoc, List.cons_append, List.nil_append]
   have hk0 : lo + k.toNat = (P ++ Y.take (k - a).toNat).length := by rw [List.length_append, lt]; omega
   have hk1 : lo + (k + 1).toNat = (P ++ Y.take (k - a).toNat).length + 1 := by rw [List.length_append, lt]; omega
   have gx : D[lo + k.toNat]? = some x := by rw [hD, hk0, nM]
   have gy : D[lo + (k + 1).toNat]? = some Y[(k - a).toNat] := by rw [hD, hk1, List.getElem?_append_right (by omega)]; simp
   have hsw : (D.set (lo + k.toNat) Y[(k - a).toNat]).set (lo + (k + 1).toNat) x = P ++ (Y.take (k + 1 - a).toNat ++ (x :: (Y.drop (k + 1 - a).toNat ++ R))) := by
    rw [hD, hk0, hk1, zrp, hn, ty]; simp only [List.append_assoc, List.cons_append, List.nil_append]
   obtain ⟨t1, t2, t3, t4⟩ := tJ D gx gy (by omega) Y[(k - a).toNat] x
   rw [hsw] at t1
   have hla : 1 <= ((aA D).getD (lo + k.toNat) []).length := by rw [t2]; exact Nat.le_refl _
   refine ⟨⟨by omega, by omega, t3⟩, Y[(k - a).toNat], by rw [c7 gy]; rfl, ⟨by omega, by omega, t2⟩, x, by rw [c7 gx]; rfl, ⟨by omega, by omega, t2⟩, ?_⟩
   refine ⟨?_, ?_⟩
   all_goals exact ⟨⟨rfl, hla⟩, ⟨by omega, by omega, t4⟩, ⟨rfl, by rw [t4]; exact Nat.le_refl _⟩, rfl, ⟨i0, ib, hlt, hge, by omega, by omega, t1⟩, by dsimp only; omega⟩
  ·simp only [decide_eq_true_eq] at hc2
   have hk : (k - a).toNat = (i - m).toNat := by omega
   rw [hk]
   have h1 : ∀ y ∈ Y.take (i - m).toNat, key y < key x := fun y hy => by
    obtain ⟨q, hq, rfl⟩ := kY hy
    rw [List.length_take] at hq
    have e : (Y.take (i - m).toNat).getD q 0 = Y.getD q 0 := by simp only [List.getD]; rw [List.getElem?_take_of_lt (by omega)]
    rw [e]
    have := hlt (m + q) (by omega) (by omega)
    rwa [show (m + (q : Int) - m).toNat = q by omega] at this
   have h2 : ∀ y ∈ Y.drop (i - m).toNat, key x <= key y := fun y hy => by
    obtain ⟨q, hq, rfl⟩ := kY hy
    rw [List.length_drop] at hq
    have e : (Y.drop (i - m).toNat).getD q 0 = Y.getD ((i - m).toNat + q) 0 := by simp only [List.getD, List.getElem?_drop]
    rw [e]
    have := hge (i + q) (by omega) (by omega)
    rw [show (i + (q : Int) - m).toNat = (i - m).toNat + q by omega] at this
    omega
   have hYs : Srtd key (Y.take (i - m).toNat ++ Y.drop (i - m).toNat) := by rw [List.take_append_drop]; exact hY
   refine ⟨Y.take (i - m).toNat ++ x :: Y.drop (i - m).toNat, rfl, by simp, zhi hYs (fun y hy => Int.le_of_lt (h1 y hy)) h2, ?_⟩
   have := Stab.rot1 (key := key) (u := []) (v := Y.drop (i - m).toNat) (a := [x]) (b := Y.take (i - m).toNat) (fun p hp q hq => by simp at hp; subst hp; have := h1 q hq; omega)
   simpa using this
end
end Go.Eng



namespace Go.Eng
open Go Go.Proofs Go.Eng.Rows Go.Eng.Srt
section
variable {key : Int -> Int} {T : PV}
theorem zru (hc : jA T key) (lo hi : Nat) (nl : Bool) (P X R : List Int) (y : Int) (a m b : Int) (ha : 0 <= a) (hP : P.length = lo + a.toNat) (hm : m = a + X.length) (hX1 : X.length ≠ 1) (hb : b = m + 1) (hhi : (lo : Int) + b <= hi) (hr : R32 (P ++ (X ++ ([y] ++ R)))) (hlen : hi < 1000000000000) (hX : Srtd key X) :
 ACall Tryz.prog 175 [.sub 0 lo hi, .pv (.int .i64 a), .pv (.int .i64 m), .pv (.int .i64 b), .fn 145 [.box 1 0]] [.sl (21, 1) false nl (aA (P ++ (X ++ ([y] ++ R)))), .box [.pv T]] (jB key nl T P (X ++ [y]) R) := by
 have hat : ∀ h : Int, a <= h -> h < m -> (P ++ (X ++ ([y] ++ R)))[lo + h.toNat]? = some (X.getD (h - a).toNat 0) := fun h h1 h2 => by
  rw [List.getElem?_append_right (by omega), show lo + h.toNat - P.length = (h - a).toNat by omega, List.getElem?_append_left (by omega)]
  exact qE (by omega)
 have hay : (P ++ (X ++ ([y] ++ R)))[lo + m.toNat]? = some y := by
  have e : P ++ (X ++ ([y] ++ R)) = (P ++ X) ++ y :: R := by simp
  rw [e, show lo + m.toNat = (P ++ X).length by simp; omega, nM]
 refine wV _ _ _ _ _ _ _ _
  (fun _ _ _ => True) (fun _ _ _ => 0) (fun _ _ _ => True) (fun _ _ _ => 0)
  (fun i j s => s = aA (P ++ (X ++ ([y] ++ R))) /\ a <= i /\ i <= j /\ j <= m /\ (∀ h, a <= h -> h < i -> ¬ key y < key (X.getD (h - a).toNat 0)) /\ (∀ h, j <= h -> h < m -> key y < key (X.getD (h - a).toNat 0))) (fun i j _ => (j - i).toNat)
  (fun i k s => a <= i /\ i <= m /\ (∀ h, a <= h -> h < i -> ¬ key y < key (X.getD (h - a).toNat 0)) /\ (∀ h, i <= h -> h < m -> key y < key (X.getD (h - a).toNat 0)) /\ i <= k /\ k <= m /\ s = aA (P ++ (X.take (k - a).toNat ++ (y :: (X.drop (k - a).toNat ++ R))))) (fun i k _ => (k - i).toNat)
  (fun _ _ _ => True) (fun _ _ _ => 0) ?_
 unfold sU
 have w1 : i64.wrap (m - a) = X.length := by rw [aC (by omega) (by omega)]; omega
 have w2 : i64.wrap (b - m) = 1 := by rw [aC (by omega) (by omega)]; omega
 refine bK (by rw [w1]; simp; omega) (bG (by rw [w2]; rfl) ⟨⟨rfl, rfl, Int.le_refl _, by omega, Int.le_refl _, fun h h1 h2 => by omega, fun h h1 h2 => by omega⟩, ?_⟩)
 rintro i j _ ⟨rfl, i0, hij, hjb, hlt, hge⟩
 refine aD (fun hc1 => ?_) (fun hc1 => ?_)
 ·simp only [decide_eq_true_eq] at hc1
  rw [qF (by omega) (by omega) (by omega)]
  obtain ⟨h, hh⟩ : ∃ h, h = (i + j) / 2 := ⟨_, rfl⟩
  rw [<- hh]
  have b1 : i <= h /\ h < j := by omega
  have gx := hat h (by omega) (by omega)
  have wh : i64.wrap (h + 1) = h + 1 := aC (by omega) (by omega)
  rw [wh]
  refine ⟨⟨by omega, by omega, by rw [c7 hay]; rfl⟩, y, by rw [c7 hay]; rfl, ⟨by omega, by omega, by rw [c7 gx]; rfl⟩, _, by rw [c7 gx]; rfl, ?_⟩
  refine (hc y _ (kX hr hay) (kX hr gx)).mono ?_
  rintro _ ⟨n2, rfl, hn2⟩
  refine ⟨n2, rfl, rfl, aD (fun hl => ?_) (fun hl => ?_)⟩
  ·simp only [Bool.not_eq_true', decide_eq_false_iff_not] at hl
   have hk : ¬ key y < key (X.getD (h - a).toNat 0) := fun h => hl (hn2.2 h)
   refine ⟨rfl, ⟨rfl, by omega, by omega, by omega, fun q q1 q2 => ?_, hge⟩, by dsimp only; omega⟩
   have := hX.get (i := (q - a).toNat) (j := (h - a).toNat) (by omega) (by omega)
   omega
  ·simp only [Bool.not_eq_true', decide_eq_false_iff_not, Decidable.not_not] at hl
   have hk := hn2.1 hl
   refine ⟨rfl, ⟨rfl, by omega, by omega, by omega, hlt, fun q q1 q2 => ?_⟩, by dsimp only; omega⟩
   have := hX.get (i := (h - a).toNat) (j := (q - a).toNat) (by omega) (by omega)
   omega
 ·simp only [decide_eq_true_eq] at hc1
  have : i = j := by omega
  subst this
  have hml : (m - a).toNat = X.length := by omega
  refine ⟨⟨rfl, i0, hjb, hlt, hge, by omega, Int.le_refl _, by rw [hml]; simp⟩, ?_⟩
  clear hc1 hij hjb hlt hge i0
  rintro i k _ ⟨i0, ib, hlt, hge, k0, k1, rfl⟩
  refine aD (fun hc2 => ?_) (fun hc2 => ?_)
  ·simp only [decide_eq_true_eq, gt_iff_lt] at hc2
   have wk : i64.wrap (k - 1) = k - 1 := aC (by omega) (by omega)
   rw [wk]
   have hlk : (k - 1 - a).toNat < X.length := by omega
   have hn : (k - a).toNat = (k - 1 - a).toNat + 1 := by omega
   have dx : X.drop (k - 1 - a).toNat = X[(k - 1 - a).toNat] :: X.drop ((k - 1 - a).toNat + 1) := List.drop_eq_getElem_cons hlk
   have tx : X.take ((k - 1 - a).toNat + 1) = X.take (k - 1 - a).toNat ++ [X[(k - 1 - a).toNat]] := cG hlk
   have lt : (X.take (k - 1 - a).toNat).length = (k - 1 - a).toNat := by rw [List.length_take]; omega
   obtain ⟨D, hDe⟩ : ∃ D, D = P ++ (X.take (k - a).toNat ++ (y :: (X.drop (k - a).toNat ++ R))) := ⟨_, rfl⟩
   have hRD : R32 D := fun z hz => hr z (by
    rw [hDe] at hz
    simp only [List.mem_append, List.mem_cons] at hz ⊢
    rcases hz with hz | hz | hz | hz | hz
    ·exact .inl hz
    ·exact .inr (.inl (List.mem_of_mem_take hz))
    ·exact .inr (.inr (.inl (by simp [hz])))
    ·exact .inr (.inl (List.mem_of_mem_drop hz))
    ·exact .inr (.inr (.inr hz)))
   rw [<- hDe]
   have hD : D = (P ++ X.take (k - 1 - a).toNat) ++ X[(k - 1 - a).toNat] :: y :: (X.drop ((k - 1 - a).toNat + 1) ++ R) := by rw [hDe, hn, tx]; simp only [List.append_assoc, List.cons_append, List.nil_append]
   have hk0 : lo + (k - 1).toNat = (P ++ X.take (k - 1 - a).toNat).length := by rw [List.length_append, lt]; omega
   have hk1 : lo + k.toNat = (P ++ X.take (k - 1 - a).toNat).length + 1 := by rw [List.length_append, lt]; omega
   have gx : D[lo + (k - 1).toNat]? = some X[(k - 1 - a).toNat] := by rw [hD, hk0, nM]
   have gy : D[lo + k.toNat]? = some y := by rw [hD, hk1, List.getElem?_append_right (by omega)]; simp
   have hsw : (D.set (lo + k.toNat) X[(k - 1 - a).toNat]).set (lo + (k - 1).toNat) y = P ++ (X.take (k - 1 - a).toNat ++ (y :: (X.drop (k - 1 - a).toNat ++ R))) := by
    rw [hD, hk0, hk1, zhf, dx]; simp only [List.append_assoc, List.cons_append, List.nil_append]
   obtain ⟨t1, t2, t3, t4⟩ := tJ D gy gx (by omega) X[(k - 1 - a).toNat] y
   rw [hsw] at t1
   have hla : 1 <= ((aA D).getD (lo + k.toNat) []).length := by rw [t2]; exact Nat.le_refl _
   refine ⟨⟨by omega, by omega, t3⟩, X[(k - 1 - a).toNat], by rw [c7 gx]; rfl, ⟨by omega, by omega, t2⟩, y, by rw [c7 gy]; rfl, ⟨by omega, by omega, t2⟩, ?_⟩
   refine ⟨?_, ?_⟩
   all_goals exact ⟨⟨rfl, hla⟩, ⟨by omega, by omega, t4⟩, ⟨rfl, by rw [t4]; exact Nat.le_refl _⟩, rfl, ⟨i0, ib, hlt, hge, by omega, by omega, t1⟩, by dsimp only; omega⟩
  ·simp only [decide_eq_true_eq, gt_iff_lt] at hc2
   have hk : k = i := by omega
   subst hk
   have h1 : ∀ z ∈ X.take (k - a).toNat, key z <= key y := fun z hz => by
    obtain ⟨q, hq, rfl⟩ := kY hz
    rw [List.length_take] at hq
    have e : (X.take (k - a).toNat).getD q 0 = X.getD q 0 := by simp only [List.getD]; rw [List.getElem?_take_of_lt (by omega)]
    rw [e]
    have := hlt (a + q) (by omega) (by omega)
    rw [show (a + (q : Int) - a).toNat = q by omega] at this
    omega
   have h2 : ∀ z ∈ X.drop (k - a).toNat, key y < key z := fun z hz => by
    obtain ⟨q, hq, rfl⟩ := kY hz
    rw [List.length_drop] at hq
    have e : (X.drop (k - a).toNat).getD q 0 = X.getD ((k - a).toNat + q) 0 := by simp only [List.getD, List.getElem?_drop]
    rw [e]
    have := hge (k + q) (by omega) (by omega)
    rwa [show (k + (q : Int) - a).toNat = (k - a).toNat + q by omega] at this
   have hXs : Srtd key (X.take (k - a).toNat ++ X.drop (k - a).toNat) := by rw [List.take_append_drop]; exact hX
   refine ⟨X.take (k - a).toNat ++ y :: X.drop (k - a).toNat, rfl, by simp, zhi hXs h1 (fun z hz => Int.le_of_lt (h2 z hz)), ?_⟩
   have := Stab.rot1 (key := key) (u := X.take (k - a).toNat) (v := []) (a := X.drop (k - a).toNat) (b := [y]) (fun p hp q hq => by simp at hq; subst hq; have := h2 p hp; omega)
   rw [<- List.append_assoc, List.take_append_drop] at this
   simpa using this
end
end Go.Eng



namespace Go.Eng
open Go Go.Proofs Go.Eng.Rows Go.Eng.Srt
section
variable {key : Int -> Int} {T : PV} (lo hi : Nat) (nl : Bool)
abbrev jC (nl : Bool) (T : PV) (t : List (List PV)) : Hp := [.sl (21, 1) false nl t, .box [.pv T]]
abbrev zW (nl : Bool) (T : PV) (t : List (List PV)) (K : List (List PV) -> Prop) : LV -> Hp -> Prop := fun r h' => ∃ t1, (r = .tup [] /\ h' = jC nl T t1) /\ (True /\ ((21, 1) = (21, 1) /\ nl = nl /\ t.length = t1.length) /\ True) /\ K t1
def tK (T : PV) (mid e b : Int) (Q : LV -> Hp -> Prop) (t : List (List PV)) : Prop :=
 if (decide (mid < e) && decide (e < b)) = true then ACall Tryz.prog 175 [.sub 0 lo hi, .pv (.int .i64 mid), .pv (.int .i64 e), .pv (.int .i64 b), .fn 145 [.box 1 0]] (jC nl T t) (zW nl T t fun t1 => Q (.tup []) (jC nl T t1)) else Q (.tup []) (jC nl T t)
def tL (T : PV) (a s mid e b : Int) (Q : LV -> Hp -> Prop) (t : List (List PV)) : Prop :=
 if (decide (a < s) && decide (s < mid)) = true then ACall Tryz.prog 175 [.sub 0 lo hi, .pv (.int .i64 a), .pv (.int .i64 s), .pv (.int .i64 mid), .fn 145 [.box 1 0]] (jC nl T t) (zW nl T t (tK lo hi nl T mid e b Q)) else tK lo hi nl T mid e b Q t
def zX (T : PV) (a s m mid e b : Int) (Q : LV -> Hp -> Prop) (t : List (List PV)) : Prop :=
 if (decide (s < m) && decide (m < e)) = true then ACall Tryz.prog 177 [.sub 0 lo hi, .pv (.int .i64 s), .pv (.int .i64 m), .pv (.int .i64 e), .fn 145 [.box 1 0]] (jC nl T t) (zW nl T t (tL lo hi nl T a s mid e b Q)) else tL lo hi nl T a s mid e b Q t
theorem R32.of {l m : List Int} (h : R32 l) (hm : ∀ x ∈ m, x ∈ l) : R32 m := fun x hx => h x (hm x hx)
def zhj (T : PV) (key : Int -> Int) (N : Int) : Prop := ∀ (P X Y R : List Int) (a m b : Int), 0 <= a -> P.length = lo + a.toNat -> m = a + X.length -> b = m + Y.length -> X ≠ [] -> Y ≠ [] -> (lo : Int) + b <= hi -> R32 (P ++ (X ++ (Y ++ R))) -> Srtd key X -> Srtd key Y -> b - a < N ->
 ACall Tryz.prog 175 [.sub 0 lo hi, .pv (.int .i64 a), .pv (.int .i64 m), .pv (.int .i64 b), .fn 145 [.box 1 0]] (jC nl T (aA (P ++ (X ++ (Y ++ R))))) (jB key nl T P (X ++ Y) R)
theorem zrv {N : Int} (ih : zhj lo hi nl T key N) (hlen : hi < 1000000000000) (P X1 X2 Y1 Y2 R : List Int) (a s m mid e b : Int) (ha : 0 <= a) (hP : P.length = lo + a.toNat) (h1 : s = a + X1.length) (h2 : m = s + X2.length) (h3 : e = m + Y1.length) (h4 : b = e + Y2.length) (h5 : mid = s + Y1.length)
 (hhi : (lo : Int) + b <= hi) (hr : R32 (P ++ (X1 ++ (X2 ++ (Y1 ++ (Y2 ++ R)))))) (hX : Srtd key (X1 ++ X2)) (hY : Srtd key (Y1 ++ Y2)) (f1 : ∀ x ∈ X2, ∀ y ∈ Y1, key y < key x) (f2 : ∀ x ∈ X1, ∀ y ∈ Y2, key x <= key y) (n1 : mid - a < N) (n2 : b - mid < N) :
 zX lo hi nl T a s m mid e b (jB key nl T P ((X1 ++ X2) ++ (Y1 ++ Y2)) R) (aA (P ++ (X1 ++ (X2 ++ (Y1 ++ (Y2 ++ R)))))) := by
 have hl1 : ∀ {u v : List Int}, u.length = v.length -> (aA u).length = (aA v).length := fun h => by simp [h]
 obtain ⟨x1, x2, x3⟩ := iM.1 hX
 obtain ⟨y1, y2, y3⟩ := iM.1 hY
 have t3 : ∀ S1 : List Int, Srtd key S1 -> Stab key (X1 ++ Y1) S1 -> tK lo hi nl T mid e b (jB key nl T P ((X1 ++ X2) ++ (Y1 ++ Y2)) R) (aA (P ++ (S1 ++ (X2 ++ (Y2 ++ R))))) := fun S1 s1 k1 => by
  have kl := k1.len
  rw [List.length_append] at kl
  have fin : ∀ S2 : List Int, Srtd key S2 -> Stab key (X2 ++ Y2) S2 -> jB key nl T P ((X1 ++ X2) ++ (Y1 ++ Y2)) R (.tup []) (jC nl T (aA (P ++ (S1 ++ (S2 ++ R))))) := fun S2 s2 k2 => by
   obtain ⟨c1, c2⟩ := zrs hX hY f1 f2 s1 k1 s2 k2
   exact ⟨S1 ++ S2, rfl, by simp, c1, c2⟩
  unfold tK
  refine aD (fun hc => ?_) (fun hc => ?_)
  ·simp only [Bool.and_eq_true, decide_eq_true_eq] at hc
   have nx : X2 ≠ [] := fun h => by subst h; simp at h2; omega
   have ny : Y2 ≠ [] := fun h => by subst h; simp at h4; omega
   have := ih (P ++ S1) X2 Y2 R mid e b (by omega) (by rw [List.length_append]; omega) (by omega) h4 nx ny hhi (hr.of fun x hx => by
    simp only [List.mem_append] at hx ⊢
    rcases hx with (hx | hx) | hx | hx | hx
    ·exact .inl hx
    ·rcases List.mem_append.1 (k1.mem.2 hx) with hx | hx
     ·exact .inr (.inl hx)
     ·exact .inr (.inr (.inr (.inl hx)))
    ·exact .inr (.inr (.inl hx))
    ·exact .inr (.inr (.inr (.inr (.inl hx))))
    ·exact .inr (.inr (.inr (.inr (.inr hx))))) x2 y2 n2
   rw [show P ++ (S1 ++ (X2 ++ (Y2 ++ R))) = (P ++ S1) ++ (X2 ++ (Y2 ++ R)) by simp]
   refine this.mono ?_
   rintro r h' ⟨S2, rfl, rfl, s2, k2⟩
   refine ⟨_, ⟨rfl, rfl⟩, ⟨trivial, ⟨rfl, rfl, hl1 ?_⟩, trivial⟩, ?_⟩
   ·have := k2.len
    simp only [List.length_append] at this ⊢; omega
   ·have := fin S2 s2 k2
    rw [<- List.append_assoc P] at this
    exact this
  ·simp only [Bool.and_eq_true, decide_eq_true_eq] at hc
   have hz : X2 = [] ∨ Y2 = [] := by
    rcases Nat.eq_zero_or_pos X2.length with h | h
    ·exact .inl (List.length_eq_zero_iff.1 h)
    ·exact .inr (List.length_eq_zero_iff.1 (by omega))
   have s2 : Srtd key (X2 ++ Y2) := by
    rcases hz with h | h
    ·subst h; exact y2
    ·subst h; simpa using x2
   have := fin (X2 ++ Y2) s2 (.refl _)
   rw [List.append_assoc X2 Y2] at this
   exact this
 have t2 : tL lo hi nl T a s mid e b (jB key nl T P ((X1 ++ X2) ++ (Y1 ++ Y2)) R) (aA (P ++ (X1 ++ (Y1 ++ (X2 ++ (Y2 ++ R)))))) := by
  unfold tL
  refine aD (fun hc => ?_) (fun hc => ?_)
  ·simp only [Bool.and_eq_true, decide_eq_true_eq] at hc
   have nx : X1 ≠ [] := fun h => by subst h; simp at h1; omega
   have ny : Y1 ≠ [] := fun h => by subst h; simp at h5; omega
   refine (ih P X1 Y1 (X2 ++ (Y2 ++ R)) a s mid ha hP h1 h5 nx ny (by omega) (hr.of fun x hx => by
    simp only [List.mem_append] at hx ⊢
    rcases hx with hx | hx | hx | hx | hx | hx
    ·exact .inl hx
    ·exact .inr (.inl hx)
    ·exact .inr (.inr (.inr (.inl hx)))
    ·exact .inr (.inr (.inl hx))
    ·exact .inr (.inr (.inr (.inr (.inl hx))))
    ·exact .inr (.inr (.inr (.inr (.inr hx))))) x1 y1 n1).mono ?_
   rintro r h' ⟨S1, rfl, rfl, s1, k1⟩
   refine ⟨_, ⟨rfl, rfl⟩, ⟨trivial, ⟨rfl, rfl, hl1 ?_⟩, trivial⟩, t3 S1 s1 k1⟩
   have := k1.len
   simp only [List.length_append] at this ⊢; omega
  ·simp only [Bool.and_eq_true, decide_eq_true_eq] at hc
   have hz : X1 = [] ∨ Y1 = [] := by
    rcases Nat.eq_zero_or_pos X1.length with h | h
    ·exact .inl (List.length_eq_zero_iff.1 h)
    ·exact .inr (List.length_eq_zero_iff.1 (by omega))
   have s2 : Srtd key (X1 ++ Y1) := by
    rcases hz with h | h
    ·subst h; exact y1
    ·subst h; simpa using x1
   have := t3 (X1 ++ Y1) s2 (.refl _)
   rw [List.append_assoc X1 Y1] at this
   exact this
 unfold zX
 refine aD (fun hc => ?_) (fun hc => ?_)
 ·simp only [Bool.and_eq_true, decide_eq_true_eq] at hc
  have nx : X2 ≠ [] := fun h => by subst h; simp at h2; omega
  have ny : Y1 ≠ [] := fun h => by subst h; simp at h3; omega
  have := zrr (T := T) lo hi nl (P ++ X1) X2 Y1 (Y2 ++ R) s m e (by omega) (by rw [List.length_append]; omega) h2 h3 nx ny (by omega) hlen
  rw [show P ++ (X1 ++ (X2 ++ (Y1 ++ (Y2 ++ R)))) = (P ++ X1) ++ (X2 ++ (Y1 ++ (Y2 ++ R))) by simp]
  refine this.mono ?_
  rintro r h' ⟨rfl, rfl⟩
  refine ⟨_, ⟨rfl, rfl⟩, ⟨trivial, ⟨rfl, rfl, hl1 ?_⟩, trivial⟩, ?_⟩
  ·simp only [List.length_append]; omega
  ·rw [List.append_assoc P]; exact t2
 ·simp only [Bool.and_eq_true, decide_eq_true_eq] at hc
  have hz : X2 = [] ∨ Y1 = [] := by
   rcases Nat.eq_zero_or_pos X2.length with h | h
   ·exact .inl (List.length_eq_zero_iff.1 h)
   ·exact .inr (List.length_eq_zero_iff.1 (by omega))
  have e : P ++ (X1 ++ (X2 ++ (Y1 ++ (Y2 ++ R)))) = P ++ (X1 ++ (Y1 ++ (X2 ++ (Y2 ++ R)))) := by
   rcases hz with h | h <;> subst h <;> simp
  rw [e]; exact t2
end
end Go.Eng



namespace Go.Eng
open Go Go.Proofs Go.Eng.Rows Go.Eng.Srt
section
variable {key : Int -> Int} {T : PV}
theorem zhk (hc : jA T key) (lo hi : Nat) (nl : Bool) (hlen : hi < 1000000000000) : ∀ N : Nat, zhj lo hi nl T key N := by
 intro N
 induction N with
 | zero =>
   intro P X Y R a m b ha hP hm hb hx hy hhi hr hX hY hN
   omega
 | succ N ih =>
   intro P X Y R a m b ha hP hm hb hx hy hhi hr hX hY hN
   have hxl := List.length_pos_iff.2 hx
   have hyl := List.length_pos_iff.2 hy
   by_cases hx1 : X.length = 1
   ·obtain ⟨x, rfl⟩ := List.length_eq_one_iff.1 hx1
    exact zrt hc lo hi nl P Y R x a m b ha hP (by simpa using hm) hb hhi hr hlen hY
   by_cases hy1 : Y.length = 1
   ·obtain ⟨y, rfl⟩ := List.length_eq_one_iff.1 hy1
    exact zru hc lo hi nl P X R y a m b ha hP hm hx1 (by simpa using hb) hhi hr hlen hX
   obtain ⟨mid, hmid⟩ : ∃ mid, mid = (a + b) / 2 := ⟨_, rfl⟩
   have hat : ∀ h : Int, a <= h -> h < m -> (P ++ (X ++ (Y ++ R)))[lo + h.toNat]? = some (X.getD (h - a).toNat 0) := fun h h1 h2 => by
    rw [List.getElem?_append_right (by omega), show lo + h.toNat - P.length = (h - a).toNat by omega, List.getElem?_append_left (by omega)]
    exact qE (by omega)
   have hbt : ∀ h : Int, m <= h -> h < b -> (P ++ (X ++ (Y ++ R)))[lo + h.toNat]? = some (Y.getD (h - m).toNat 0) := fun h h1 h2 => by
    rw [<- List.append_assoc, List.getElem?_append_right (by rw [List.length_append]; omega), show lo + h.toNat - (P ++ X).length = (h - m).toNat by rw [List.length_append]; omega, List.getElem?_append_left (by omega)]
    exact qE (by omega)
   obtain ⟨s0, hs0⟩ : ∃ s0, s0 = if m > mid then mid + m - b else a := ⟨_, rfl⟩
   obtain ⟨r0, hr0⟩ : ∃ r0, r0 = if m > mid then mid else m := ⟨_, rfl⟩
   have rng : a <= s0 /\ s0 <= r0 /\ r0 <= m /\ mid + m - s0 <= b /\ m <= mid + m - r0 := by
    rw [hs0, hr0]; split <;> omega
   refine wV _ _ _ _ _ _ _ _
    (fun _ _ _ => True) (fun _ _ _ => 0) (fun _ _ _ => True) (fun _ _ _ => 0) (fun _ _ _ => True) (fun _ _ _ => 0) (fun _ _ _ => True) (fun _ _ _ => 0)
    (fun i j s => s = aA (P ++ (X ++ (Y ++ R))) /\ s0 <= i /\ i <= j /\ j <= r0 /\ (∀ c, s0 <= c -> c < i -> ¬ key (Y.getD (mid - 1 - c).toNat 0) < key (X.getD (c - a).toNat 0)) /\ (∀ c, j <= c -> c < r0 -> key (Y.getD (mid - 1 - c).toNat 0) < key (X.getD (c - a).toNat 0))) (fun i j _ => (j - i).toNat) ?_
   unfold sU
   have w1 : i64.wrap (m - a) = X.length := by rw [aC (by omega) (by omega)]; omega
   have w2 : i64.wrap (b - m) = Y.length := by rw [aC (by omega) (by omega)]; omega
   have w3 : i64.wrap (mid + m) = mid + m := aC (by omega) (by omega)
   have w4 : i64.wrap (mid + m - b) = mid + m - b := aC (by omega) (by omega)
   have w5 : i64.wrap (mid + m - 1) = mid + m - 1 := aC (by omega) (by omega)
   rw [w1, w2, qF ha (by omega) (by omega), <- hmid, w3, w4, w5]
   -- what the loop is, and what follows it
   have body : ∀ (x20 x21 : Int) (s : List (List PV)), (s = aA (P ++ (X ++ (Y ++ R))) /\ s0 <= x20 /\ x20 <= x21 /\ x21 <= r0 /\ (∀ c, s0 <= c -> c < x20 -> ¬ key (Y.getD (mid - 1 - c).toNat 0) < key (X.getD (c - a).toNat 0)) /\ (∀ c, x21 <= c -> c < r0 -> key (Y.getD (mid - 1 - c).toNat 0) < key (X.getD (c - a).toNat 0))) ->
    (x20 < x21 -> ∃ h, h = (x20 + x21) / 2 /\ i64.wrap (mid + m - 1 - h) = mid + m - 1 - h /\ i64.wrap (h + 1) = h + 1 /\ (0 <= mid + m - 1 - h /\ mid + m - 1 - h < (hi : Int) - lo /\ (s.getD (lo + (mid + m - 1 - h).toNat) []).length = 1) /\ (0 <= h /\ h < (hi : Int) - lo /\ (s.getD (lo + h.toNat) []).length = 1) /\
     ∃ n n1, (List.drop 0 (s.getD (lo + (mid + m - 1 - h).toNat) [])).head? = some (PV.int .i32 n) /\ (List.drop 0 (s.getD (lo + h.toNat) [])).head? = some (PV.int .i32 n1) /\ (-2147483648 <= n /\ n <= 2147483647) /\ (-2147483648 <= n1 /\ n1 <= 2147483647) /\
     (¬ key n < key n1 -> (s = aA (P ++ (X ++ (Y ++ R))) /\ s0 <= h + 1 /\ h + 1 <= x21 /\ x21 <= r0 /\ (∀ c, s0 <= c -> c < h + 1 -> ¬ key (Y.getD (mid - 1 - c).toNat 0) < key (X.getD (c - a).toNat 0)) /\ (∀ c, x21 <= c -> c < r0 -> key (Y.getD (mid - 1 - c).toNat 0) < key (X.getD (c - a).toNat 0))) /\ (x21 - (h + 1)).toNat < (x21 - x20).toNat) /\
     (key n < key n1 -> (s = aA (P ++ (X ++ (Y ++ R))) /\ s0 <= x20 /\ x20 <= h /\ h <= r0 /\ (∀ c, s0 <= c -> c < x20 -> ¬ key (Y.getD (mid - 1 - c).toNat 0) < key (X.getD (c - a).toNat 0)) /\ (∀ c, h <= c -> c < r0 -> key (Y.getD (mid - 1 - c).toNat 0) < key (X.getD (c - a).toNat 0))) /\ (h - x20).toNat < (x21 - x20).toNat)) /\
    (¬ x20 < x21 -> i64.wrap (mid + m - x20) = mid + m - x20 /\ zX lo hi nl T a x20 m mid (mid + m - x20) b (jB key nl T P (X ++ Y) R) s) := by
    rintro i j _ ⟨rfl, i0, hij, hjr, hge, hlt⟩
    refine ⟨fun hc1 => ?_, fun hc1 => ?_⟩
    ·obtain ⟨h, hh⟩ : ∃ h, h = (i + j) / 2 := ⟨_, rfl⟩
     have b1 : i <= h /\ h < j := by omega
     have gx := hat h (by omega) (by omega)
     have gy := hbt (mid + m - 1 - h) (by omega) (by omega)
     rw [show (mid + m - 1 - h - m).toNat = (mid - 1 - h).toNat by omega] at gy
     refine ⟨h, hh, aC (by omega) (by omega), aC (by omega) (by omega), ⟨by omega, by omega, by rw [c7 gy]; rfl⟩, ⟨by omega, by omega, by rw [c7 gx]; rfl⟩, _, _, by rw [c7 gy]; rfl, by rw [c7 gx]; rfl, kX hr gy, kX hr gx, fun hk => ?_, fun hk => ?_⟩
     ·refine ⟨⟨rfl, by omega, by omega, hjr, fun c c1 c2 => ?_, hlt⟩, by omega⟩
      have u := hX.get (i := (c - a).toNat) (j := (h - a).toNat) (by omega) (by omega)
      have v := hY.get (i := (mid - 1 - h).toNat) (j := (mid - 1 - c).toNat) (by omega) (by omega)
      omega
     ·refine ⟨⟨rfl, i0, by omega, by omega, hge, fun c c1 c2 => ?_⟩, by omega⟩
      have u := hX.get (i := (h - a).toNat) (j := (c - a).toNat) (by omega) (by omega)
      have v := hY.get (i := (mid - 1 - c).toNat) (j := (mid - 1 - h).toNat) (by omega) (by omega)
      omega
    ·have hij2 : i = j := by omega
     subst hij2
     refine ⟨aC (by omega) (by omega), ?_⟩
     have l1 : (X.take (i - a).toNat).length = (i - a).toNat := by rw [List.length_take]; omega
     have l2 : (X.drop (i - a).toNat).length = X.length - (i - a).toNat := List.length_drop
     have l3 : (Y.take (mid - i).toNat).length = (mid - i).toNat := by rw [List.length_take]; omega
     have l4 : (Y.drop (mid - i).toNat).length = Y.length - (mid - i).toNat := List.length_drop
     have eX : X.take (i - a).toNat ++ X.drop (i - a).toNat = X := List.take_append_drop _ _
     have eY : Y.take (mid - i).toNat ++ Y.drop (mid - i).toNat = Y := List.take_append_drop _ _
     have tk : ∀ (L : List Int) (k q : Nat), q < k -> (L.take k).getD q 0 = L.getD q 0 := fun L k q h => by simp only [List.getD]; rw [List.getElem?_take_of_lt h]
     have dk : ∀ (L : List Int) (k q : Nat), (L.drop k).getD q 0 = L.getD (k + q) 0 := fun L k q => by simp only [List.getD, List.getElem?_drop]
     have f1 : ∀ x ∈ X.drop (i - a).toNat, ∀ y ∈ Y.take (mid - i).toNat, key y < key x := fun x hx y hy => by
      obtain ⟨q, hq, rfl⟩ := kY hx
      obtain ⟨p, hp, rfl⟩ := kY hy
      rw [l2] at hq
      rw [l3] at hp
      rw [tk _ _ _ hp, dk]
      have hir : i < r0 := by rw [hr0]; split <;> omega
      have k0 := hlt i (Int.le_refl _) hir
      have u := hX.get (i := (i - a).toNat) (j := (i - a).toNat + q) (by omega) (by omega)
      have v := hY.get (i := p) (j := (mid - 1 - i).toNat) (by omega) (by omega)
      omega
     have f2 : ∀ x ∈ X.take (i - a).toNat, ∀ y ∈ Y.drop (mid - i).toNat, key x <= key y := fun x hx y hy => by
      obtain ⟨q, hq, rfl⟩ := kY hx
      obtain ⟨p, hp, rfl⟩ := kY hy
      rw [l1] at hq
      rw [l4] at hp
      rw [tk _ _ _ hq, dk]
      have his : s0 <= i - 1 := by rw [hs0]; split <;> omega
      have k0 := hge (i - 1) his (by omega)
      rw [show (mid - 1 - (i - 1)).toNat = (mid - i).toNat by omega] at k0
      have u := hX.get (i := q) (j := (i - 1 - a).toNat) (by omega) (by omega)
      have v := hY.get (i := (mid - i).toNat) (j := (mid - i).toNat + p) (by omega) (by omega)
      omega
     have := zrv lo hi nl (N := N) ih hlen P (X.take (i - a).toNat) (X.drop (i - a).toNat) (Y.take (mid - i).toNat) (Y.drop (mid - i).toNat) R a i m mid (mid + m - i) b ha hP (by omega) (by omega) (by omega) (by omega) (by omega) hhi
      (by rw [<- List.append_assoc (Y.take _), eY, <- List.append_assoc (X.take _), eX]; exact hr) (by rw [eX]; exact hX) (by rw [eY]; exact hY) f1 f2 (by omega) (by omega)
     rw [<- List.append_assoc (Y.take _) _ R, eY, <- List.append_assoc (X.take _) _ (Y ++ R), eX] at this
     exact this
   refine bK (by simp; omega) (bK (by simp; omega) ?_)
   refine aD (fun hm2 => ?_) (fun hm2 => ?_)
   ·simp only [decide_eq_true_eq] at hm2
    rw [if_pos hm2] at hs0 hr0
    refine ⟨⟨rfl, rfl, by omega, by omega, by omega, fun c c1 c2 => by omega, fun c c1 c2 => by omega⟩, ?_⟩
    rintro i j s hJ
    obtain ⟨b1, b2⟩ := body i j s hJ
    refine aD (fun hc1 => ?_) (fun hc1 => ?_)
    ·simp only [decide_eq_true_eq] at hc1
     obtain ⟨h, hh, e1, e2, e3, e4, n, n1, g1, g2, r1, r2, k1, k2⟩ := b1 hc1
     rw [qF (by omega) (by omega) (by omega), <- hh, e1, e2]
     refine ⟨e3, n, g1, e4, n1, g2, ?_⟩
     refine (hc n n1 r1 r2).mono ?_
     rintro _ ⟨n2, rfl, hn2⟩
     refine ⟨n2, rfl, rfl, aD (fun hl => ?_) (fun hl => ?_)⟩
     ·simp only [Bool.not_eq_true', decide_eq_false_iff_not] at hl
      obtain ⟨q1, q2⟩ := k1 fun h => hl (hn2.2 h)
      exact ⟨rfl, q1, q2⟩
     ·simp only [Bool.not_eq_true', decide_eq_false_iff_not, Decidable.not_not] at hl
      obtain ⟨q1, q2⟩ := k2 (hn2.1 hl)
      exact ⟨rfl, q1, q2⟩
    ·simp only [decide_eq_true_eq] at hc1
     obtain ⟨e1, e2⟩ := b2 hc1
     rw [e1]
     exact e2
   ·simp only [decide_eq_true_eq] at hm2
    rw [if_neg hm2] at hs0 hr0
    refine ⟨⟨rfl, rfl, by omega, by omega, by omega, fun c c1 c2 => by omega, fun c c1 c2 => by omega⟩, ?_⟩
    rintro i j s hJ
    obtain ⟨b1, b2⟩ := body i j s hJ
    refine aD (fun hc1 => ?_) (fun hc1 => ?_)
    ·simp only [decide_eq_true_eq] at hc1
     obtain ⟨h, hh, e1, e2, e3, e4, n, n1, g1, g2, r1, r2, k1, k2⟩ := b1 hc1
     rw [qF (by omega) (by omega) (by omega), <- hh, e1, e2]
     refine ⟨e3, n, g1, e4, n1, g2, ?_⟩
     refine (hc n n1 r1 r2).mono ?_
     rintro _ ⟨n2, rfl, hn2⟩
     refine ⟨n2, rfl, rfl, aD (fun hl => ?_) (fun hl => ?_)⟩
     ·simp only [Bool.not_eq_true', decide_eq_false_iff_not] at hl
      obtain ⟨q1, q2⟩ := k1 fun h => hl (hn2.2 h)
      exact ⟨rfl, q1, q2⟩
     ·simp only [Bool.not_eq_true', decide_eq_false_iff_not, Decidable.not_not] at hl
      obtain ⟨q1, q2⟩ := k2 (hn2.1 hl)
      exact ⟨rfl, q1, q2⟩
    ·simp only [decide_eq_true_eq] at hc1
     obtain ⟨e1, e2⟩ := b2 hc1
     rw [e1]
     exact e2
end
end Go.Eng



namespace Go.Eng
open Go Go.Proofs Go.Eng.Rows Go.Eng.Srt
section
variable {key : Int -> Int} {T : PV}
def mB (key : Int -> Int) (k : Nat) (Bs : List (List Int)) : Prop := ∀ B ∈ Bs, B.length = k /\ Srtd key B
theorem zY {k : Nat} : ∀ {Bs : List (List Int)}, mB key k Bs -> Bs.flatten.length = k * Bs.length
 | [], _ => by simp
 | B :: Bs, h => by
   rw [List.flatten_cons, List.length_append, (h B List.mem_cons_self).1, zY (Bs := Bs) fun C hC => h C (List.mem_cons_of_mem _ hC), List.length_cons, Nat.mul_add]; omega
theorem tM (Bs : List (List Int)) : Bs = [] ∨ (∃ X, Bs = [X]) ∨ ∃ X Y Bs', Bs = X :: Y :: Bs' := by
 match Bs with
 | [] => exact .inl rfl
 | [X] => exact .inr (.inl ⟨X, rfl⟩)
 | X :: Y :: Bs' => exact .inr (.inr ⟨X, Y, Bs', rfl⟩)
theorem zhl {k : Nat} {Bs : List (List Int)} {B : List Int} (h : mB key k Bs) (hl : B.length = k) (hs : Srtd key B) : mB key k (Bs ++ [B]) := fun C hC => by
 rcases List.mem_append.1 hC with hC | hC
 ·exact h C hC
 ·simp only [List.mem_singleton] at hC; subst hC; exact ⟨hl, hs⟩
theorem zZ {P S R S' : List Int} (h : R32 (P ++ (S ++ R))) (k : Stab key S S') : R32 (P ++ (S' ++ R)) := h.of fun x hx => by
 simp only [List.mem_append] at hx ⊢
 rcases hx with hx | hx | hx
 ·exact .inl hx
 ·exact .inr (.inl (k.mem.2 hx))
 ·exact .inr (.inr hx)
theorem zrw (hc : jA T key) (lo hi : Nat) (nl : Bool) (P S R : List Int) (hP : P.length = lo) (hS : hi = lo + S.length) (hr : R32 (P ++ (S ++ R))) (hlen : hi < 1000000000000) :
 ACall Tryz.prog 162 [.sub 0 lo hi, .pv (.int .i64 ((hi - lo : Nat) : Int)), .fn 145 [.box 1 0]] (jC nl T (aA (P ++ (S ++ R)))) (jB key nl T P S R) := by
 have hl1 : ∀ {u v : List Int}, u.length = v.length -> (aA u).length = (aA v).length := fun h => by simp [h]
 obtain ⟨n, hn⟩ : ∃ n : Int, n = ((hi - lo : Nat) : Int) := ⟨_, rfl⟩
 rw [<- hn]
 have hnS : n = S.length := by omega
 refine zn4 _ _ _ _ _ _
  (fun a b s => b = a + 20 /\ 0 <= a /\ ∃ Bs C, s = aA (P ++ (Bs.flatten ++ C ++ R)) /\ mB key 20 Bs /\ (Bs.flatten.length : Int) = a /\ Stab key S (Bs.flatten ++ C)) (fun a _ _ => (n + 1 - a).toNat)
  (fun k s => 0 < k /\ ∃ Bs C, s = aA (P ++ (Bs.flatten ++ C ++ R)) /\ mB key k.toNat Bs /\ Srtd key C /\ (C.length : Int) < k /\ Stab key S (Bs.flatten ++ C)) (fun k _ => (n - k).toNat)
  (fun k _ _ _ k' a b s => k = k' /\ b = a + 2 * k /\ 0 <= a /\ ∃ B2 Bs C, s = aA (P ++ (B2.flatten ++ (Bs.flatten ++ C) ++ R)) /\ mB key (2 * k).toNat B2 /\ mB key k.toNat Bs /\ Srtd key C /\ (C.length : Int) < k /\ (B2.flatten.length : Int) = a /\ Stab key S (B2.flatten ++ (Bs.flatten ++ C))) (fun k a _ _ => (n + 1 - a).toNat) ?_
 unfold zep
 refine ⟨⟨rfl, rfl, Int.le_refl _, [], S, by simp, fun B hB => (by cases hB), rfl, by simpa using Stab.refl S⟩, ?_⟩
 rintro a b _ ⟨rfl, a0, Bs, C, rfl, hBs, hBl, hst⟩
 have hsl := hst.len
 rw [List.length_append] at hsl
 refine aD (fun hc1 => ?_) (fun hc1 => ?_)
 ·simp only [decide_eq_true_eq] at hc1
  have wa : i64.wrap (a + 20 + 20) = a + 20 + 20 := aC (by omega) (by omega)
  rw [wa]
  have hC : C.take 20 ++ C.drop 20 = C := List.take_append_drop _ _
  have hCl : (C.take 20).length = 20 := by rw [List.length_take]; omega
  have e1 : P ++ (Bs.flatten ++ C ++ R) = (P ++ Bs.flatten) ++ C.take 20 ++ (C.drop 20 ++ R) := by
   rw [show Bs.flatten ++ C ++ R = Bs.flatten ++ ((C.take 20 ++ C.drop 20) ++ R) by rw [hC]; simp]
   simp only [List.append_assoc]
  have := zhh hc lo hi nl (P ++ Bs.flatten) (C.take 20) (C.drop 20 ++ R) a (a + 20) a0 (by rw [List.length_append]; omega) (by omega) (by omega) (by rw [<- e1]; exact zZ hr hst) hlen
  rw [e1]
  refine this.mono ?_
  rintro r h' ⟨S1, rfl, rfl, s1, k1⟩
  have k1l := k1.len
  refine ⟨_, ⟨rfl, rfl⟩, ⟨trivial, ⟨rfl, rfl, hl1 (by simp only [List.length_append]; omega)⟩, trivial⟩, rfl, ⟨rfl, by omega, Bs ++ [S1], C.drop 20, by simp, zhl hBs (by omega) s1, by simp only [List.flatten_append, List.flatten_cons, List.flatten_nil, List.append_nil, List.length_append]; omega, ?_⟩, by dsimp only; omega⟩
  refine hst.trans ?_
  have := (Stab.refl (key := key) Bs.flatten).app (k1.app (Stab.refl (C.drop 20)))
  rw [hC] at this
  simpa using this
 ·simp only [decide_eq_true_eq] at hc1
  have e1 : P ++ (Bs.flatten ++ C ++ R) = (P ++ Bs.flatten) ++ C ++ R := by simp
  have := zhh hc lo hi nl (P ++ Bs.flatten) C R a n a0 (by rw [List.length_append]; omega) (by omega) (by omega) (by rw [<- e1]; exact zZ hr hst) hlen
  rw [e1]
  refine this.mono ?_
  rintro r h' ⟨C1, rfl, rfl, s1, k1⟩
  have k1l := k1.len
  refine ⟨_, ⟨rfl, rfl⟩, ⟨trivial, ⟨rfl, rfl, hl1 (by simp only [List.length_append]; omega)⟩, trivial⟩, ⟨rfl, by omega, Bs, C1, by simp, hBs, s1, by omega, hst.trans ((Stab.refl _).app k1)⟩, ?_⟩
  clear hBs hBl hst hsl hc1 e1 this s1 k1 k1l
  rintro k _ ⟨k0, Bs, C, rfl, hBs, hCs, hCk, hst⟩
  have hsl := hst.len
  rw [List.length_append] at hsl
  have hbl := zY hBs
  refine aD (fun hc2 => ?_) (fun hc2 => ?_)
  ·simp only [decide_eq_true_eq] at hc2
   have w2 : i64.wrap (2 * k) = 2 * k := aC (by omega) (by omega)
   have w3 : i64.wrap (k * 2) = 2 * k := by rw [aC (by omega) (by omega)]; omega
   rw [w2]
   refine ⟨⟨rfl, rfl, by omega, Int.le_refl _, [], Bs, C, by simp, fun B hB => (by cases hB), hBs, hCs, hCk, rfl, by simpa using hst⟩, ?_⟩
   clear hBs hCs hCk hst hsl hbl
   rintro _ a b _ ⟨rfl, rfl, a0, B2, Bs, C, rfl, hB2, hBs, hCs, hCk, hBl, hst⟩
   have hsl := hst.len
   rw [List.length_append, List.length_append] at hsl
   have hbl := zY hBs
   have hRs : R32 (P ++ (B2.flatten ++ (Bs.flatten ++ C) ++ R)) := zZ hr hst
   rw [w2, w3]
   have hkn : (k.toNat : Int) = k := by omega
   refine aD (fun hc3 => ?_) (fun hc3 => ?_)
   ·simp only [decide_eq_true_eq] at hc3
    have w4 : i64.wrap (a + k) = a + k := aC (by omega) (by omega)
    have w5 : i64.wrap (a + 2 * k + 2 * k) = a + 2 * k + 2 * k := aC (by omega) (by omega)
    rw [w4, w5]
    obtain ⟨X, Y, Bs', rfl⟩ : ∃ X Y Bs', Bs = X :: Y :: Bs' := by
     rcases tM Bs with rfl | ⟨X, rfl⟩ | h
     ·simp only [List.flatten_nil, List.length_nil] at hsl; omega
     ·have h1 := (hBs X (by simp)).1
      simp only [List.flatten_cons, List.flatten_nil, List.append_nil] at hsl; omega
     ·exact h
    obtain ⟨hXl, hXs⟩ := hBs X (by simp)
    obtain ⟨hYl, hYs⟩ := hBs Y (by simp)
    have nx : X ≠ [] := fun h => by subst h; simp at hXl; omega
    have ny : Y ≠ [] := fun h => by subst h; simp at hYl; omega
    have e1 : P ++ (B2.flatten ++ ((X :: Y :: Bs').flatten ++ C) ++ R) = (P ++ B2.flatten) ++ (X ++ (Y ++ (Bs'.flatten ++ C ++ R))) := by simp
    have := zhk hc lo hi nl hlen (2 * k + 1).toNat (P ++ B2.flatten) X Y (Bs'.flatten ++ C ++ R) a (a + k) (a + 2 * k) a0 (by rw [List.length_append]; omega) (by omega) (by omega) nx ny (by omega) (by rw [<- e1]; exact hRs) hXs hYs (by omega)
    rw [e1]
    refine this.mono ?_
    rintro r h' ⟨S1, rfl, rfl, s1, k1⟩
    have k1l := k1.len
    rw [List.length_append] at k1l
    refine ⟨_, ⟨rfl, rfl⟩, ⟨trivial, ⟨rfl, rfl, hl1 (by simp only [List.length_append]; omega)⟩, trivial⟩, rfl, ⟨rfl, rfl, by omega, B2 ++ [S1], Bs', C, by simp, zhl hB2 (by omega) s1, fun B hB => hBs B (by simp [hB]), hCs, hCk, by simp only [List.flatten_append, List.flatten_cons, List.flatten_nil, List.append_nil, List.length_append]; omega, ?_⟩, by dsimp only; omega⟩
    refine hst.trans ?_
    have := (Stab.refl (key := key) B2.flatten).app (k1.app (Stab.refl (Bs'.flatten ++ C)))
    simpa using this
   ·simp only [decide_eq_true_eq] at hc3
    have w4 : i64.wrap (a + k) = a + k := aC (by omega) (by omega)
    rw [w4]
    refine aD (fun hc4 => ?_) (fun hc4 => ?_)
    ·simp only [decide_eq_true_eq] at hc4
     obtain ⟨X, rfl⟩ : ∃ X, Bs = [X] := by
      rcases tM Bs with rfl | h | ⟨X, Y, Bs', rfl⟩
      ·simp only [List.flatten_nil, List.length_nil] at hsl; omega
      ·exact h
      ·have h1 := (hBs X (by simp)).1
       have h2 := (hBs Y (by simp)).1
       simp only [List.flatten_cons, List.length_append] at hsl
       omega
     obtain ⟨hXl, hXs⟩ := hBs X (by simp)
     have nx : X ≠ [] := fun h => by subst h; simp at hXl; omega
     simp only [List.flatten_cons, List.flatten_nil, List.append_nil] at hsl hst
     have ny : C ≠ [] := fun h => by subst h; simp only [List.length_nil] at hsl; omega
     have e1 : P ++ (B2.flatten ++ ([X].flatten ++ C) ++ R) = (P ++ B2.flatten) ++ (X ++ (C ++ R)) := by simp
     have := zhk hc lo hi nl hlen (2 * k + 1).toNat (P ++ B2.flatten) X C R a (a + k) n a0 (by rw [List.length_append]; omega) (by omega) (by omega) nx ny (by omega) (by rw [<- e1]; exact hRs) hXs hCs (by omega)
     rw [e1]
     refine this.mono ?_
     rintro r h' ⟨S1, rfl, rfl, s1, k1⟩
     have k1l := k1.len
     rw [List.length_append] at k1l
     exact ⟨_, ⟨rfl, rfl⟩, ⟨trivial, ⟨rfl, rfl, hl1 (by simp only [List.length_append]; omega)⟩, trivial⟩, rfl, ⟨by omega, B2, S1, by simp, hB2, s1, by omega, hst.trans ((Stab.refl _).app k1)⟩, by dsimp only; omega⟩
    ·simp only [decide_eq_true_eq] at hc4
     have hCs2 : Srtd key (Bs.flatten ++ C) /\ ((Bs.flatten ++ C).length : Int) < 2 * k := by
      rcases tM Bs with rfl | ⟨X, rfl⟩ | ⟨X, Y, Bs', rfl⟩
      ·exact ⟨by simpa using hCs, by simp; omega⟩
      ·have h1 := hBs X (by simp)
       simp only [List.flatten_cons, List.flatten_nil, List.append_nil] at hsl ⊢
       have hC0 : C = [] := List.length_eq_zero_iff.1 (by omega)
       subst hC0
       exact ⟨by simpa using h1.2, by simp; omega⟩
      ·exfalso
       have h1 := (hBs X (by simp)).1
       have h2 := (hBs Y (by simp)).1
       simp only [List.flatten_cons, List.length_append] at hsl
       omega
     exact ⟨rfl, ⟨by omega, B2, Bs.flatten ++ C, by simp, hB2, hCs2.1, hCs2.2, hst⟩, by dsimp only; omega⟩
  ·simp only [decide_eq_true_eq] at hc2
   have hz : Srtd key (Bs.flatten ++ C) := by
    rcases tM Bs with rfl | ⟨X, rfl⟩ | ⟨X, Y, Bs', rfl⟩
    ·simpa using hCs
    ·have h1 := hBs X (by simp)
     simp only [List.flatten_cons, List.flatten_nil, List.append_nil] at hsl ⊢
     have hC0 : C = [] := List.length_eq_zero_iff.1 (by omega)
     subst hC0
     simpa using h1.2
    ·exfalso
     have h1 := (hBs X (by simp)).1
     have h2 := (hBs Y (by simp)).1
     simp only [List.flatten_cons, List.length_append] at hsl
     omega
   exact ⟨Bs.flatten ++ C, rfl, rfl, hz, hst⟩
theorem zrx (hc : jA T key) (lo hi : Nat) (nl : Bool) (P S R : List Int) (hP : P.length = lo) (hS : hi = lo + S.length) (hr : R32 (P ++ (S ++ R))) (hlen : hi < 1000000000000) :
 ACall Tryz.prog 144 [.sub 0 lo hi, .fn 145 [.box 1 0]] (jC nl T (aA (P ++ (S ++ R)))) (jB key nl T P S R) := by
 refine zn5 _ _ _ _ _ ?_
 unfold zeq
 refine (zrw hc lo hi nl P S R hP hS hr hlen).mono ?_
 rintro r h' ⟨S1, rfl, rfl, s1, k1⟩
 exact ⟨_, ⟨rfl, rfl⟩, ⟨trivial, ⟨rfl, rfl, by have := k1.len; simp; omega⟩, trivial⟩, S1, rfl, rfl, s1, k1⟩
end
end Go.Eng



namespace Go.Eng
open Go Go.Proofs Go.Eng.Rows Go.Eng.Srt
section
variable {Z : World -> (Nat -> Prop) -> (Nat -> Pl) -> Hp -> Prop} {key : Int -> Int} {nl : Bool} {T : PV} {l : Nat}
def YQ (key : Int -> Int) (L : List Int) (f i : Nat) (L' : List Int) : Prop := ∃ S', L' = L.take f ++ (S' ++ L.drop i) /\ Srtd key S' /\ Stab key ((L.take i).drop f) S'
def z7 (Z : World -> (Nat -> Prop) -> (Nat -> Pl) -> Hp -> Prop) (key : Int -> Int) (nl : Bool) (T : PV) (l N0 : Nat) : Prop :=
 ∀ (w : World) (I : Nat -> Prop) (G : Nat -> Pl) (L : List Int) (f i : Nat), HRel w I G (aM nl T (aA L)) -> Z w I G (aM nl T (aA L)) -> f + 1 < i -> i <= L.length -> R32 L -> L.length < 1000000000000 -> L.length = N0 ->
  ∃ fn tmps assign body, (Instr.yield l #[.int .i64 f, .int .i64 i]).run Tryz.prog w = .ok (.round l fn tmps assign body) w /\ RoundIn Fence.wide 0 Tryz.prog l fn tmps assign body w fun e w' =>
   e = .returned (.bool true) /\ ∃ L' I' G', YQ key L f i L' /\ HRel w' I' G' (aM nl T (aA L')) /\ Keeps w I w' I' /\ Like G G' (aM nl T (aA L)) (aM nl T (aA L')) /\ Z w' I' G' (aM nl T (aA L'))
def o8 (ops : Array Oper) : Oper := ops.toList.getD 8 default
theorem e6a (y : Value) (es : List (List PV)) (i f : Int) (K : Env -> Hp -> Prop) : cA Tryz.prog (fun _ => none) 39 (cJ (dJ Tryz.f161)).toList ((cJ (dJ Tryz.f161)).toList.take 8) (eM y i f) (aM nl T es) K =
 K ((35, LV.spec 32 true (.pv (.int .i64 i))) :: (34, LV.spec 32 true (.pv (.int .i64 f))) :: (33, LV.spec 32 true (.pv (.raw y))) :: (32, .pv (.bool (decide (i64.wrap (i - f) > (1 : Int))))) :: (31, .pv (.bool (decide (i64.wrap (i - f) > (1 : Int))))) ::
  (30, .pv (.int .i64 (i64.wrap (i - f)))) :: (29, .pv (.int .i64 f)) :: (28, .pv (.int .i64 i)) :: eM y i f) (aM nl T es) := by kernel_rfl
theorem e6b (y : Value) (es : List (List PV)) (i f : Int) (K : Env -> Hp -> Prop) : cA Tryz.prog (fun _ => none) 39 (cJ (dJ Tryz.f161)).toList ((cJ (dJ Tryz.f161)).toList.drop 9) ((36, .pv (.bool true)) :: (32, .pv (.bool true)) :: eM y i f) (aM nl T es) K =
 K ((38, .pv (.bool false)) :: (37, .spec 32 true (.pv (.bool false))) :: (36, .pv (.bool true)) :: (32, .pv (.bool true)) :: eM y i f) (aM nl T es) := by kernel_rfl
theorem e6c (y : Value) (es : List (List PV)) (i f : Int) (K : Env -> Hp -> Prop) : cA Tryz.prog (fun _ => none) 39 (cJ (dJ Tryz.f161)).toList ((cJ (dJ Tryz.f161)).toList.drop 9) ((32, .pv (.bool false)) :: eM y i f) (aM nl T es) K =
 K ((38, .pv (.bool false)) :: (37, .pv .unit) :: (32, .pv (.bool false)) :: (32, .pv (.bool false)) :: eM y i f) (aM nl T es) := by kernel_rfl
theorem zry : dJ Tryz.f161 = .region 6 (cJ (dJ Tryz.f161)) false := by kernel_rfl
theorem zrz : (cJ (dJ Tryz.f161)).size = 11 /\ iY (cJ (dJ Tryz.f161)).toList = true /\ (cJ (dJ Tryz.f161)).toList.length = 11 /\ (cJ (dJ Tryz.f161))[8]? = some (o8 (cJ (dJ Tryz.f161))) /\
 (o8 (cJ (dJ Tryz.f161))).dst = some 36 /\ (o8 (cJ (dJ Tryz.f161))).guard = some (4, true) /\ (o8 (cJ (dJ Tryz.f161))).op = .call { callee := .value (.tmp 33), args := #[.tmp 34, .tmp 35], argTypes := #[3, 3] } /\
 ((cJ (dJ Tryz.f161))[4]?).bind (·.dst) = some 32 :=
 ⟨by kernel_rfl, by kernel_rfl, by kernel_rfl, by kernel_rfl, by kernel_rfl, by kernel_rfl, by kernel_rfl, by kernel_rfl⟩
theorem zr0 {F : Fence} {n : Nat} {P : Program} {ops : Array Oper} {Q : Exit -> Act -> World -> Prop} {i : Nat} {rest : List Nat} {a : Act} {w : World} {o : Oper} (ho : ops[i]? = some o)
 (h : if Region.wanted o (yielded ops a.tmps) then o.wpIn F n P a w (wpOpsIn F n P ops Q rest) Q else (∀ f, o.about P w a.eval = some f -> F.fn f) /\ wpOpsIn F n P ops Q rest (a.put o.dst undef) w) : wpOpsIn F n P ops Q (i :: rest) a w := by
 simp only [wpOpsIn, ho]; exact h
theorem zr1 {w : World} {I : Nat -> Prop} {G : Nat -> Pl} {h : Hp} {tm : Array Value} {s : Nat} {b : Bool} (hr : LRel w I G h (.pv (.bool b)) (tm.getD s undef)) : tm[s]? = some (.bool b) := by
 have := hr.bool_eq
 rw [Array.getD_eq_getD_getElem?] at this
 cases hx : tm[s]? with
 | none => rw [hx] at this; simp [undef] at this
 | some v => rw [hx] at this; simpa using this
theorem LRel.raw_eq {w : World} {I : Nat -> Prop} {G : Nat -> Pl} {h : Hp} {v cv : Value} (hr : LRel w I G h (.pv (.raw v)) cv) : cv = v := by cases hr with | pv _ _ h1 => cases h1; rfl
theorem zr2 {N0 : Nat} (hY : z7 Z key nl T l N0) (hZ : ∀ w I G h w' I' G' h', Z w I G h -> HRel w I G h -> HRel w' I' G' h' -> TrN 5 w I G h w' I' G' h' -> Z w' I' G' h') (L : List Int) (f i : Nat) (hf : f <= i) (hi : i <= L.length) (hr : R32 L) (hL : L.length < 1000000000000) (hN : L.length = N0) :
 CodeZ Z Tryz.prog 39 (dJ Tryz.f161) (eM (.func (.yield l) #[] #[]) i f) (aM nl T (aA L)) fun x e h => ∃ L', x = .normal /\ (if f + 1 < i then YQ key L f i L' else L' = L) /\ e = (38, .pv (.bool false)) :: eM (.func (.yield l) #[] #[]) i f /\ h = aM nl T (aA L') := by
 intro w I G a Qx hs hz hq
 obtain ⟨q1, q2, q3, q4, q5, q6, q7, q8⟩ := zrz
 rw [zry]
 have ea := e6a (nl := nl) (T := T) (.func (.yield l) #[] #[]) (aA L) i f
 have eb := fun es => e6b (nl := nl) (T := T) (.func (.yield l) #[] #[]) es i f
 have ec := e6c (nl := nl) (T := T) (.func (.yield l) #[] #[]) (aA L) i f
 generalize cJ (dJ Tryz.f161) = O at *
 generalize o8 O = o at *
 have ww : i64.wrap ((i : Int) - f) = (i : Int) - f := aC (by omega) (by omega)
 rw [ww] at ea
 refine wp_mono (Q := fun x a' w' => x = .normal /\ ∃ L' I' G', (if f + 1 < i then YQ key L f i L' else L' = L) /\ SRel w' I' G' ((38, .pv (.bool false)) :: eM (.func (.yield l) #[] #[]) i f) (aM nl T (aA L')) 39 a' /\ a'.defers = a.defers /\ Z w' I' G' (aM nl T (aA L'))) ((wpIn_wide (n := 0)).1 (wpIn_region (F := wd none) ?_)) ?_
 rotate_left
 ·rintro x a' w' ⟨rfl, L', I', G', h1, h2, h3, h4⟩
  exact hq .normal _ _ w' I' G' a' ⟨L', rfl, h1, rfl, rfl⟩ h2 h3 h4
 rw [q1, show List.range 11 = List.range' 0 8 ++ (8 :: List.range' 9 2) from rfl]
 refine sS ?_
 rw [show (8 : Nat) = (O.toList.take 8).length by simp [q3]]
 have hsuf : ∀ j, j < (O.toList.drop 9).length -> (O.toList.drop 9)[j]? = O[9 + j]? := fun j _ => by rw [List.getElem?_drop]; simp
 have hl2 : (O.toList.drop 9).length = 2 := by simp [q3]
 refine wM (ro := none) q2 (fun j hj => ?_) (by rw [ea]; exact ⟨rfl, rfl⟩ : cA Tryz.prog (fun _ => none) 39 O.toList (O.toList.take 8) _ _ (fun e' h' => e' = _ /\ h' = aM nl T (aA L))) hs (fun a w h => nomatch h.1) ?_
 ·rw [List.getElem?_take, if_pos (by simp only [List.length_take] at hj; omega)]; simp
 rintro _ _ w1 I1 G1 a1 ⟨rfl, rfl⟩ hs1 hd1 ht1
 rw [show (O.toList.take 8).length = 8 by simp [q3]]
 have hz1 := hZ _ _ _ _ _ _ _ _ hz hs.hh hs1.hh ht1.toN
 have h32 := zr1 (hs1.he 32 _ rfl)
 have hyl : yielded O a1.tmps 4 = some (decide ((i : Int) - f > 1)) := by
  unfold yielded
  rw [q8]; simp [h32]
 have hwd : Region.wanted o (yielded O a1.tmps) = decide ((i : Int) - f > 1) := by unfold Region.wanted; rw [q6]; simp [hyl]
 show wpOpsIn (wd none) 0 Tryz.prog O _ (8 :: List.range' 9 2) a1 w1
 refine zr0 q4 ?_
 rw [hwd]
 have hdst : iI 39 o = true := by unfold iI; rw [q5]; rfl
 by_cases hc : f + 1 < i
 ·have hd' : decide ((i : Int) - f > 1) = true := by simp; omega
  rw [hd'] at hs1 h32 ⊢
  rw [if_pos rfl]
  refine ⟨fun _ _ => trivial, ?_⟩
  have h32' : a1.tmps.getD 32 undef = .bool true := (hs1.he 32 _ rfl).bool_eq
  have v33 := ((hs1.he 33 _ rfl).1 h32').raw_eq
  have v34 := ((hs1.he 34 _ rfl).1 h32').int_eq
  have v35 := ((hs1.he 35 _ rfl).1 h32').int_eq
  obtain ⟨fn, tmps, assign, body, hy, hR⟩ := hY w1 I1 G1 L f i hs1.hh hz1 hc hi hr hL hN
  have hrun : (o.semAt none a1.eval).run Tryz.prog w1 = .ok (.round l fn tmps assign body) w1 := by
   rw [Oper.semAt_none]
   unfold execOp
   rw [q7]
   have e33 : a1.eval (.tmp 33) = .func (.yield l) #[] #[] := v33
   have e34 : a1.eval (.tmp 34) = .int .i64 f := v34
   have e35 : a1.eval (.tmp 35) = .int .i64 i := v35
   have hres : resolve a1.eval { callee := .value (.tmp 33), args := #[.tmp 34, .tmp 35], argTypes := #[3, 3] } o.type = pure { target := .fn (.yield l) #[], args := #[.int .i64 f, .int .i64 i] } := by
    simp [resolve, e33, e34, e35, Deferred.ofValue]
   simp only [hres, pure_bind]
   exact hy
  rw [hrun]
  refine ⟨(fun x => by cases x), hR.mono ?_⟩
  rintro e w2 ⟨rfl, L', I2, G2, y1, y2, y3, y4, y5⟩
  have hs2 : SRel w2 I2 G2 ((36, .pv (.bool true)) :: (32, .pv (.bool true)) :: eM (.func (.yield l) #[] #[]) i f) (aM nl T (aA L')) 39 (a1.put o.dst (.bool true)) := by
   have s1 : SRel w1 I1 G1 ((32, .pv (.bool true)) :: eM (.func (.yield l) #[] #[]) i f) (aM nl T (aA L)) 39 a1 := hs1.le (LeE.le ⟨rfl, rfl, rfl, rfl, rfl, rfl, trivial⟩)
   obtain ⟨p1, p2⟩ := kK (v := .pv (.bool true)) hdst s1.hn y2 (s1.he.mono y3 y4) (.pv _ _ (.bool true))
   have : put o (.pv (.bool true)) ((32, .pv (.bool true)) :: eM (.func (.yield l) #[] #[]) i f) = (36, .pv (.bool true)) :: (32, .pv (.bool true)) :: eM (.func (.yield l) #[] #[]) i f := by unfold put; rw [q5]; rfl
   rwa [this] at p1
  have := wM (ro := none) (n := 0) (k := 9) q2 hsuf (by rw [eb]; exact ⟨rfl, rfl⟩ : cA Tryz.prog (fun _ => none) 39 O.toList (O.toList.drop 9) _ _ (fun e' h' => e' = _ /\ h' = aM nl T (aA L'))) hs2 (Q := fun x a' w' => x = .normal /\ ∃ L' I' G', (if f + 1 < i then YQ key L f i L' else L' = L) /\ SRel w' I' G' ((38, .pv (.bool false)) :: eM (.func (.yield l) #[] #[]) i f) (aM nl T (aA L')) 39 a' /\ a'.defers = a.defers /\ Z w' I' G' (aM nl T (aA L'))) (fun a w h => nomatch h.1) (by
   rintro _ _ w3 I3 G3 a3 ⟨rfl, rfl⟩ hs3 hd3 ht3
   refine ⟨rfl, L', I3, G3, by rw [if_pos hc]; exact y1, hs3.le (LeE.le ⟨rfl, rfl, rfl, rfl, rfl, rfl, trivial⟩), hd3.trans ((by unfold Act.put; cases o.dst <;> rfl : (a1.put o.dst (.bool true)).defers = a1.defers).trans hd1), hZ _ _ _ _ _ _ _ _ y5 hs2.hh hs3.hh ht3.toN⟩)
  rw [hl2] at this
  exact this
 ·have hd' : decide ((i : Int) - f > 1) = false := by simp; omega
  rw [hd'] at hs1 h32 ⊢
  rw [if_neg (by simp)]
  refine ⟨fun _ _ => trivial, ?_⟩
  have hlt : 36 < a1.tmps.size := by rw [hs1.hn]; omega
  have hs2 : SRel w1 I1 G1 ((32, .pv (.bool false)) :: eM (.func (.yield l) #[] #[]) i f) (aM nl T (aA L)) 39 (a1.put o.dst undef) := by
   have s1 : SRel w1 I1 G1 ((32, .pv (.bool false)) :: eM (.func (.yield l) #[] #[]) i f) (aM nl T (aA L)) 39 a1 := hs1.le (LeE.le ⟨rfl, rfl, rfl, rfl, rfl, rfl, trivial⟩)
   obtain ⟨p1, p2⟩ := kK (v := .bot) (cv := undef) hdst s1.hn s1.hh s1.he (.bot _)
   have : put o .bot ((32, .pv (.bool false)) :: eM (.func (.yield l) #[] #[]) i f) = (36, .bot) :: (32, .pv (.bool false)) :: eM (.func (.yield l) #[] #[]) i f := by unfold put; rw [q5]; rfl
   rw [this] at p1
   exact p1.le (LeE.le ⟨rfl, rfl, rfl, rfl, rfl, rfl, trivial⟩)
  have := wM (ro := none) (n := 0) (k := 9) q2 hsuf (by rw [ec]; exact ⟨rfl, rfl⟩ : cA Tryz.prog (fun _ => none) 39 O.toList (O.toList.drop 9) _ _ (fun e' h' => e' = _ /\ h' = aM nl T (aA L))) hs2 (Q := fun x a' w' => x = .normal /\ ∃ L' I' G', (if f + 1 < i then YQ key L f i L' else L' = L) /\ SRel w' I' G' ((38, .pv (.bool false)) :: eM (.func (.yield l) #[] #[]) i f) (aM nl T (aA L')) 39 a' /\ a'.defers = a.defers /\ Z w' I' G' (aM nl T (aA L'))) (fun a w h => nomatch h.1) (by
   rintro _ _ w3 I3 G3 a3 ⟨rfl, rfl⟩ hs3 hd3 ht3
   exact ⟨rfl, L, I3, G3, by rw [if_neg hc], hs3.le (LeE.le ⟨rfl, rfl, rfl, rfl, rfl, rfl, trivial⟩), hd3.trans ((by unfold Act.put; cases o.dst <;> rfl : (a1.put o.dst undef).defers = a1.defers).trans hd1), hZ _ _ _ _ _ _ _ _ hz1 hs2.hh hs3.hh ht3.toN⟩)
  rw [hl2] at this
  exact this
end
end Go.Eng


