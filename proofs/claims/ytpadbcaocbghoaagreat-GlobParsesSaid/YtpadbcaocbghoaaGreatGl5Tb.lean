/- States run over the code: what each function gives, and what follows. -/
import Derived.Test.YtpadbcaocbghoaaGreatGl5Ta
open Go.IntKind (i64 i32)
open Go.Proofs.Tryz renaming prog → qa
open List renaming length_append → qb, drop → qc, take_of_length_le → qd, replicate → qf, append_assoc → qg, length_take → qi, take_append_drop → qj, append_nil → qm, getElem?_append_right → qn, flatten_cons → qo, getElem_mem → qq, length_cons → qr, length_nil → qt, flatten_nil → qv, cons_append → qw, take → qz, nil_append → qaa, drop_zero → qab, mem_cons_self → qac, getD → qad, drop_eq_getElem_cons → qae, map_append → qaf, getElem?_eq_getElem → qag, filter_cons → qah, length_drop → qai, filter_append → qaj, mem_append → qak, getElem?_append_left → qan, getElem?_replicate → qao, mem_cons → qap, getElem?_drop → qaq, drop_of_length_le → qar, getElem?_eq_none → qas, mem_cons_of_mem → qau, flatten_append → qav, getElem?_take_of_lt → qay, getElem?_set → qaz, not_mem_nil → qbb, getElem_of_mem → qbe, mem_singleton → qbf, pairwise_singleton → qbi, length_map → qbj, drop_eq_nil_of_le → qbk, mem_of_getElem? → qbl, mem_of_mem_take → qbm, mem_of_mem_drop → qbn, map_cons → qbo, reverse_append → qbp, map_nil → qbq, getElem?_take → qbs, ext_getElem? → qbv, getElem_take → qbw, flatMap_cons → qbx, range' → qby, mem_flatMap → qbz, take_append → qcb, perm_cons → qcd
open Int renaming le_refl → qe, tdiv_eq_ediv_of_nonneg → qx, tmod_eq_emod_of_nonneg → qy, toNat_natCast → qam, le_of_lt → qax
open Bool renaming and_eq_true → qh, not_eq_true' → qp, not_eq_true → qat, and_true → qba, false_eq_true → qbt, eq_iff_iff → qcc, false_or → qce, not_true → qcf
open Decidable renaming not_not → qk
open Nat renaming le_refl → ql, lt_or_ge → qaw, zero_add → qbc, eq_zero_or_pos → qbg, reduceAdd → qbh, one_le_two_pow → qbr, lt_of_lt_of_le → qbu
open Array renaming getD_eq_getD_getElem? → qu, getElem?_append_left → qal, replicate → qbd
open Option renaming getD_some → qca
set_option linter.unusedVariables false
set_option linter.unusedSimpArgs false
set_option maxRecDepth 100000
set_option linter.constructorNameAsVariable false
namespace Go.Eng
open Go Go.Proofs Go.Eng.Trie
def encF (v : (Bool × Bool × Bool × Bool)) : List PV := [.bool v.1, .bool v.2.1, .bool v.2.2.1, .bool v.2.2.2]
theorem EF : Enc qa [4, 4, 4, 4] encF := ⟨fun a => by
 simp only [encF, bE, qba];rw [show Tryz.prog.underlying 4 = some (.bool) by kernel_rfl];rfl, fun a b => by
 obtain ⟨a0, a1, a2, a3⟩ := a;obtain ⟨b0, b1, b2, b3⟩ := b;simp only [encF, bR, eG, qba];rw [qcc]
 simp⟩
def pcF (p : Pc (Bool × Bool × Bool × Bool)) : List PV := [.int .i64 p.fr, .int .i64 p.to] ++ encF p.v
def kR (l : List (Pc (Bool × Bool × Bool × Bool))) : List (List PV) := l.map pcF
theorem zrn (p : Pc (Bool × Bool × Bool × Bool)) : (pcF p).length = 6 := rfl
theorem zhw (l : List (Pc (Bool × Bool × Bool × Bool))) : (kR l).length = l.length := by simp [kR]
theorem zaa (n f : Bool) (l : List (Pc (Bool × Bool × Bool × Bool))) (z : (Bool × Bool × Bool × Bool)) (i last : Int) (hl : l.length < 4611686018427387904) (hok : ∀ p ∈ l, -9223372036854775808 <= p.fr - 1 /\ p.fr - 1 <= 9223372036854775807) :
 PCall qa 88 [.sl n f (kR l), .agg (encF z), .int .i64 i, .int .i64 last] fun v => v = .tup [.agg (encF (findL l z i last).1), .int .i64 (findL l z i last).2] := by
 refine zri _ _ _ z.1 z.2.1 z.2.2.1 z.2.2.2 _ _ (fun a k _ _ _ _ => 0 <= k /\ k <= l.length /\ findL l z i last = findL (l.drop k.toNat) z i a) (fun _ k _ _ _ _ => l.length - k.toNat) ?_;unfold zhr;refine ⟨⟨rfl, qe _, by omega, rfl⟩, ?_⟩;rintro a k _ _ _ _ ⟨k0, k1, he⟩;refine aC (fun hc => ?_) (fun hc => ?_)
 ·simp only [aB, zhw] at hc;have hk : k.toNat < l.length := by omega
  have hw : i64.wrap (k + 1) = k + 1 := aF (by omega) (by omega);have hn : (k + 1).toNat = k.toNat + 1 := by omega
  have hg : (kR l).getD k.toNat [] = pcF l[k.toNat] := cG hk;have hix : aI (kR l) k 6 := bT zrn k0 (by omega);have hm := hok _ (qq hk);rw [drop_cons hk] at he;rw [hw];dsimp only;rw [hn];have hmu : l.length - (k.toNat + 1) < l.length - k.toNat := by omega
  refine ⟨hix, l[k.toNat].fr, by rw [hg]; rfl, l[k.toNat].to, by rw [hg]; rfl, l[k.toNat].v.1, by rw [hg]; rfl, l[k.toNat].v.2.1, by rw [hg]; rfl, l[k.toNat].v.2.2.1, by rw [hg]; rfl, l[k.toNat].v.2.2.2, by rw [hg]; rfl, ?_⟩;generalize l[k.toNat] = p at *;have hw2 : i64.wrap (p.fr - 1) = p.fr - 1 := aF hm.1 hm.2;rw [hw2];rw [zL] at he;by_cases h1 : p.fr <= i
  ·refine bD (by simpa using h1) ?_
   by_cases h2 : i <= p.to
   ·refine bD (by simpa using h2) ?_
    rw [if_pos ⟨h1, h2⟩] at he;rw [he]
    repeat' (first | rfl | apply And.intro)
   ·refine bA (by simpa using h2) ?_
    rw [if_neg (by omega), if_neg (by omega)] at he;refine bA (by simp; omega) ?_;exact ⟨rfl, ⟨by omega, by omega, he⟩, hmu⟩
  ·refine bA (by simpa using h1) ?_
   rw [if_neg (by omega)] at he;refine bD (by simp; omega) ?_;by_cases h3 : p.fr <= a
   ·refine bD (by simpa using h3) ?_
    rw [if_pos (by omega)] at he;exact ⟨rfl, ⟨by omega, by omega, he⟩, hmu⟩
   ·refine bA (by simpa using h3) ?_
    rw [if_neg (by omega)] at he;exact ⟨rfl, ⟨by omega, by omega, he⟩, hmu⟩
 ·simp only [aB, zhw] at hc;rw [qar (by omega)] at he;rw [he]; rfl
def TrieF (sz : Int) (F : Int -> (Bool × Bool × Bool × Bool)) (v : PV) : Prop := ∃ n f n2 f2 idx blk, v = .ptr [.int .i64 sz, .sl n f (aW idx), .sl n2 f2 (bF encF blk)] /\ TOK sz F idx blk
theorem zhx {sz : Int} {F : Int -> (Bool × Bool × Bool × Bool)} {t : PV} (ht : TrieF sz F t) (i : Int) (h1 : sz <= 1114112) : PCall qa 70 [t, .int .i64 i] fun v => v = .agg (encF (if 0 <= i /\ i < sz then F i else (false, false, false, false))) := by
 obtain ⟨n, f, n2, f2, idx, blk, rfl, ht⟩ := ht;refine zrj _ _ _ _ _ _ _ _ ?_;unfold zhs;refine aC (fun hc => ?_) (fun hc => ?_)
 ·simp only [aB] at hc;rw [if_neg (by omega)]; rfl
 ·simp only [aB] at hc;refine ⟨_, rfl, ?_⟩;refine aC (fun hc2 => ?_) (fun hc2 => ?_)
  ·simp only [aB, ge_iff_le] at hc2;rw [if_neg (by omega)]; rfl
  ·simp only [aB, ge_iff_le] at hc2;rw [if_pos (by omega)];obtain ⟨hq, g0, hk, hj, he⟩ := ht.get (i := i) (by omega) (by omega);have hw : i64.wrap (i.tdiv 128) = i / 128 := by rw [qx (by omega)]; exact aF (by omega) (by omega)
   have hm : i.tmod 128 = i % 128 := qy (by omega);have hg : (aW idx).getD (i / 128).toNat [] = [.int .i64 idx[(i / 128).toNat]] := cG hq;have hg2 : (bF encF blk).getD idx[(i / 128).toNat].toNat [] = cells encF blk[idx[(i / 128).toNat].toNat] := cG hk;refine ⟨_, _, _, rfl, _, _, _, rfl, ?_⟩;rw [hw];have := EF.at _ _ hj;simp only [qr, qt, qbc, qbh] at this
   have hcell : qc ((i % 128).toNat * 4) ((bF encF blk).getD idx[(i / 128).toNat].toNat []) = encF (F i) ++ (qc ((i % 128).toNat + 1) (blk[idx[(i / 128).toNat].toNat]).1).flatMap encF := by
    rw [hg2]; unfold cells; rw [this, he]
   refine ⟨bT mW (by omega) (by omega), idx[(i / 128).toNat], by rw [hg]; rfl, bT (EF.cells_len) g0 (by omega), by rw [hm]; omega, ?_⟩;rw [hm, hcell];exact ⟨(F i).1, rfl, (F i).2.1, rfl, (F i).2.2.1, rfl, (F i).2.2.2, rfl, rfl⟩
def cF (b : aS (Bool × Bool × Bool × Bool)) : List PV := cells encF b
def kvF (k : Int) : PV := .int .i64 k
def fO (kn : List (aS (Bool × Bool × Bool × Bool) × Int)) : List (PV × PV) := cH (fun b => .agg (cF b)) kvF kn
def gT (ev : List ((Bool × Bool × Bool × Bool) × Int)) : List (PV × PV) := cH (fun v => .agg (encF v)) kvF ev
def lX (sz : Int) (kn : List (aS (Bool × Bool × Bool × Bool) × Int)) (ev : List ((Bool × Bool × Bool × Bool) × Int)) (ixm ixn bkm bkn : Bool) (idx : List Int) (blk : List (aS (Bool × Bool × Bool × Bool))) : Hp :=
 [.box [.box 1 0, .mp 2, .mp 3], .box [.pv (.int .i64 sz), .own 4, .own 5], .mp (fO kn), .mp (gT ev), .sl (3, 1) ixm ixn (aW idx), .sl (178, 512) bkm bkn (bF encF blk)]
theorem mY (b : aS (Bool × Bool × Bool × Bool)) : (cF b).length = 512 := EF.cells_len b
theorem zab (b : aS (Bool × Bool × Bool × Bool)) : qz 512 (qc 0 (cF b)) = cF b := by rw [qab, qd (by rw [mY]; omega)]
theorem zhy : eV qa 178 = true := by kernel_rfl
theorem zhz : fV qa 178 = (qf 128 [4, 4, 4, 4]).flatten := by kernel_rfl
theorem zh0 : eV qa 112 = true := by kernel_rfl
theorem zh1 : fV qa 112 = [4, 4, 4, 4] := by kernel_rfl
theorem zro (b : aS (Bool × Bool × Bool × Bool)) (kn : List (aS (Bool × Bool × Bool × Bool) × Int)) : bW (.agg (cF b)) (fO kn) = (bU b kn).map kvF := mQ (ek := fun b => PV.agg (cF b)) (ev := kvF) EF.blkEq b kn
theorem zrp (b : aS (Bool × Bool × Bool × Bool)) (k : Int) (kn : List (aS (Bool × Bool × Bool × Bool) × Int)) : bK (.agg (cF b)) (kvF k) (fO kn) = fO (cC b k kn) := jM (ek := fun b => PV.agg (cF b)) (ev := kvF) EF.blkEq b k kn
theorem zh2 (b : aS (Bool × Bool × Bool × Bool)) : a8 qa 178 (.agg (cF b)) = true := EF.blkOk zhy zhz b
theorem zh3 (kn : List (aS (Bool × Bool × Bool × Bool) × Int)) : cO qa 178 (fO kn) := EF.blksOk zhy zhz kn
theorem zh4 {sz : Int} {F : Int -> (Bool × Bool × Bool × Bool)} {idx : List Int} {blk : List (aS (Bool × Bool × Bool × Bool))} {kn : List (aS (Bool × Bool × Bool × Bool) × Int)} {ev : List ((Bool × Bool × Bool × Bool) × Int)} (hk : TInv sz F idx blk kn ev) (hb : blk.length <= 10000000) (ixn bkn : Bool) (b : aS (Bool × Bool × Bool × Bool)) :
 ACall qa 90 [.box 0 0, .pv (.agg (cF b))] (lX sz kn ev false ixn false bkn idx blk) fun r h' => ∃ k kn' bn' blk', r = .pv (kvF k) /\ h' = lX sz kn' ev false ixn true bn' idx blk' /\ TInv sz F idx blk' kn' ev /\ 0 <= k /\ blk'[k.toNat]? = some b /\ blk'.length <= blk.length + 1 := by
 refine ACall.mark 1000 [5] (R := fun r h' => ∃ k kn' bm' bn' blk', r = .pv (kvF k) /\ h' = lX sz kn' ev false ixn bm' bn' idx blk' /\ TInv sz F idx blk' kn' ev /\ 0 <= k /\ blk'[k.toNat]? = some b /\ blk'.length <= blk.length + 1) ?_ ?_
 ·refine zrk _ _ _ _ _ _ _ _ _ _ ?_;unfold zht;rw [zab, zro];have h128 : 512 <= (qc 0 (cF b)).length := by rw [qab, mY]; omega
  refine ⟨h128, zh3 kn, zh2 b, fun v hv => ?_, fun hv => ?_⟩
  ·cases hg : bU b kn with
   | none => rw [hg] at hv; cases hv
   | some k =>
     rw [hg] at hv; cases hv;obtain ⟨k0, k1⟩ := hk.kn_ok b k hg;exact ⟨k, rfl, k, kn, false, bkn, blk, rfl, rfl, hk, k0, k1, by omega⟩
  ·have hsz : aQ [cF b] 512 /\ ((bF encF blk).length + 1) * 512 <= 140737488355328 := ⟨fun e he => by simp at he; subst he; exact mY b, by rw [kP]; omega⟩
   have fin : ∃ k kn' bm' bn' blk', LV.pv (.int .i64 ((bF encF blk).length : Int)) = .pv (kvF k) /\
    [Ob.box [.box 1 0, .mp 2, .mp 3], .box [.pv (.int .i64 sz), .own 4, .own 5], .mp (bK (.agg (cF b)) (.int .i64 ((bF encF blk).length : Int)) (fO kn)), .mp (gT ev), .sl (3, 1) false ixn (aW idx), .sl (178, 512) true (bkn && false) (bF encF blk ++ [cF b])] = lX sz kn' ev false ixn bm' bn' idx blk' /\ TInv sz F idx blk' kn' ev /\ 0 <= k /\ blk'[k.toNat]? = some b /\ blk'.length <= blk.length + 1 := by
    refine ⟨blk.length, cC b (blk.length : Int) kn, true, bkn && false, blk ++ [b], by rw [kP]; rfl, ?_, hk.place b, by omega, by simp, by simp⟩;have := zrp b (blk.length : Int) kn;unfold kvF at this;rw [kP, this];simp [lX, bF, cF]
   exact ⟨h128, zh3 kn, zh2 b, h128, ⟨mY b, hsz, fin⟩, mY b, ⟨hsz, fin⟩, hsz, fin⟩
 ·rintro r h' ⟨k, kn', bm', bn', blk', rfl, rfl, h1, h2, h3, h4⟩;exact ⟨k, kn', bn', blk', rfl, rfl, h1, h2, h3, h4⟩
theorem zrq (v : (Bool × Bool × Bool × Bool)) (ev : List ((Bool × Bool × Bool × Bool) × Int)) : bW (.agg (encF v)) (gT ev) = (bU v ev).map kvF := mQ (ek := fun v => PV.agg (encF v)) (ev := kvF) EF.valEq v ev
theorem zrr (v : (Bool × Bool × Bool × Bool)) (k : Int) (ev : List ((Bool × Bool × Bool × Bool) × Int)) : bK (.agg (encF v)) (kvF k) (gT ev) = gT (cC v k ev) := jM (ek := fun v => PV.agg (encF v)) (ev := kvF) EF.valEq v k ev
theorem zh5 (v : (Bool × Bool × Bool × Bool)) : a8 qa 112 (.agg (encF v)) = true := EF.valOk zh0 zh1 v
theorem zh6 (ev : List ((Bool × Bool × Bool × Bool) × Int)) : cO qa 112 (gT ev) := EF.valsOk zh0 zh1 ev
theorem zac (l : List (Bool × Bool × Bool × Bool)) (j : Nat) (hj : j < l.length) (v : (Bool × Bool × Bool × Bool)) : aR (l.flatMap encF) (0 + j * 4) (encF v) = (l.set j v).flatMap encF := by
 have := EF.put l j hj v;simp only [qr, qt, qbc, qbh] at this ⊢;exact this
theorem zad (l : List (Bool × Bool × Bool × Bool)) : (l.flatMap encF).length = l.length * 4 := EF.flen l
theorem zh7 : qf 512 (PV.bool false) = (qf 128 ((false, false, false, false) : (Bool × Bool × Bool × Bool))).flatMap encF := by rfl
theorem zrs {l : List (Bool × Bool × Bool × Bool)} {v : (Bool × Bool × Bool × Bool)} (hl : l.length = 128) (h : ∀ q, q < 128 -> l[q]? = some v) : l = qf 128 v := by
 refine qbv fun q => ?_;rcases qaw q 128 with hq | hq
 ·rw [h q hq, qao, if_pos hq]
 ·rw [qas (by omega), qas (by simp; omega)]
theorem zrt {sz : Int} {F : Int -> (Bool × Bool × Bool × Bool)} {idx : List Int} {blk : List (aS (Bool × Bool × Bool × Bool))} {kn : List (aS (Bool × Bool × Bool × Bool) × Int)} {ev : List ((Bool × Bool × Bool × Bool) × Int)} (hk : TInv sz F idx blk kn ev) (hb : blk.length <= 10000000) (ixn bkn : Bool) (v : (Bool × Bool × Bool × Bool)) :
 ACall qa 89 [.box 0 0, .pv (.agg (encF v))] (lX sz kn ev false ixn false bkn idx blk) fun r h' => ∃ k kn' ev' bn' blk', r = .pv (kvF k) /\ h' = lX sz kn' ev' false ixn true bn' idx blk' /\ TInv sz F idx blk' kn' ev' /\ 0 <= k /\ blk'[k.toNat]? = some (rep v) /\ blk'.length <= blk.length + 1 := by
 refine ACall.mark 1000 [5] (R := fun r h' => ∃ k kn' ev' bm' bn' blk', r = .pv (kvF k) /\ h' = lX sz kn' ev' false ixn bm' bn' idx blk' /\ TInv sz F idx blk' kn' ev' /\ 0 <= k /\ blk'[k.toNat]? = some (rep v) /\ blk'.length <= blk.length + 1) ?_ ?_
 ·refine zrl _ _ _ _ _ _ _ _ _ v.1 v.2.1 v.2.2.1 v.2.2.2 (fun x m2 m3 c => 0 <= x /\ x <= 128 /\ m2 = fO kn /\ m3 = gT ev /\ ∃ l : List (Bool × Bool × Bool × Bool), l.length = 128 /\ c = l.flatMap encF /\ ∀ q, q < x.toNat -> l[q]? = some v) (fun x _ _ _ => 128 - x.toNat) ?_;unfold zhu;rw [show [.bool v.1, .bool v.2.1, .bool v.2.2.1, .bool v.2.2.2] = encF v from rfl, zrq];refine ⟨zh6 ev, zh5 v, fun u hu => ?_, fun hu => ⟨⟨rfl, qe _, by omega, rfl, rfl, qf 128 (false, false, false, false), by simp, zh7, fun q hq => by simp at hq⟩, ?_⟩⟩
  ·cases hg : bU v ev with
   | none => rw [hg] at hu; cases hu
   | some k =>
     rw [hg] at hu; cases hu;obtain ⟨k0, k1⟩ := hk.ev_ok v k hg;exact ⟨k, rfl, k, kn, ev, false, bkn, blk, rfl, rfl, hk, k0, k1, by omega⟩
  ·rintro x _ _ _ ⟨x0, x1, rfl, rfl, l, hl, rfl, hq⟩;refine aC (fun hc => ?_) (fun hc => ?_)
   ·simp only [aB] at hc;have hw : i64.wrap (x + 1) = x + 1 := aF (by omega) (by omega);have hn : (x + 1).toNat = x.toNat + 1 := by omega
    rw [zac l x.toNat (by omega) v, hw, zad];refine ⟨⟨x0, hc⟩, ⟨rfl, by omega⟩, rfl, ⟨by omega, by omega, rfl, rfl, l.set x.toNat v, by simpa using hl, rfl, fun q hq' => ?_⟩, by dsimp only; omega⟩
    rw [hn] at hq';rw [qaz];by_cases e : x.toNat = q
    ·rw [if_pos e, if_pos (by omega)]
    ·rw [if_neg e]; exact hq q (by omega)
   ·simp only [aB] at hc;have hx : x = 128 := by omega
    subst hx;have hrep := zrs hl hq;subst hrep;have hcI : (qf 128 v).flatMap encF = cF (rep v) := rfl;rw [hcI, zab];refine ⟨by rw [qab, mY]; omega, ?_⟩;refine (zh4 hk hb ixn bkn (rep v)).mono ?_;rintro _ _ ⟨k, kn', bn', blk', rfl, rfl, h1, h2, h3, h4⟩;refine ⟨(k, fO kn', bn', bF encF blk'), ⟨rfl, rfl⟩, ⟨trivial, ⟨rfl, rfl, rfl⟩, trivial, trivial, trivial, trivial, trivial⟩, zh6 ev, zh5 v, ?_⟩;have := zrr v k ev;unfold kvF at this;simp only [this];exact ⟨k, kn', cC v k ev, _, bn', blk', rfl, rfl, h1.even h2 h3, h2, h3, h4⟩
 ·rintro r h' ⟨k, kn', ev', bm', bn', blk', rfl, rfl, h1, h2, h3, h4⟩;exact ⟨k, kn', ev', bn', blk', rfl, rfl, h1, h2, h3, h4⟩
theorem zru {v : (Bool × Bool × Bool × Bool)} {j : Nat} {u : (Bool × Bool × Bool × Bool)} (h : (Trie.rep v).1[j]? = some u) : u = v /\ j < 128 := by
 simp only [Trie.rep, qao] at h;split at h
 ·rename_i hj; cases h; exact ⟨rfl, hj⟩
 ·cases h
theorem zrv (sz : Int) (z : (Bool × Bool × Bool × Bool)) (n f : Bool) (l : List (Pc (Bool × Bool × Bool × Bool))) (hl : l.length < 4611686018427387904) (hok : ∀ p ∈ l, -9223372036854775808 <= p.fr - 1 /\ p.fr - 1 <= 9223372036854775807) (hs1 : 1 <= sz) (hs2 : sz <= 1114112) :
 PCall qa 60 [.int .i64 sz, .agg (encF z), .sl n f (kR l)] fun v => TrieF sz (fM l z) v := by
 have hF := fun i => qZ l z i (sz - 1);generalize hFF : fM l z = F at *
 refine zrm _ z.1 z.2.1 z.2.2.1 z.2.2.2 _ _ _
  (fun x10 x11 va vb vc vd _ s2 _ s3 m4 m5 => ∃ idx blk kn ev, s2 = aW idx /\ s3 = bF encF blk /\ m4 = fO kn /\ m5 = gT ev /\ TInv sz F idx blk kn ev /\ x11 = 128 * idx.length /\ blk.length <= idx.length /\ x11 < sz + 128 /\ (∀ j, x11 <= j -> j <= x10 -> F j = (va, vb, vc, vd)) /\ x10 <= sz - 1)
  (fun _ x11 _ _ _ _ _ _ _ _ _ _ => (sz + 128 - x11).toNat)
  (fun _ y11 _ _ _ _ _ _ _ _ _ _ _ x10 x11 x13 va vb vc vd _ s2 _ s3 m4 m5 => ∃ idx blk kn ev, s2 = aW idx /\ s3 = bF encF blk /\ m4 = fO kn /\ m5 = gT ev /\ TInv sz F idx blk kn ev /\ x11 = 128 * idx.length /\ x11 < sz + 128 /\ (∀ j, x11 <= j -> j <= x10 -> F j = (va, vb, vc, vd)) /\ x10 <= sz - 1 /\ 0 <= x13 /\ blk[x13.toNat]? = some (rep (va, vb, vc, vd)) /\
   ((x11 = y11 /\ x11 < sz /\ (x11 + 127 <= x10 ∨ sz - 1 <= x10) /\ blk.length <= idx.length + 1) ∨ (y11 + 128 <= x11 /\ blk.length <= idx.length)))
  (fun _ x11 _ _ _ _ _ _ _ _ _ _ _ => (sz + 128 - x11).toNat)
  (fun _ y11 _ _ _ _ _ _ _ _ _ _ _ _ x10 x11 x va vb vc vd c _ s3 _ s4 m5 m6 => ∃ idx blk kn ev, s3 = aW idx /\ s4 = bF encF blk /\ m5 = fO kn /\ m6 = gT ev /\ TInv sz F idx blk kn ev /\ x11 = 128 * idx.length /\ blk.length <= idx.length /\ x11 = y11 /\ x11 < sz /\ 0 <= x /\ x <= 128 /\ x10 <= sz - 1 /\ (∀ j, x11 + x <= j -> j <= x10 -> F j = (va, vb, vc, vd)) /\
   ∃ b : List (Bool × Bool × Bool × Bool), b.length = 128 /\ c = b.flatMap encF /\ ∀ (q : Nat) u, b[q]? = some u -> q < x.toNat -> x11 + q < sz -> u = F (x11 + q))
  (fun _ _ x _ _ _ _ _ _ _ _ _ _ _ => (128 - x).toNat) ?_
 unfold zhv;have hw1 : i64.wrap (sz - 1) = sz - 1 := aF (by omega) (by omega);rw [hw1];refine bA (by simp; omega) ?_;refine (zaa n f l z 0 (sz - 1) hl hok).mono ?_;rintro _ rfl;obtain ⟨_, f2, f3, f4⟩ := hF 0 (by omega);refine ⟨_, rfl, rfl, _, rfl, _, rfl, rfl, _, rfl, _, rfl, _, rfl, _, rfl, _, rfl, _, rfl, ⟨rfl, [], [], [], [], rfl, rfl, rfl, rfl, TInv.nil, rfl, ql _, by omega, f4, f3⟩, ?_⟩;clear f2 f3 f4;rintro u0 x v0a v0b v0c v0d _ _ _ _ _ _ ⟨idx, blk, kn, ev, rfl, rfl, rfl, rfl, hk, hx, hb, hx2, hv0, hu0⟩;refine aC (fun hc => ?_) (fun hc => ?_)
 ·simp only [aB] at hc;have hw2 : i64.wrap (x + 128) = x + 128 := aF (by omega) (by omega);rw [hw2]
  have hmin : ∀ a : Int, i64.wrap ((if sz < a + 128 then sz else a + 128) - 1) = (if sz < a + 128 then sz else a + 128) - 1 ∨ ¬ (0 <= a /\ a <= 1114112) := fun a => by
   by_cases ha : 0 <= a /\ a <= 1114112
   ·left; split <;> exact aF (by omega) (by omega)
   ·exact .inr ha
  have hmx := (hmin x).resolve_right (by omega);rw [hmx];refine aC (fun hgt => ?ga) (fun hgt => ?gb)
  case' ga =>
   refine (zaa n f l z x (sz - 1) hl hok).mono ?_;rintro _ rfl;obtain ⟨_, hux, hu, hv⟩ := hF x (by omega);refine ⟨_, rfl, rfl, _, rfl, _, rfl, rfl, _, rfl, _, rfl, _, rfl, _, rfl, _, rfl, _, rfl, ?_⟩
   revert hv hu
   generalize (findL l z x (sz - 1)).1 = v;generalize (findL l z x (sz - 1)).2 = u;clear hv0 hu0 hux;intro hu hv
  case' gb =>
   obtain ⟨v, rfl, rfl, rfl, rfl⟩ : ∃ v : (Bool × Bool × Bool × Bool), v.1 = v0a /\ v.2.1 = v0b /\ v.2.2.1 = v0c /\ v.2.2.2 = v0d := ⟨(v0a, v0b, v0c, v0d), rfl, rfl, rfl, rfl⟩
   revert hv0 hu0 hgt
   generalize u0 = u;intro hu hgt hv
  all_goals
   clear hgt;refine aC (fun hc2 => ?_) (fun hc2 => ?_)
   ·simp only [aB, ge_iff_le] at hc2;have hc3 : x + 127 <= u ∨ sz - 1 <= u := by split at hc2 <;> omega
    refine (zrt hk (by omega) _ _ v).mono ?_;rintro _ _ ⟨k, kn', ev', bn', blk', rfl, rfl, g1, g2, g3, g4⟩;refine ⟨(k, fO kn', gT ev', bn', bF encF blk'), ⟨rfl, rfl⟩, ⟨trivial, ⟨rfl, rfl, rfl⟩, trivial, trivial, trivial, trivial, trivial⟩, ⟨rfl, idx, blk', kn', ev', rfl, rfl, rfl, rfl, g1, hx, hx2, hv, hu, g2, g3, .inl ⟨rfl, hc, hc3, by omega⟩⟩, ?_⟩;rintro t y k' wa wb wc wd _ _ _ _ _ _ ⟨idx2, blk2, kn2, ev2, rfl, rfl, rfl, rfl, hk2, hy, hy2, hw, ht, hk0, hkb, hor⟩;have hwy : i64.wrap (y + 128) = y + 128 := aF (by omega) (by omega);rw [hwy, (hmin y).resolve_right (by omega)];refine aC (fun hc4 => ?_) (fun hc4 => ?_)
    ·simp only [qh, aB, ge_iff_le] at hc4;have hc5 : y + 127 <= t ∨ sz - 1 <= t := by have := hc4.2; split at this <;> omega
     refine ⟨⟨fun e he => by simp at he; subst he; rfl, by rw [jQ]; omega⟩, rfl, ⟨idx2 ++ [k'], blk2, kn2, ev2, by simp [aW], rfl, rfl, rfl, hk2.push hk0 hkb fun j u' hj hlt => ?_, by simp; omega, by omega, fun j h1 h2 => hw j (by omega) h2, ht, hk0, hkb, .inr ⟨by omega, by simp; omega⟩⟩, by dsimp only; omega⟩;obtain ⟨rfl, hj2⟩ := zru hj;exact (hw _ (by omega) (by omega)).symm
    ·have hw128 : i64.wrap (y - 128) = y - 128 := aF (by omega) (by omega);have hback : i64.wrap (y - 128 + 128) = y := by rw [aF (by omega) (by omega)]; omega
     rw [hw128, hback];simp only [qh, aB, ge_iff_le, not_and] at hc4
     have hor2 : x + 128 <= y /\ blk2.length <= idx2.length := by
      rcases hor with ⟨h1, h2, h3, h4⟩ | h
      ·exfalso;have := hc4 h2;split at this <;> omega
      ·exact h
     exact ⟨rfl, ⟨idx2, blk2, kn2, ev2, rfl, rfl, rfl, rfl, hk2, hy, hor2.2, hy2, hw, ht⟩, by dsimp only; omega⟩
   ·clear hc2;refine ⟨⟨rfl, idx, blk, kn, ev, rfl, rfl, rfl, rfl, hk, hx, hb, rfl, hc, qe _, by omega, hu, fun j h1 h2 => hv j (by omega) h2, qf 128 (false, false, false, false), by simp, zh7, fun q u' _ hq _ => by simp at hq⟩, ?_⟩;rintro t y i wa wb wc wd _ _ _ _ _ _ _ ⟨idx2, blk2, kn2, ev2, rfl, rfl, rfl, rfl, hk2, hy, hb2, hyx, hy2, i0, i1, ht, hw, b, hbl, rfl, hbq⟩;obtain ⟨w, rfl, rfl, rfl, rfl⟩ : ∃ v : (Bool × Bool × Bool × Bool), v.1 = wa /\ v.2.1 = wb /\ v.2.2.1 = wc /\ v.2.2.2 = wd := ⟨(wa, wb, wc, wd), rfl, rfl, rfl, rfl⟩;have hwyi : i64.wrap (y + i) = y + i := aF (by omega) (by omega);have hwi : i64.wrap (i + 1) = i + 1 := aF (by omega) (by omega);have hwy : i64.wrap (y + 128) = y + 128 := aF (by omega) (by omega);rw [hwyi, hwi, hwy]
    have step : ∀ (v' : (Bool × Bool × Bool × Bool)) (u' : Int), (∀ j, y + i <= j -> j <= u' -> F j = v') -> u' <= sz - 1 -> (y + i < sz -> F (y + i) = v') -> i < 128 ->
     ∃ idx blk kn ev, aW idx2 = aW idx /\ bF encF blk2 = bF encF blk /\ fO kn2 = fO kn /\ gT ev2 = gT ev /\ TInv sz F idx blk kn ev /\ y = 128 * idx.length /\ blk.length <= idx.length /\ y = x /\ y < sz /\ 0 <= i + 1 /\ i + 1 <= 128 /\ u' <= sz - 1 /\ (∀ j, y + (i + 1) <= j -> j <= u' -> F j = v') /\
      ∃ c : List (Bool × Bool × Bool × Bool), c.length = 128 /\ (b.set i.toNat v').flatMap encF = c.flatMap encF /\ ∀ (q : Nat) u, c[q]? = some u -> q < (i + 1).toNat -> y + q < sz -> u = F (y + q) := fun v' u' h1 h2 h3 h4 => by
     refine ⟨idx2, blk2, kn2, ev2, rfl, rfl, rfl, rfl, hk2, hy, hb2, hyx, hy2, by omega, by omega, h2, fun j a1 a2 => h1 j (by omega) a2, b.set i.toNat v', by simpa using hbl, rfl, fun q u hq hq2 hq3 => ?_⟩
     rw [qaz] at hq;by_cases e : i.toNat = q
     ·rw [if_pos e, if_pos (by omega)] at hq;cases hq;have e2 : y + (q : Int) = y + i := by omega
      rw [e2];exact (h3 (by omega)).symm
     ·rw [if_neg e] at hq;exact hbq q u hq (by omega) hq3
    refine aC (fun hc5 => ?_) (fun hc5 => ?_)
    ·simp only [aB] at hc5;refine aC (fun hc6 => ?_) (fun hc6 => ?_)
     ·simp only [qh, aB, gt_iff_lt] at hc6;refine (zaa n f l z (y + i) (sz - 1) hl hok).mono ?_;rintro _ rfl;obtain ⟨q1, q2, q3, q4⟩ := hF (y + i) (by omega);refine ⟨_, rfl, rfl, _, rfl, _, rfl, rfl, _, rfl, _, rfl, _, rfl, _, rfl, _, rfl, _, rfl, ⟨i0, hc5⟩, ⟨rfl, by rw [zad]; omega⟩, rfl, ?_, by dsimp only; omega⟩;have hput := zac b i.toNat (by omega) (findL l z (y + i) (sz - 1)).1;unfold encF at hput ⊢;rw [hput];exact step _ _ q4 q3 (fun _ => q1.symm) hc5
     ·simp only [qh, aB, gt_iff_lt, not_and] at hc6;refine ⟨⟨i0, hc5⟩, ⟨rfl, by rw [zad]; omega⟩, rfl, ?_, by dsimp only; omega⟩;have hput := zac b i.toNat (by omega) w;unfold encF at hput ⊢;rw [hput];exact step _ _ hw ht (fun h => hw _ (qe _) ((Int.lt_or_le t (y + i)).elim (fun h2 => absurd h (hc6 h2)) id)) hc5
    ·simp only [aB] at hc5;have hi : i = 128 := by omega
     subst hi;obtain ⟨B, hB⟩ : ∃ B : aS (Bool × Bool × Bool × Bool), B.1 = b := ⟨⟨b, hbl⟩, rfl⟩;subst hB;have hcI : B.1.flatMap encF = cF B := rfl;rw [hcI, zab];refine ⟨by rw [qab, mY]; omega, (fun h => ⟨h, h⟩) ?_⟩;refine (zh4 hk2 (by omega) _ _ B).mono ?_;rintro _ _ ⟨k, kn', bn', blk', rfl, rfl, h1, h2, h3, h4⟩;refine ⟨(k, fO kn', bn', bF encF blk'), ⟨rfl, rfl⟩, ⟨trivial, ⟨rfl, rfl, rfl⟩, trivial, trivial, trivial, trivial, trivial⟩, ⟨fun e he => by simp at he; subst he; rfl, by rw [jQ]; omega⟩, rfl, ⟨idx2 ++ [k], blk', kn', ev2, by simp [aW, kvF], rfl, rfl, rfl, h1.push h2 h3 fun j u' hj hlt => ?_, by simp; omega, by simp; omega, by omega, fun j a1 a2 => hw j (by omega) a2, ht⟩, by dsimp only; omega⟩;have hj2 : j < 128 := by have := (List.getElem?_eq_some_iff.1 hj).1; simp only [hbl] at this; exact this
     rw [<- hy];exact hbq j u' hj (by omega) (by omega)
 ·simp only [aB] at hc;exact ⟨_, _, _, _, idx, blk, rfl, by omega, hk.idx_ok⟩
end Go.Eng
namespace Go.Eng
open Go Go.Proofs
def zae (n f : Bool) (es : LL) (za zb : Int) (i x3 x14 h1_0 h1_1 : Int) : Env × Hp := ([(2, Y6 i), (3, Y6 x3), (5, LV.box 0 0), (8, LV.box 1 0), (12, LV.pv (PV.sl n f es)), (13, LV.pv (PV.int i64 (es.length : Int))), (14, Y6 x14)], [.box [LV.pv (PV.int i32 za), LV.pv (PV.int i32 zb)], .box [.pv (.int i32 h1_0), .pv (.int i32 h1_1)]])
section
variable (n f : Bool) (es : LL) (za zb : Int) (i last : Int) (J : Int -> Int -> Int -> Int -> Prop) (μ : Int -> Int -> Int -> Int -> Nat)
def zh8 (R : PV -> Prop) : Prop :=
 (aH (zae n f es za zb i last (0 : Int) (0 : Int) (0 : Int)) /\ J last (0 : Int) (0 : Int) (0 : Int)) /\ ∀ (x3 x14 h1_0 h1_1 : Int), J x3 x14 h1_0 h1_1 ->
 let K2 := fun (y0_ y1_ y2_ y3_ : Int) => aH (zae n f es za zb i y0_ y1_ y2_ y3_) /\ J y0_ y1_ y2_ y3_ /\ μ y0_ y1_ y2_ y3_ < μ x3 x14 h1_0 h1_1; if decide (x14 < (↑es.length : Int)) = true then aI es x14 4 /\ ∃
  (n1 : Int), (es.getD x14.toNat []).head? = some (Z6 n1) /\ ∃ n2, (es.getD x14.toNat []).tail.head? = some (Z6 n2) /\ ∃ n3, (es.getD x14.toNat []).tail.tail.head? = some (Z3 n3) /\ ∃ n4, (es.getD x14.toNat
  []).tail.tail.tail.head? = some (Z3 n4) /\
 let V1 :=
 let V2 := K2 x3 (i64.wrap (x14 + 1)) h1_0 h1_1; if decide (i < n1) = true then if decide (n1 <= x3) = true then K2 (i64.wrap (n1 - 1)) (i64.wrap (x14 + 1)) h1_0 h1_1 else V2 else V2; if decide (n1 <= i) = true then if
  decide (i <= n2) = true then (R (PV.tup [PV.agg [Z3 n3, Z3 n4], Z6 (if x3 < n2 then x3 else n2)]) /\ R (PV.tup [PV.agg [Z3 n3, Z3 n4], Z6 (if x3 < n2 then x3 else n2)])) /\ R (PV.tup [PV.agg [Z3 n3, Z3 n4], Z6 (if x3 < n2 then x3 else n2)])
  else V1 else V1 else R (PV.tup [PV.agg [Z3 za, Z3 zb], Z6 x3])
theorem zrw {R : PV -> Prop} (h : zh8 n f es za zb i last J μ R) : PCall qa 66 [.sl n f es, .agg [.int .i32 za, .int .i32 zb], .int .i64 i, .int .i64 last] R :=
 PCall.wz Tryz.func66 aP [0, 1, 2, 3, 5, 8, 9, 11, 12, 13, 14, 15, 18, 35] (cA 2 (bC iY (zae n f es za zb i) J μ (fun e h => (gI e 3, gI e 14, hI h 1 0, hI h 1 1)) [] [2, 3, 5, 8, 12, 13, 14] [])) h
end
section
variable (sz : Int) (n f n2 f2 : Bool) (es bs : LL) (i : Int)
def zh9 (R : PV -> Prop) : Prop :=
 if decide (i < 0) = true then R (PV.agg [Z3 0, Z3 0]) else ∃ n1, some (Z6 sz) = some (Z6 n1) /\ if decide (i >= n1) = true then R (PV.agg [Z3 0, Z3 0]) else ∃ n3 f1 es1, some (PV.sl n2 f2 bs) = some (PV.sl n3 f1 es1) /\ ∃ n4 f3 es2, some (PV.sl n f es) = some (PV.sl n4 f3 es2) /\ aI es2 (i64.wrap (i.tdiv (128 : Int))) 1 /\ ∃ n5, (es2.getD (i64.wrap (i.tdiv (128 : Int))).toNat []).head? = some (Z6 n5) /\ aI es1 n5 256 /\ ((0 : Int) <= i.tmod (128 : Int) /\ i.tmod (128 : Int) < (↑128 : Int)) /\ ∃ n6, (qc ((i.tmod (128 : Int)).toNat * 2) (es1.getD n5.toNat [])).head? = some (Z3 n6) /\ ∃ n7, (qc ((i.tmod (128 : Int)).toNat * 2) (es1.getD n5.toNat [])).tail.head? = some (Z3 n7) /\ R (PV.agg [Z3 n6, Z3 n7])
theorem zrx {R : PV -> Prop} (h : zh9 sz n f n2 f2 es bs i R) : PCall qa 43 [.ptr [.int .i64 sz, .sl n f es, .sl n2 f2 bs], .int .i64 i] R :=
 PCall.wz Tryz.func43 aP [0, 1, 4, 5, 19] aZ h
end
section
variable (sz : Int) (kn ev : List (PV × PV)) (ixm ixn bkm bkn : Bool) (ix bk : LL) (b : List PV)
def zia (R : LV -> Hp -> Prop) : Prop :=
 256 <= (qc 0 b).length /\ cO qa 131 kn /\ a8 qa 131 (PV.agg (qz 256 (qc 0 b))) = true /\ (∀ (v : PV), bW (PV.agg (qz 256 (qc 0 b))) kn = some v -> ∃ n, v = Z6 n /\ R (Y6 n)
  [Ob.box [LV.box 1 0, LV.mp 2, LV.mp 3], Ob.box [Y6 sz, LV.own 4, LV.own 5], Ob.mp kn, Ob.mp ev, Ob.sl (3, 1) ixm ixn ix, Ob.sl (131, 256) bkm bkn bk]) /\ (bW (PV.agg (qz 256 (qc 0 b))) kn = none -> 256 <= (qc 0
  b).length /\ cO qa 131 kn /\ a8 qa 131 (PV.agg (qz 256 (qc 0 b))) = true /\ 256 <= (qc 0 b).length /\
 let V1 := (aQ [qz 256 (qc 0 b)] 256 /\ (bk.length + 1) * 1024 <= 140737488355328) /\ R (Y6 (↑bk.length : Int)) [Ob.box [LV.box 1 0, LV.mp 2, LV.mp 3], Ob.box [Y6 sz, LV.own 4, LV.own 5], Ob.mp (bK (PV.agg (qz 256
  (qc 0 b))) (Z6 (↑bk.length : Int)) kn), Ob.mp ev, Ob.sl (3, 1) ixm ixn ix, Ob.sl (131, 256) true (bkn && false) (bk ++ [qz 256 (qc 0 b)])]; ((qz 256 (qc 0 b)).length = 256 /\ V1) /\ (qz 256
  (qc 0 b)).length = 256 /\ V1 /\ V1)
theorem zry {R : LV -> Hp -> Prop} (h : zia sz kn ev ixm ixn bkm bkn ix bk b R) : ACall qa 68 [.box 0 0, .pv (.agg b)] [.box [.box 1 0, .mp 2, .mp 3], .box [.pv (.int .i64 sz), .own 4, .own 5], .mp kn, .mp ev, .sl (3, 1) ixm ixn ix, .sl (131, 256) bkm bkn bk] R :=
 ACall.wz Tryz.func68 aP [0, 1, 3, 4, 5, 6, 17] aZ [0,1,2,3,4,5] h
end
def zaf (sz : Int) (ixm ixn bkm bkn : Bool) (ix bk : LL) (va vb : Int) (x20 : Int) (m_2 : List (PV × PV)) (m_3 : List (PV × PV)) (c_7 : List PV) : Env × Hp := ([(0, LV.box 0 0), (3, LV.box 6 0), (7, LV.box 7 0), (20, Y6 x20)], [.box [LV.box 1 0, LV.mp 2, LV.mp 3], .box [Y6 sz, LV.own 4, LV.own 5], .mp m_2, .mp m_3, .sl (3, 1) ixm ixn ix, .sl (131, 256) bkm bkn bk, .box [LV.pv (PV.int i32 va), LV.pv (PV.int i32 vb)], .arr c_7])
section
variable (sz : Int) (kn ev : List (PV × PV)) (ixm ixn bkm bkn : Bool) (ix bk : LL) (va vb : Int) (J : Int -> (List (PV × PV)) -> (List (PV × PV)) -> (List PV) -> Prop) (μ : Int -> (List (PV × PV)) -> (List (PV × PV)) -> (List PV) -> Nat)
def zib (R : LV -> Hp -> Prop) : Prop :=
 cO qa 81 ev /\ a8 qa 81 (PV.agg [Z3 va, Z3 vb]) = true /\ (∀ (v : PV), bW (PV.agg [Z3 va, Z3 vb]) ev = some v -> ∃ n, v = Z6 n /\ R (Y6 n) [Ob.box [LV.box 1 0, LV.mp 2, LV.mp 3], Ob.box [Y6 sz, LV.own 4, LV.own 5], Ob.mp kn, Ob.mp ev, Ob.sl (3, 1) ixm ixn ix, Ob.sl (131, 256) bkm bkn bk]) /\ (bW (PV.agg [Z3 va, Z3 vb]) ev = none -> (SameSt ([(0, LV.box 0 0), (3, LV.box 6 0), (7, LV.box 7 0), (20, Y6 0)], [Ob.box [LV.box 1 0, LV.mp 2, LV.mp 3], Ob.box [Y6 sz, LV.own 4, LV.own 5], Ob.mp kn, Ob.mp ev, Ob.sl (3, 1) (bif false then true else ixm) ixn ix, Ob.sl (131, 256) (bif false then true else bkm) bkn bk, Ob.box [LV.pv (Z3 va), LV.pv (Z3 vb)], Ob.arr (qf 256 (Z3 0))]) (zaf sz ixm ixn bkm bkn ix bk va vb (0 : Int) kn ev (qf 256 (Z3 0))) /\ J (0 : Int) kn ev (qf 256 (Z3 0))) /\ ∀ (x20 : Int) (m_2 m_3 : List (PV × PV)) (c_7 : List PV), J x20 m_2 m_3 c_7 -> if decide (x20 < 128) = true then ((0 : Int) <= x20 /\ x20 < (↑128 : Int)) /\ (2 = (2 : Nat) /\ 0 + x20.toNat * 2 + 2 <= c_7.length) /\ SameSt ([(0, LV.box 0 0), (3, LV.box 6 0), (7, LV.box 7 0), (20, LV.pv (Z6 (i64.wrap (x20 + 1))))], [Ob.box [LV.box 1 0, LV.mp 2, LV.mp 3], Ob.box [Y6 sz, LV.own 4, LV.own 5], Ob.mp m_2, Ob.mp m_3, Ob.sl (3, 1) (bif false then true else ixm) ixn ix, Ob.sl (131, 256) (bif false then true else bkm) bkn bk, Ob.box [LV.pv (Z3 va), LV.pv (Z3 vb)], Ob.arr (aR c_7 (0 + x20.toNat * 2) [Z3 va, Z3 vb])]) (zaf sz ixm ixn bkm bkn ix bk va vb (i64.wrap (x20 + 1)) m_2 m_3 (aR c_7 ((0 : Nat) + x20.toNat * 2) [Z3 va, Z3 vb])) /\ J (i64.wrap (x20 + 1)) m_2 m_3 (aR c_7 ((0 : Nat) + x20.toNat * 2) [Z3 va, Z3 vb]) /\ μ (i64.wrap (x20 + 1)) m_2 m_3 (aR c_7 (0 + x20.toNat * 2) [Z3 va, Z3 vb]) < μ x20 m_2 m_3 c_7 else 256 <= (qc 0 c_7).length /\ ACall qa 68 [LV.box 0 0, LV.pv (PV.agg (qz 256 (qc 0 c_7)))] [Ob.box [LV.box 1 0, LV.mp 2, LV.mp 3], Ob.box [Y6 sz, LV.own 4, LV.own 5], Ob.mp m_2, Ob.mp m_3, Ob.sl ((3 : Nat), 1) false ixn ix, Ob.sl (131, 256) false bkn bk] fun (r : LV) (h' : Hp) => ∃ (t : Int × List (PV × PV) × Bool × LL), (r = Y6 t.1 /\ h' = [Ob.box [LV.box 1 0, LV.mp 2, LV.mp 3], Ob.box [Y6 sz, LV.own 4, LV.own 5], Ob.mp t.snd.fst, Ob.mp m_3, Ob.sl (3, 1) false ixn ix, Ob.sl (131, 256) true t.snd.snd.fst t.snd.snd.snd]) /\ (True /\ ((3, 1) = (3, (1 : Nat)) /\ ixn = ixn /\ ix.length = ix.length) /\ True /\ True /\ True /\ True /\ True) /\ cO qa 81 m_3 /\ a8 qa 81 (PV.agg [Z3 va, Z3 vb]) = true /\ R (Y6 t.1) [Ob.box [LV.box 1 0, LV.mp 2, LV.mp 3], Ob.box [Y6 sz, LV.own 4, LV.own 5], Ob.mp t.snd.fst, Ob.mp (bK (PV.agg [Z3 va, Z3 vb]) (Z6 t.1) m_3), Ob.sl (3, 1) (ixm || false) ixn ix, Ob.sl (131, 256) (bkm || true) t.snd.snd.fst t.snd.snd.snd])
theorem zrz {R : LV -> Hp -> Prop} (h : zib sz kn ev ixm ixn bkm bkn ix bk va vb J μ R) : ACall qa 67 [.box 0 0, .pv (.agg [.int .i32 va, .int .i32 vb])] [.box [.box 1 0, .mp 2, .mp 3], .box [.pv (.int .i64 sz), .own 4, .own 5], .mp kn, .mp ev, .sl (3, 1) ixm ixn ix, .sl (131, 256) bkm bkn bk] R :=
 ACall.wz Tryz.func67 (fun zz_ => match zz_ with | 68 => some ⟨Int × List (PV × PV) × Bool × LL, fun _ hs t => (.pv (.int .i64 t.1), match hs with | [m, r, .mp _, ev, ix, .sl a _ _ _] => [m, r, .mp t.2.1, ev, ix, .sl a true t.2.2.1 t.2.2.2] | h => h), none⟩ | _ => none) [0, 1, 3, 4, 5, 6, 7, 8, 19, 20, 21] (cA 5 (bC iY (zaf sz ixm ixn bkm bkn ix bk va vb) J μ (fun e h => (gI e 20, oM h 2, oM h 3, oA h 7)) [] [0, 3, 7, 20] [])) [0,1,2,3,4,5] h
end
def zag (sz : Int) (za zb : Int) (n f : Bool) (es : LL) (x10 x11 h3_0 h3_1 : Int) (n_4 : Bool) (s_4 : LL) (n_5 : Bool) (s_5 : LL) (m_6 : List (PV × PV)) (m_7 : List (PV × PV)) : Env × Hp := ([(0, Y6 sz), (2, LV.pv (PV.sl n f es)), (4, LV.box 0 0), (7, LV.box 1 0), (8, LV.box 2 0), (9, LV.box 3 0), (10, Y6 x10), (11, Y6 x11)], [.box [LV.pv (PV.int i32 za), LV.pv (PV.int i32 zb)], .box [Y6 sz, LV.own 4, LV.own 5], .box [LV.box 1 0, LV.mp 6, LV.mp 7], .box [.pv (.int i32 h3_0), .pv (.int i32 h3_1)], .sl (3, 1) true n_4 s_4, .sl (131, 256) true n_5 s_5, .mp m_6, .mp m_7])
def rE (sz : Int) (za zb : Int) (n f : Bool) (es : LL) (x10 x11 x13 h3_0 h3_1 : Int) (n_4 : Bool) (s_4 : LL) (n_5 : Bool) (s_5 : LL) (m_6 : List (PV × PV)) (m_7 : List (PV × PV)) : Env × Hp := ([(0, Y6 sz), (2, LV.pv (PV.sl n f es)), (4, LV.box 0 0), (7, LV.box 1 0), (8, LV.box 2 0), (9, LV.box 3 0), (10, Y6 x10), (11, Y6 x11), (13, Y6 x13)], [.box [LV.pv (PV.int i32 za), LV.pv (PV.int i32 zb)], .box [Y6 sz, LV.own 4, LV.own 5], .box [LV.box 1 0, LV.mp 6, LV.mp 7], .box [.pv (.int i32 h3_0), .pv (.int i32 h3_1)], .sl (3, 1) true n_4 s_4, .sl (131, 256) true n_5 s_5, .mp m_6, .mp m_7])
def oP (sz : Int) (za zb : Int) (n f : Bool) (es : LL) (x10 x11 x88 h3_0 h3_1 : Int) (c_4 : List PV) (n_5 : Bool) (s_5 : LL) (n_6 : Bool) (s_6 : LL) (m_7 : List (PV × PV)) (m_8 : List (PV × PV)) : Env × Hp := ([(0, Y6 sz), (2, LV.pv (PV.sl n f es)), (4, LV.box 0 0), (7, LV.box 1 0), (8, LV.box 2 0), (9, LV.box 3 0), (10, Y6 x10), (11, Y6 x11), (14, LV.box 4 0), (88, Y6 x88)], [.box [LV.pv (PV.int i32 za), LV.pv (PV.int i32 zb)], .box [Y6 sz, LV.own 5, LV.own 6], .box [LV.box 1 0, LV.mp 7, LV.mp 8], .box [.pv (.int i32 h3_0), .pv (.int i32 h3_1)], .arr c_4, .sl (3, 1) true n_5 s_5, .sl (131, 256) true n_6 s_6, .mp m_7, .mp m_8])
section
variable (sz : Int) (za zb : Int) (n f : Bool) (es : LL) (J : Int -> Int -> Int -> Int -> Bool -> LL -> Bool -> LL -> (List (PV × PV)) -> (List (PV × PV)) -> Prop) (μ : Int -> Int -> Int -> Int -> Bool -> LL -> Bool -> LL -> (List (PV × PV)) -> (List (PV × PV)) -> Nat) (J2 : Int -> Int -> Int -> Int -> Int -> Bool -> LL -> Bool -> LL -> (List (PV × PV)) -> (List (PV × PV)) -> Int -> Int -> Int -> Int -> Int -> Bool -> LL -> Bool -> LL -> (List (PV × PV)) -> (List (PV × PV)) -> Prop) (μ2 : Int -> Int -> Int -> Int -> Int -> Bool -> LL -> Bool -> LL -> (List (PV × PV)) -> (List (PV × PV)) -> Nat) (J3 : Int -> Int -> Int -> Int -> Int -> (List PV) -> Bool -> LL -> Bool -> LL -> (List (PV × PV)) -> (List (PV × PV)) -> Int -> Int -> Int -> Int -> Int -> (List PV) -> Bool -> LL -> Bool -> LL -> (List (PV × PV)) -> (List (PV × PV)) -> Prop) (μ3 : Int -> Int -> Int -> Int -> Int -> (List PV) -> Bool -> LL -> Bool -> LL -> (List (PV × PV)) -> (List (PV × PV)) -> Nat)
def zic (R : PV -> Prop) : Prop :=
 if decide (sz < 1) = true then R PV.nilp else PCall qa 66 [PV.sl n f es, PV.agg [Z3 za, Z3 zb], Z6 0, Z6 (i64.wrap (sz - 1))] fun v => ∃ vs, v = PV.tup vs /\ vs.length = 2 /\ ∃ x, vs.head? = some x /\ ∃
  (cs : List PV), x = PV.agg cs /\ cs.length = 2 /\ ∃ n1, cs.head? = some (Z3 n1) /\ ∃ n2, cs.tail.head? = some (Z3 n2) /\ ∃ x1, vs.tail.head? = some x1 /\ ∃ n3, x1 = Z6 n3 /\ (aH (zag sz za zb n f es n3 (0 :
  Int) n1 n2 true [] true [] [] []) /\ J n3 (0 : Int) n1 n2 true [] true [] [] []) /\ ∀ (x10 x11 h3_0 h3_1 : Int) (n_4 : Bool) (s_4 : LL) (n_5 : Bool) (s_5 : LL) (m_6 m_7 : List (PV × PV)), J x10 x11 h3_0 h3_1 n_4 s_4 n_5 s_5 m_6 m_7 ->
 let K7 := fun (y0_ y1_ y2_ y3_ : Int) (y4_ : Bool) (y5_ : LL) (y6_ : Bool) (y7_ : LL) (y8_ : List (PV × PV)) (y9_ : List (PV × PV)) => aH (zag sz za zb n f es y0_ y1_ y2_ y3_ y4_ y5_ y6_ y7_ y8_ y9_) /\ J y0_
  y1_ y2_ y3_ y4_ y5_ y6_ y7_ y8_ y9_ /\ μ y0_ y1_ y2_ y3_ y4_ y5_ y6_ y7_ y8_ y9_ < μ x10 x11 h3_0 h3_1 n_4 s_4 n_5 s_5 m_6 m_7; if decide (x11 < sz) = true then if decide (x11 > x10) = true then PCall qa 66 [PV.sl n f es, PV.agg
  [Z3 za, Z3 zb], Z6 x11, Z6 (i64.wrap (sz - 1))] fun v1 => ∃ vs1, v1 = PV.tup vs1 /\ vs1.length = 2 /\ ∃ x2, vs1.head? = some x2 /\ ∃ cs1, x2 = PV.agg cs1 /\ cs1.length = 2 /\ ∃ (n4 : Int),
  cs1.head? = some (Z3 n4) /\ ∃ n5, cs1.tail.head? = some (Z3 n5) /\ ∃ x3, vs1.tail.head? = some x3 /\ ∃ n6, x3 = Z6 n6 /\ if decide (n6 >= i64.wrap ((if sz < i64.wrap (x11 + 128) then sz else
  i64.wrap (x11 + 128)) - 1)) = true then ACall qa 67 [LV.box 0 0, LV.pv (PV.agg [Z3 n4, Z3 n5])] [Ob.box [LV.box 1 0, LV.mp 2, LV.mp 3], Ob.box [Y6 sz, LV.own 4, LV.own 5], Ob.mp m_6, Ob.mp m_7, Ob.sl (3, 1) false n_4 s_4,
  Ob.sl (131, 256) false n_5 s_5] fun (r : LV) (h' : Hp) => ∃ (t : Int × List (PV × PV) × List (PV × PV) × Bool × LL), (r = Y6 t.1 /\ h' = [Ob.box [LV.box 1 0, LV.mp 2, LV.mp 3], Ob.box [Y6 sz, LV.own 4, LV.own 5], Ob.mp t.snd.fst, Ob.mp
  t.snd.snd.fst, Ob.sl (3, 1) false n_4 s_4, Ob.sl (131, 256) true t.snd.snd.snd.fst t.snd.snd.snd.snd]) /\ (True /\ ((3, 1) = (3, 1) /\ n_4 = n_4 /\ s_4.length = s_4.length) /\ True /\ True /\ True /\ True /\ True) /\ (aH (rE sz za zb n f es
  n6 x11 t.1 n4 n5 n_4 s_4 t.snd.snd.snd.fst t.snd.snd.snd.snd t.snd.fst t.snd.snd.fst) /\ J2 n6 x11 t.1 n4 n5 n_4 s_4 t.snd.snd.snd.fst t.snd.snd.snd.snd t.snd.fst t.snd.snd.fst n6 x11 t.1 n4 n5 n_4 s_4 t.snd.snd.snd.fst t.snd.snd.snd.snd
  t.snd.fst t.snd.snd.fst) /\ ∀ (x101 x111 x13 h3_01 h3_11 : Int) (n_41 : Bool) (s_41 : LL) (n_51 : Bool) (s_51 : LL) (m_61 m_71 : List (PV × PV)), J2 n6 x11 t.1 n4 n5 n_4 s_4 t.snd.snd.snd.fst t.snd.snd.snd.snd t.snd.fst t.snd.snd.fst x101
  x111 x13 h3_01 h3_11 n_41 s_41 n_51 s_51 m_61 m_71 -> if (decide (x111 < sz) && decide (x101 >= i64.wrap ((if sz < i64.wrap (x111 + 128) then sz else i64.wrap (x111 + 128)) - 1))) = true then (aQ [[Z6 x13]] 1 /\
  (s_41.length + 1) * 8 <= 140737488355328) /\ aH (rE sz za zb n f es x101 (i64.wrap (x111 + 128)) x13 h3_01 h3_11 (n_41 && false) (s_41 ++ [[Z6 x13]]) n_51 s_51 m_61 m_71) /\ J2 n6 x11 t.1 n4 n5 n_4 s_4 t.snd.snd.snd.fst
  t.snd.snd.snd.snd t.snd.fst t.snd.snd.fst x101 (i64.wrap (x111 + 128)) x13 h3_01 h3_11 (n_41 && false) (s_41 ++ [[Z6 x13]]) n_51 s_51 m_61 m_71 /\ μ2 x101 (i64.wrap (x111 + 128)) x13 h3_01 h3_11 (n_41 && false) (s_41 ++
  [[Z6 x13]]) n_51 s_51 m_61 m_71 < μ2 x101 x111 x13 h3_01 h3_11 n_41 s_41 n_51 s_51 m_61 m_71 else K7 x101 (i64.wrap (i64.wrap (x111 - 128) + 128)) h3_01 h3_11 n_41 s_41 n_51 s_51 m_61 m_71 else (aH (oP sz za zb n f
  es n6 x11 (0 : Int) n4 n5 (qf 256 (Z3 0)) n_4 s_4 n_5 s_5 m_6 m_7) /\ J3 n6 x11 (0 : Int) n4 n5 (qf 256 (Z3 0)) n_4 s_4 n_5 s_5 m_6 m_7 n6 x11 (0 : Int) n4 n5 (qf 256 (Z3 0)) n_4 s_4 n_5 s_5 m_6 m_7) /\
  ∀ (x101 x111 x88 h3_01 h3_11 : Int) (c_4 : List PV) (n_51 : Bool) (s_51 : LL) (n_6 : Bool) (s_6 : LL) (m_71 m_8 : List (PV × PV)), J3 n6 x11 (0 : Int) n4 n5 (qf 256 (Z3 0)) n_4 s_4 n_5 s_5 m_6 m_7 x101 x111 x88 h3_01 h3_11
  c_4 n_51 s_51 n_6 s_6 m_71 m_8 ->
 let K20 := fun (y0_ y1_ y2_ y3_ y4_ : Int) (y5_ : List PV) (y6_ : Bool) (y7_ : LL) (y8_ : Bool) (y9_ : LL) (y10_ : List (PV × PV)) (y11_ : List (PV × PV)) => aH (oP sz za zb n f es y0_ y1_ y2_ y3_ y4_
  y5_ y6_ y7_ y8_ y9_ y10_ y11_) /\ J3 n6 x11 (0 : Int) n4 n5 (qf 256 (Z3 0)) n_4 s_4 n_5 s_5 m_6 m_7 y0_ y1_ y2_ y3_ y4_ y5_ y6_ y7_ y8_ y9_ y10_ y11_ /\ μ3 y0_ y1_ y2_ y3_ y4_ y5_ y6_ y7_ y8_ y9_ y10_ y11_ < μ3 x101 x111 x88
  h3_01 h3_11 c_4 n_51 s_51 n_6 s_6 m_71 m_8; if decide (x88 < 128) = true then if (decide (i64.wrap (x111 + x88) > x101) && decide (i64.wrap (x111 + x88) < sz)) = true then PCall qa 66 [PV.sl n f es, PV.agg [Z3 za,
  Z3 zb], Z6 (i64.wrap (x111 + x88)), Z6 (i64.wrap (sz - 1))] fun v2 => ∃ vs2, v2 = PV.tup vs2 /\ vs2.length = 2 /\ ∃ x4, vs2.head? = some x4 /\ ∃ cs2, x4 = PV.agg cs2 /\ cs2.length = 2 /\ ∃
  (n7 : Int), cs2.head? = some (Z3 n7) /\ ∃ n8, cs2.tail.head? = some (Z3 n8) /\ ∃ x5, vs2.tail.head? = some x5 /\ ∃ n9, x5 = Z6 n9 /\ ((0 : Int) <= x88 /\ x88 < (↑128 : Int)) /\ (2 = 2 /\ 0 + x88.toNat * 2 + 2 <= c_4.length)
  /\ K20 n9 x111 (i64.wrap (x88 + 1)) n7 n8 (aR c_4 (0 + x88.toNat * 2) [Z3 n7, Z3 n8]) n_51 s_51 n_6 s_6 m_71 m_8 else ((0 : Int) <= x88 /\ x88 < (↑128 : Int)) /\ (2 = 2 /\ 0 + x88.toNat * 2 + 2 <= c_4.length) /\ K20 x101 x111
  (i64.wrap (x88 + 1)) h3_01 h3_11 (aR c_4 (0 + x88.toNat * 2) [Z3 h3_01, Z3 h3_11]) n_51 s_51 n_6 s_6 m_71 m_8 else 256 <= (qc 0 c_4).length /\
 let V1 := ACall qa 68 [LV.box 0 0, LV.pv (PV.agg (qz 256 (qc 0 c_4)))] [Ob.box [LV.box 1 0, LV.mp 2, LV.mp 3], Ob.box [Y6 sz, LV.own 4, LV.own 5], Ob.mp m_71, Ob.mp m_8, Ob.sl (3, 1) false n_51 s_51, Ob.sl (131, 256)
  false n_6 s_6] fun (r : LV) (h' : Hp) => ∃ (t : Int × List (PV × PV) × Bool × LL), (r = Y6 t.1 /\ h' = [Ob.box [LV.box 1 0, LV.mp 2, LV.mp 3], Ob.box [Y6 sz, LV.own 4, LV.own 5], Ob.mp t.snd.fst, Ob.mp m_8, Ob.sl (3, 1) false n_51 s_51,
  Ob.sl (131, 256) true t.snd.snd.fst t.snd.snd.snd]) /\ (True /\ ((3, 1) = (3, 1) /\ n_51 = n_51 /\ s_51.length = s_51.length) /\ True /\ True /\ True /\ True /\ True) /\ (aQ [[Z6 t.1]] 1 /\ (s_51.length + 1) * 8 <= 140737488355328) /\ K7 x101
  (i64.wrap (x111 + 128)) h3_01 h3_11 (n_51 && false) (s_51 ++ [[Z6 t.1]]) t.snd.snd.fst t.snd.snd.snd t.snd.fst m_8; V1 /\ V1 else if decide (x10 >= i64.wrap ((if sz < i64.wrap (x11 + 128) then sz else
  i64.wrap (x11 + 128)) - 1)) = true then ACall qa 67 [LV.box 0 0, LV.pv (PV.agg [Z3 h3_0, Z3 h3_1])] [Ob.box [LV.box 1 0, LV.mp 2, LV.mp 3], Ob.box [Y6 sz, LV.own 4, LV.own 5], Ob.mp m_6, Ob.mp m_7, Ob.sl (3, 1) false n_4
  s_4, Ob.sl (131, 256) false n_5 s_5] fun (r : LV) (h' : Hp) => ∃ (t : Int × List (PV × PV) × List (PV × PV) × Bool × LL), (r = Y6 t.1 /\ h' = [Ob.box [LV.box 1 0, LV.mp 2, LV.mp 3], Ob.box [Y6 sz, LV.own 4, LV.own 5], Ob.mp t.snd.fst,
  Ob.mp t.snd.snd.fst, Ob.sl (3, 1) false n_4 s_4, Ob.sl (131, 256) true t.snd.snd.snd.fst t.snd.snd.snd.snd]) /\ (True /\ ((3, 1) = (3, 1) /\ n_4 = n_4 /\ s_4.length = s_4.length) /\ True /\ True /\ True /\ True /\ True) /\ (aH (rE sz za zb
  n f es x10 x11 t.1 h3_0 h3_1 n_4 s_4 t.snd.snd.snd.fst t.snd.snd.snd.snd t.snd.fst t.snd.snd.fst) /\ J2 x10 x11 t.1 h3_0 h3_1 n_4 s_4 t.snd.snd.snd.fst t.snd.snd.snd.snd t.snd.fst t.snd.snd.fst x10 x11 t.1 h3_0 h3_1 n_4 s_4
  t.snd.snd.snd.fst t.snd.snd.snd.snd t.snd.fst t.snd.snd.fst) /\ ∀ (x101 x111 x13 h3_01 h3_11 : Int) (n_41 : Bool) (s_41 : LL) (n_51 : Bool) (s_51 : LL) (m_61 m_71 : List (PV × PV)), J2 x10 x11 t.1 h3_0 h3_1 n_4 s_4 t.snd.snd.snd.fst
  t.snd.snd.snd.snd t.snd.fst t.snd.snd.fst x101 x111 x13 h3_01 h3_11 n_41 s_41 n_51 s_51 m_61 m_71 -> if (decide (x111 < sz) && decide (x101 >= i64.wrap ((if sz < i64.wrap (x111 + 128) then sz else i64.wrap (x111 +
  128)) - 1))) = true then (aQ [[Z6 x13]] 1 /\ (s_41.length + 1) * 8 <= 140737488355328) /\ aH (rE sz za zb n f es x101 (i64.wrap (x111 + 128)) x13 h3_01 h3_11 (n_41 && false) (s_41 ++ [[Z6 x13]]) n_51 s_51 m_61 m_71) /\ J2
  x10 x11 t.1 h3_0 h3_1 n_4 s_4 t.snd.snd.snd.fst t.snd.snd.snd.snd t.snd.fst t.snd.snd.fst x101 (i64.wrap (x111 + 128)) x13 h3_01 h3_11 (n_41 && false) (s_41 ++ [[Z6 x13]]) n_51 s_51 m_61 m_71 /\ μ2 x101 (i64.wrap (x111 +
  128)) x13 h3_01 h3_11 (n_41 && false) (s_41 ++ [[Z6 x13]]) n_51 s_51 m_61 m_71 < μ2 x101 x111 x13 h3_01 h3_11 n_41 s_41 n_51 s_51 m_61 m_71 else K7 x101 (i64.wrap (i64.wrap (x111 - 128) + 128)) h3_01 h3_11 n_41 s_41 n_51
  s_51 m_61 m_71 else (aH (oP sz za zb n f es x10 x11 (0 : Int) h3_0 h3_1 (qf 256 (Z3 0)) n_4 s_4 n_5 s_5 m_6 m_7) /\ J3 x10 x11 (0 : Int) h3_0 h3_1 (qf 256 (Z3 0)) n_4 s_4 n_5 s_5 m_6 m_7 x10 x11 (0 : Int)
  h3_0 h3_1 (qf 256 (Z3 0)) n_4 s_4 n_5 s_5 m_6 m_7) /\ ∀ (x101 x111 x88 h3_01 h3_11 : Int) (c_4 : List PV) (n_51 : Bool) (s_51 : LL) (n_6 : Bool) (s_6 : LL) (m_71 m_8 : List (PV × PV)), J3 x10 x11 (0 : Int) h3_0 h3_1
  (qf 256 (Z3 0)) n_4 s_4 n_5 s_5 m_6 m_7 x101 x111 x88 h3_01 h3_11 c_4 n_51 s_51 n_6 s_6 m_71 m_8 -> if decide (x88 < 128) = true then if (decide (i64.wrap (x111 + x88) > x101) && decide (i64.wrap (x111 + x88) <
  sz)) = true then PCall qa 66 [PV.sl n f es, PV.agg [Z3 za, Z3 zb], Z6 (i64.wrap (x111 + x88)), Z6 (i64.wrap (sz - 1))] fun v1 => ∃ vs1, v1 = PV.tup vs1 /\ vs1.length = 2 /\ ∃ x2, vs1.head? =
  some x2 /\ ∃ cs1, x2 = PV.agg cs1 /\ cs1.length = 2 /\ ∃ n4, cs1.head? = some (Z3 n4) /\ ∃ n5, cs1.tail.head? = some (Z3 n5) /\ ∃ x3, vs1.tail.head? = some x3 /\ ∃ n6, x3 = Z6 n6 /\ ((0 : Int) <= x88 /\
  x88 < (↑128 : Int)) /\ (2 = 2 /\ 0 + x88.toNat * 2 + 2 <= c_4.length) /\ aH (oP sz za zb n f es n6 x111 (i64.wrap (x88 + 1)) n4 n5 (aR c_4 (0 + x88.toNat * (2 : Nat)) [Z3 n4, Z3 n5]) n_51 s_51 n_6 s_6 m_71 m_8) /\ J3 x10 x11
  (0 : Int) h3_0 h3_1 (qf 256 (Z3 0)) n_4 s_4 n_5 s_5 m_6 m_7 n6 x111 (i64.wrap (x88 + 1)) n4 n5 (aR c_4 (0 + x88.toNat * (2 : Nat)) [Z3 n4, Z3 n5]) n_51 s_51 n_6 s_6 m_71 m_8 /\ μ3 n6 x111 (i64.wrap (x88 + 1))
  n4 n5 (aR c_4 (0 + x88.toNat * 2) [Z3 n4, Z3 n5]) n_51 s_51 n_6 s_6 m_71 m_8 < μ3 x101 x111 x88 h3_01 h3_11 c_4 n_51 s_51 n_6 s_6 m_71 m_8 else ((0 : Int) <= x88 /\ x88 < (↑128 : Int)) /\ (2 = 2 /\ 0 + x88.toNat * 2 + 2 <= c_4.length) /\
  aH (oP sz za zb n f es x101 x111 (i64.wrap (x88 + 1)) h3_01 h3_11 (aR c_4 (0 + x88.toNat * 2) [Z3 h3_01, Z3 h3_11]) n_51 s_51 n_6 s_6 m_71 m_8) /\ J3 x10 x11 (0 : Int) h3_0 h3_1 (qf 256 (Z3 0)) n_4 s_4 n_5 s_5
  m_6 m_7 x101 x111 (i64.wrap (x88 + 1)) h3_01 h3_11 (aR c_4 (0 + x88.toNat * 2) [Z3 h3_01, Z3 h3_11]) n_51 s_51 n_6 s_6 m_71 m_8 /\ μ3 x101 x111 (i64.wrap (x88 + 1)) h3_01 h3_11 (aR c_4 (0 + x88.toNat * 2) [Z3 h3_01, Z3
  h3_11]) n_51 s_51 n_6 s_6 m_71 m_8 < μ3 x101 x111 x88 h3_01 h3_11 c_4 n_51 s_51 n_6 s_6 m_71 m_8 else 256 <= (qc 0 c_4).length /\
 let V2 := ACall qa 68 [LV.box 0 0, LV.pv (PV.agg (qz 256 (qc 0 c_4)))] [Ob.box [LV.box 1 0, LV.mp 2, LV.mp 3], Ob.box [Y6 sz, LV.own 4, LV.own 5], Ob.mp m_71, Ob.mp m_8, Ob.sl (3, 1) false n_51 s_51, Ob.sl (131, 256)
  false n_6 s_6] fun (r : LV) (h' : Hp) => ∃ (t : Int × List (PV × PV) × Bool × LL), (r = Y6 t.1 /\ h' = [Ob.box [LV.box 1 0, LV.mp 2, LV.mp 3], Ob.box [Y6 sz, LV.own 4, LV.own 5], Ob.mp t.snd.fst, Ob.mp m_8, Ob.sl (3, 1) false n_51 s_51,
  Ob.sl (131, 256) true t.snd.snd.fst t.snd.snd.snd]) /\ (True /\ ((3, 1) = (3, 1) /\ n_51 = n_51 /\ s_51.length = s_51.length) /\ True /\ True /\ True /\ True /\ True) /\ (aQ [[Z6 t.1]] 1 /\ (s_51.length + 1) * 8 <= 140737488355328) /\ K7 x101
  (i64.wrap (x111 + 128)) h3_01 h3_11 (n_51 && false) (s_51 ++ [[Z6 t.1]]) t.snd.snd.fst t.snd.snd.snd t.snd.fst m_8; V2 /\ V2 else R (PV.ptr [Z6 sz, PV.sl n_4 false s_4, PV.sl n_5 false s_5])
theorem zr0 {R : PV -> Prop} (h : zic sz za zb n f es J μ J2 μ2 J3 μ3 R) : PCall qa 42 [.int .i64 sz, .agg [.int .i32 za, .int .i32 zb], .sl n f es] R :=
 PCall.wz Tryz.func42 (fun zz_ => match zz_ with | 68 => some ⟨Int × List (PV × PV) × Bool × LL, fun _ hs t => (.pv (.int .i64 t.1), match hs with | [m, r, .mp _, ev, ix, .sl a _ _ _] => [m, r, .mp t.2.1, ev, ix, .sl a true t.2.2.1 t.2.2.2] | h => h), none⟩ | 67 => some ⟨Int × List (PV × PV) × List (PV × PV) × Bool × LL, fun _ hs t => (.pv (.int .i64 t.1), match hs with | [m, r, .mp _, .mp _, ix, .sl a _ _ _] => [m, r, .mp t.2.1, .mp t.2.2.1, ix, .sl a true t.2.2.2.1 t.2.2.2.2] | h => h), none⟩ | _ => none) [0, 1, 2, 4, 6, 7, 8, 9, 10, 11, 12, 13, 14, 15, 17, 36, 41, 58, 73, 88, 89, 102] (gK [(7, (bC (e9 iX) (zag sz za zb n f es) J μ (fun e h => (gI e 10, gI e 11, hI h 3 0, hI h 3 1, oN h 4, oS h 4, oN h 5, oS h 5, oM h 6, oM h 7)) [(1001001, 3, 1), (1001002, 131, 256)] [0, 2, 4, 7, 8, 9, 10, 11] [])), (14, (gL (e9 dU) (rE sz za zb n f es) J2 μ2 (fun e h => (gI e 10, gI e 11, gI e 13, hI h 3 0, hI h 3 1, oN h 4, oS h 4, oN h 5, oS h 5, oM h 6, oM h 7)) [] [0, 2, 4, 7, 8, 9, 10, 11, 13] [])), (20, (gL (e9 iY) (oP sz za zb n f es) J3 μ3 (fun e h => (gI e 10, gI e 11, gI e 88, hI h 3 0, hI h 3 1, oA h 4, oN h 5, oS h 5, oN h 6, oS h 6, oM h 7, oM h 8)) [] [0, 2, 4, 7, 8, 9, 10, 11, 14, 88] []))]) h
end
end Go.Eng
namespace Go.Eng
open Go Go.Proofs Go.Eng.Trie
def encP (v : (Int × Int)) : List PV := [.int .i32 v.1, .int .i32 v.2]
theorem EP : Enc qa [21, 21] encP := ⟨fun a => by
 simp only [encP, bE, qba];rw [show Tryz.prog.underlying 21 = some (.int .i32) by kernel_rfl];rfl, fun a b => by
 obtain ⟨a0, a1⟩ := a;obtain ⟨b0, b1⟩ := b;simp only [encP, bR, eG, qba];rw [qcc]
 simp⟩
def pcP (p : Pc (Int × Int)) : List PV := [.int .i64 p.fr, .int .i64 p.to] ++ encP p.v
def kS (l : List (Pc (Int × Int))) : List (List PV) := l.map pcP
theorem zr1 (p : Pc (Int × Int)) : (pcP p).length = 4 := rfl
theorem zid (l : List (Pc (Int × Int))) : (kS l).length = l.length := by simp [kS]
theorem zah (n f : Bool) (l : List (Pc (Int × Int))) (z : (Int × Int)) (i last : Int) (hl : l.length < 4611686018427387904) (hok : ∀ p ∈ l, -9223372036854775808 <= p.fr - 1 /\ p.fr - 1 <= 9223372036854775807) :
 PCall qa 66 [.sl n f (kS l), .agg (encP z), .int .i64 i, .int .i64 last] fun v => v = .tup [.agg (encP (findL l z i last).1), .int .i64 (findL l z i last).2] := by
 refine zrw _ _ _ z.1 z.2 _ _ (fun a k _ _ => 0 <= k /\ k <= l.length /\ findL l z i last = findL (l.drop k.toNat) z i a) (fun _ k _ _ => l.length - k.toNat) ?_;unfold zh8;refine ⟨⟨rfl, qe _, by omega, rfl⟩, ?_⟩;rintro a k _ _ ⟨k0, k1, he⟩;refine aC (fun hc => ?_) (fun hc => ?_)
 ·simp only [aB, zid] at hc;have hk : k.toNat < l.length := by omega
  have hw : i64.wrap (k + 1) = k + 1 := aF (by omega) (by omega);have hn : (k + 1).toNat = k.toNat + 1 := by omega
  have hg : (kS l).getD k.toNat [] = pcP l[k.toNat] := cG hk;have hix : aI (kS l) k 4 := bT zr1 k0 (by omega);have hm := hok _ (qq hk);rw [drop_cons hk] at he;rw [hw];dsimp only;rw [hn];have hmu : l.length - (k.toNat + 1) < l.length - k.toNat := by omega
  refine ⟨hix, l[k.toNat].fr, by rw [hg]; rfl, l[k.toNat].to, by rw [hg]; rfl, l[k.toNat].v.1, by rw [hg]; rfl, l[k.toNat].v.2, by rw [hg]; rfl, ?_⟩;generalize l[k.toNat] = p at *;have hw2 : i64.wrap (p.fr - 1) = p.fr - 1 := aF hm.1 hm.2;rw [hw2];rw [zL] at he;by_cases h1 : p.fr <= i
  ·refine bD (by simpa using h1) ?_
   by_cases h2 : i <= p.to
   ·refine bD (by simpa using h2) ?_
    rw [if_pos ⟨h1, h2⟩] at he;rw [he]
    repeat' (first | rfl | apply And.intro)
   ·refine bA (by simpa using h2) ?_
    rw [if_neg (by omega), if_neg (by omega)] at he;refine bA (by simp; omega) ?_;exact ⟨rfl, ⟨by omega, by omega, he⟩, hmu⟩
  ·refine bA (by simpa using h1) ?_
   rw [if_neg (by omega)] at he;refine bD (by simp; omega) ?_;by_cases h3 : p.fr <= a
   ·refine bD (by simpa using h3) ?_
    rw [if_pos (by omega)] at he;exact ⟨rfl, ⟨by omega, by omega, he⟩, hmu⟩
   ·refine bA (by simpa using h3) ?_
    rw [if_neg (by omega)] at he;exact ⟨rfl, ⟨by omega, by omega, he⟩, hmu⟩
 ·simp only [aB, zid] at hc;rw [qar (by omega)] at he;rw [he]; rfl
def TrieP (sz : Int) (F : Int -> (Int × Int)) (v : PV) : Prop := ∃ n f n2 f2 idx blk, v = .ptr [.int .i64 sz, .sl n f (aW idx), .sl n2 f2 (bF encP blk)] /\ TOK sz F idx blk
theorem p84 {sz : Int} {F : Int -> (Int × Int)} {t : PV} (ht : TrieP sz F t) (i : Int) (h1 : sz <= 1114112) : PCall qa 43 [t, .int .i64 i] fun v => v = .agg (encP (if 0 <= i /\ i < sz then F i else (0, 0))) := by
 obtain ⟨n, f, n2, f2, idx, blk, rfl, ht⟩ := ht;refine zrx _ _ _ _ _ _ _ _ ?_;unfold zh9;refine aC (fun hc => ?_) (fun hc => ?_)
 ·simp only [aB] at hc;rw [if_neg (by omega)]; rfl
 ·simp only [aB] at hc;refine ⟨_, rfl, ?_⟩;refine aC (fun hc2 => ?_) (fun hc2 => ?_)
  ·simp only [aB, ge_iff_le] at hc2;rw [if_neg (by omega)]; rfl
  ·simp only [aB, ge_iff_le] at hc2;rw [if_pos (by omega)];obtain ⟨hq, g0, hk, hj, he⟩ := ht.get (i := i) (by omega) (by omega);have hw : i64.wrap (i.tdiv 128) = i / 128 := by rw [qx (by omega)]; exact aF (by omega) (by omega)
   have hm : i.tmod 128 = i % 128 := qy (by omega);have hg : (aW idx).getD (i / 128).toNat [] = [.int .i64 idx[(i / 128).toNat]] := cG hq;have hg2 : (bF encP blk).getD idx[(i / 128).toNat].toNat [] = cells encP blk[idx[(i / 128).toNat].toNat] := cG hk;refine ⟨_, _, _, rfl, _, _, _, rfl, ?_⟩;rw [hw];have := EP.at _ _ hj;simp only [qr, qt, qbc, qbh] at this
   have hcell : qc ((i % 128).toNat * 2) ((bF encP blk).getD idx[(i / 128).toNat].toNat []) = encP (F i) ++ (qc ((i % 128).toNat + 1) (blk[idx[(i / 128).toNat].toNat]).1).flatMap encP := by
    rw [hg2]; unfold cells; rw [this, he]
   refine ⟨bT mW (by omega) (by omega), idx[(i / 128).toNat], by rw [hg]; rfl, bT (EP.cells_len) g0 (by omega), by rw [hm]; omega, ?_⟩;rw [hm, hcell];exact ⟨(F i).1, rfl, (F i).2, rfl, rfl⟩
def cP (b : aS (Int × Int)) : List PV := cells encP b
def kvP (k : Int) : PV := .int .i64 k
def fP (kn : List (aS (Int × Int) × Int)) : List (PV × PV) := cH (fun b => .agg (cP b)) kvP kn
def gU (ev : List ((Int × Int) × Int)) : List (PV × PV) := cH (fun v => .agg (encP v)) kvP ev
def lY (sz : Int) (kn : List (aS (Int × Int) × Int)) (ev : List ((Int × Int) × Int)) (ixm ixn bkm bkn : Bool) (idx : List Int) (blk : List (aS (Int × Int))) : Hp :=
 [.box [.box 1 0, .mp 2, .mp 3], .box [.pv (.int .i64 sz), .own 4, .own 5], .mp (fP kn), .mp (gU ev), .sl (3, 1) ixm ixn (aW idx), .sl (131, 256) bkm bkn (bF encP blk)]
theorem mZ (b : aS (Int × Int)) : (cP b).length = 256 := EP.cells_len b
theorem zai (b : aS (Int × Int)) : qz 256 (qc 0 (cP b)) = cP b := by rw [qab, qd (by rw [mZ]; omega)]
theorem zie : eV qa 131 = true := by kernel_rfl
theorem zif : fV qa 131 = (qf 128 [21, 21]).flatten := by kernel_rfl
theorem zaj : eV qa 81 = true := by kernel_rfl
theorem zak : fV qa 81 = [21, 21] := by kernel_rfl
theorem zr2 (b : aS (Int × Int)) (kn : List (aS (Int × Int) × Int)) : bW (.agg (cP b)) (fP kn) = (bU b kn).map kvP := mQ (ek := fun b => PV.agg (cP b)) (ev := kvP) EP.blkEq b kn
theorem zr3 (b : aS (Int × Int)) (k : Int) (kn : List (aS (Int × Int) × Int)) : bK (.agg (cP b)) (kvP k) (fP kn) = fP (cC b k kn) := jM (ek := fun b => PV.agg (cP b)) (ev := kvP) EP.blkEq b k kn
theorem zig (b : aS (Int × Int)) : a8 qa 131 (.agg (cP b)) = true := EP.blkOk zie zif b
theorem zih (kn : List (aS (Int × Int) × Int)) : cO qa 131 (fP kn) := EP.blksOk zie zif kn
theorem zii {sz : Int} {F : Int -> (Int × Int)} {idx : List Int} {blk : List (aS (Int × Int))} {kn : List (aS (Int × Int) × Int)} {ev : List ((Int × Int) × Int)} (hk : TInv sz F idx blk kn ev) (hb : blk.length <= 10000000) (ixn bkn : Bool) (b : aS (Int × Int)) :
 ACall qa 68 [.box 0 0, .pv (.agg (cP b))] (lY sz kn ev false ixn false bkn idx blk) fun r h' => ∃ k kn' bn' blk', r = .pv (kvP k) /\ h' = lY sz kn' ev false ixn true bn' idx blk' /\ TInv sz F idx blk' kn' ev /\ 0 <= k /\ blk'[k.toNat]? = some b /\ blk'.length <= blk.length + 1 := by
 refine ACall.mark 1000 [5] (R := fun r h' => ∃ k kn' bm' bn' blk', r = .pv (kvP k) /\ h' = lY sz kn' ev false ixn bm' bn' idx blk' /\ TInv sz F idx blk' kn' ev /\ 0 <= k /\ blk'[k.toNat]? = some b /\ blk'.length <= blk.length + 1) ?_ ?_
 ·refine zry _ _ _ _ _ _ _ _ _ _ ?_;unfold zia;rw [zai, zr2];have h128 : 256 <= (qc 0 (cP b)).length := by rw [qab, mZ]; omega
  refine ⟨h128, zih kn, zig b, fun v hv => ?_, fun hv => ?_⟩
  ·cases hg : bU b kn with
   | none => rw [hg] at hv; cases hv
   | some k =>
     rw [hg] at hv; cases hv;obtain ⟨k0, k1⟩ := hk.kn_ok b k hg;exact ⟨k, rfl, k, kn, false, bkn, blk, rfl, rfl, hk, k0, k1, by omega⟩
  ·have hsz : aQ [cP b] 256 /\ ((bF encP blk).length + 1) * 1024 <= 140737488355328 := ⟨fun e he => by simp at he; subst he; exact mZ b, by rw [kP]; omega⟩
   have fin : ∃ k kn' bm' bn' blk', LV.pv (.int .i64 ((bF encP blk).length : Int)) = .pv (kvP k) /\
    [Ob.box [.box 1 0, .mp 2, .mp 3], .box [.pv (.int .i64 sz), .own 4, .own 5], .mp (bK (.agg (cP b)) (.int .i64 ((bF encP blk).length : Int)) (fP kn)), .mp (gU ev), .sl (3, 1) false ixn (aW idx), .sl (131, 256) true (bkn && false) (bF encP blk ++ [cP b])] = lY sz kn' ev false ixn bm' bn' idx blk' /\ TInv sz F idx blk' kn' ev /\ 0 <= k /\ blk'[k.toNat]? = some b /\ blk'.length <= blk.length + 1 := by
    refine ⟨blk.length, cC b (blk.length : Int) kn, true, bkn && false, blk ++ [b], by rw [kP]; rfl, ?_, hk.place b, by omega, by simp, by simp⟩;have := zr3 b (blk.length : Int) kn;unfold kvP at this;rw [kP, this];simp [lY, bF, cP]
   exact ⟨h128, zih kn, zig b, h128, ⟨mZ b, hsz, fin⟩, mZ b, ⟨hsz, fin⟩, hsz, fin⟩
 ·rintro r h' ⟨k, kn', bm', bn', blk', rfl, rfl, h1, h2, h3, h4⟩;exact ⟨k, kn', bn', blk', rfl, rfl, h1, h2, h3, h4⟩
theorem zr4 (v : (Int × Int)) (ev : List ((Int × Int) × Int)) : bW (.agg (encP v)) (gU ev) = (bU v ev).map kvP := mQ (ek := fun v => PV.agg (encP v)) (ev := kvP) EP.valEq v ev
theorem zr5 (v : (Int × Int)) (k : Int) (ev : List ((Int × Int) × Int)) : bK (.agg (encP v)) (kvP k) (gU ev) = gU (cC v k ev) := jM (ek := fun v => PV.agg (encP v)) (ev := kvP) EP.valEq v k ev
theorem zal (v : (Int × Int)) : a8 qa 81 (.agg (encP v)) = true := EP.valOk zaj zak v
theorem zij (ev : List ((Int × Int) × Int)) : cO qa 81 (gU ev) := EP.valsOk zaj zak ev
theorem zam (l : List (Int × Int)) (j : Nat) (hj : j < l.length) (v : (Int × Int)) : aR (l.flatMap encP) (0 + j * 2) (encP v) = (l.set j v).flatMap encP := by
 have := EP.put l j hj v;simp only [qr, qt, qbc, qbh] at this ⊢;exact this
theorem zan (l : List (Int × Int)) : (l.flatMap encP).length = l.length * 2 := EP.flen l
theorem zik : qf 256 (PV.int .i32 0) = (qf 128 ((0, 0) : (Int × Int))).flatMap encP := by rfl
theorem zr6 {l : List (Int × Int)} {v : (Int × Int)} (hl : l.length = 128) (h : ∀ q, q < 128 -> l[q]? = some v) : l = qf 128 v := by
 refine qbv fun q => ?_;rcases qaw q 128 with hq | hq
 ·rw [h q hq, qao, if_pos hq]
 ·rw [qas (by omega), qas (by simp; omega)]
theorem zr7 {sz : Int} {F : Int -> (Int × Int)} {idx : List Int} {blk : List (aS (Int × Int))} {kn : List (aS (Int × Int) × Int)} {ev : List ((Int × Int) × Int)} (hk : TInv sz F idx blk kn ev) (hb : blk.length <= 10000000) (ixn bkn : Bool) (v : (Int × Int)) :
 ACall qa 67 [.box 0 0, .pv (.agg (encP v))] (lY sz kn ev false ixn false bkn idx blk) fun r h' => ∃ k kn' ev' bn' blk', r = .pv (kvP k) /\ h' = lY sz kn' ev' false ixn true bn' idx blk' /\ TInv sz F idx blk' kn' ev' /\ 0 <= k /\ blk'[k.toNat]? = some (rep v) /\ blk'.length <= blk.length + 1 := by
 refine ACall.mark 1000 [5] (R := fun r h' => ∃ k kn' ev' bm' bn' blk', r = .pv (kvP k) /\ h' = lY sz kn' ev' false ixn bm' bn' idx blk' /\ TInv sz F idx blk' kn' ev' /\ 0 <= k /\ blk'[k.toNat]? = some (rep v) /\ blk'.length <= blk.length + 1) ?_ ?_
 ·refine zrz _ _ _ _ _ _ _ _ _ v.1 v.2 (fun x m2 m3 c => 0 <= x /\ x <= 128 /\ m2 = fP kn /\ m3 = gU ev /\ ∃ l : List (Int × Int), l.length = 128 /\ c = l.flatMap encP /\ ∀ q, q < x.toNat -> l[q]? = some v) (fun x _ _ _ => 128 - x.toNat) ?_;unfold zib;rw [show [.int .i32 v.1, .int .i32 v.2] = encP v from rfl, zr4];refine ⟨zij ev, zal v, fun u hu => ?_, fun hu => ⟨⟨rfl, qe _, by omega, rfl, rfl, qf 128 (0, 0), by simp, zik, fun q hq => by simp at hq⟩, ?_⟩⟩
  ·cases hg : bU v ev with
   | none => rw [hg] at hu; cases hu
   | some k =>
     rw [hg] at hu; cases hu;obtain ⟨k0, k1⟩ := hk.ev_ok v k hg;exact ⟨k, rfl, k, kn, ev, false, bkn, blk, rfl, rfl, hk, k0, k1, by omega⟩
  ·rintro x _ _ _ ⟨x0, x1, rfl, rfl, l, hl, rfl, hq⟩;refine aC (fun hc => ?_) (fun hc => ?_)
   ·simp only [aB] at hc;have hw : i64.wrap (x + 1) = x + 1 := aF (by omega) (by omega);have hn : (x + 1).toNat = x.toNat + 1 := by omega
    rw [zam l x.toNat (by omega) v, hw, zan];refine ⟨⟨x0, hc⟩, ⟨rfl, by omega⟩, rfl, ⟨by omega, by omega, rfl, rfl, l.set x.toNat v, by simpa using hl, rfl, fun q hq' => ?_⟩, by dsimp only; omega⟩
    rw [hn] at hq';rw [qaz];by_cases e : x.toNat = q
    ·rw [if_pos e, if_pos (by omega)]
    ·rw [if_neg e]; exact hq q (by omega)
   ·simp only [aB] at hc;have hx : x = 128 := by omega
    subst hx;have hrep := zr6 hl hq;subst hrep;have hcI : (qf 128 v).flatMap encP = cP (rep v) := rfl;rw [hcI, zai];refine ⟨by rw [qab, mZ]; omega, ?_⟩;refine (zii hk hb ixn bkn (rep v)).mono ?_;rintro _ _ ⟨k, kn', bn', blk', rfl, rfl, h1, h2, h3, h4⟩;refine ⟨(k, fP kn', bn', bF encP blk'), ⟨rfl, rfl⟩, ⟨trivial, ⟨rfl, rfl, rfl⟩, trivial, trivial, trivial, trivial, trivial⟩, zij ev, zal v, ?_⟩;have := zr5 v k ev;unfold kvP at this;simp only [this];exact ⟨k, kn', cC v k ev, _, bn', blk', rfl, rfl, h1.even h2 h3, h2, h3, h4⟩
 ·rintro r h' ⟨k, kn', ev', bm', bn', blk', rfl, rfl, h1, h2, h3, h4⟩;exact ⟨k, kn', ev', bn', blk', rfl, rfl, h1, h2, h3, h4⟩
theorem zr8 {v : (Int × Int)} {j : Nat} {u : (Int × Int)} (h : (Trie.rep v).1[j]? = some u) : u = v /\ j < 128 := by
 simp only [Trie.rep, qao] at h;split at h
 ·rename_i hj; cases h; exact ⟨rfl, hj⟩
 ·cases h
theorem p83 (sz : Int) (z : (Int × Int)) (n f : Bool) (l : List (Pc (Int × Int))) (hl : l.length < 4611686018427387904) (hok : ∀ p ∈ l, -9223372036854775808 <= p.fr - 1 /\ p.fr - 1 <= 9223372036854775807) (hs1 : 1 <= sz) (hs2 : sz <= 1114112) :
 PCall qa 42 [.int .i64 sz, .agg (encP z), .sl n f (kS l)] fun v => TrieP sz (fM l z) v := by
 have hF := fun i => qZ l z i (sz - 1);generalize hFF : fM l z = F at *
 refine zr0 _ z.1 z.2 _ _ _
  (fun x10 x11 va vb _ s2 _ s3 m4 m5 => ∃ idx blk kn ev, s2 = aW idx /\ s3 = bF encP blk /\ m4 = fP kn /\ m5 = gU ev /\ TInv sz F idx blk kn ev /\ x11 = 128 * idx.length /\ blk.length <= idx.length /\ x11 < sz + 128 /\ (∀ j, x11 <= j -> j <= x10 -> F j = (va, vb)) /\ x10 <= sz - 1)
  (fun _ x11 _ _ _ _ _ _ _ _ => (sz + 128 - x11).toNat)
  (fun _ y11 _ _ _ _ _ _ _ _ _ x10 x11 x13 va vb _ s2 _ s3 m4 m5 => ∃ idx blk kn ev, s2 = aW idx /\ s3 = bF encP blk /\ m4 = fP kn /\ m5 = gU ev /\ TInv sz F idx blk kn ev /\ x11 = 128 * idx.length /\ x11 < sz + 128 /\ (∀ j, x11 <= j -> j <= x10 -> F j = (va, vb)) /\ x10 <= sz - 1 /\ 0 <= x13 /\ blk[x13.toNat]? = some (rep (va, vb)) /\
   ((x11 = y11 /\ x11 < sz /\ (x11 + 127 <= x10 ∨ sz - 1 <= x10) /\ blk.length <= idx.length + 1) ∨ (y11 + 128 <= x11 /\ blk.length <= idx.length)))
  (fun _ x11 _ _ _ _ _ _ _ _ _ => (sz + 128 - x11).toNat)
  (fun _ y11 _ _ _ _ _ _ _ _ _ _ x10 x11 x va vb c _ s3 _ s4 m5 m6 => ∃ idx blk kn ev, s3 = aW idx /\ s4 = bF encP blk /\ m5 = fP kn /\ m6 = gU ev /\ TInv sz F idx blk kn ev /\ x11 = 128 * idx.length /\ blk.length <= idx.length /\ x11 = y11 /\ x11 < sz /\ 0 <= x /\ x <= 128 /\ x10 <= sz - 1 /\ (∀ j, x11 + x <= j -> j <= x10 -> F j = (va, vb)) /\
   ∃ b : List (Int × Int), b.length = 128 /\ c = b.flatMap encP /\ ∀ (q : Nat) u, b[q]? = some u -> q < x.toNat -> x11 + q < sz -> u = F (x11 + q))
  (fun _ _ x _ _ _ _ _ _ _ _ _ => (128 - x).toNat) ?_
 unfold zic;have hw1 : i64.wrap (sz - 1) = sz - 1 := aF (by omega) (by omega);rw [hw1];refine bA (by simp; omega) ?_;refine (zah n f l z 0 (sz - 1) hl hok).mono ?_;rintro _ rfl;obtain ⟨_, f2, f3, f4⟩ := hF 0 (by omega);refine ⟨_, rfl, rfl, _, rfl, _, rfl, rfl, _, rfl, _, rfl, _, rfl, _, rfl, ⟨rfl, [], [], [], [], rfl, rfl, rfl, rfl, TInv.nil, rfl, ql _, by omega, f4, f3⟩, ?_⟩;clear f2 f3 f4;rintro u0 x v0a v0b _ _ _ _ _ _ ⟨idx, blk, kn, ev, rfl, rfl, rfl, rfl, hk, hx, hb, hx2, hv0, hu0⟩;refine aC (fun hc => ?_) (fun hc => ?_)
 ·simp only [aB] at hc;have hw2 : i64.wrap (x + 128) = x + 128 := aF (by omega) (by omega);rw [hw2]
  have hmin : ∀ a : Int, i64.wrap ((if sz < a + 128 then sz else a + 128) - 1) = (if sz < a + 128 then sz else a + 128) - 1 ∨ ¬ (0 <= a /\ a <= 1114112) := fun a => by
   by_cases ha : 0 <= a /\ a <= 1114112
   ·left; split <;> exact aF (by omega) (by omega)
   ·exact .inr ha
  have hmx := (hmin x).resolve_right (by omega);rw [hmx];refine aC (fun hgt => ?ga) (fun hgt => ?gb)
  case' ga =>
   refine (zah n f l z x (sz - 1) hl hok).mono ?_;rintro _ rfl;obtain ⟨_, hux, hu, hv⟩ := hF x (by omega);refine ⟨_, rfl, rfl, _, rfl, _, rfl, rfl, _, rfl, _, rfl, _, rfl, _, rfl, ?_⟩
   revert hv hu
   generalize (findL l z x (sz - 1)).1 = v;generalize (findL l z x (sz - 1)).2 = u;clear hv0 hu0 hux;intro hu hv
  case' gb =>
   obtain ⟨v, rfl, rfl⟩ : ∃ v : (Int × Int), v.1 = v0a /\ v.2 = v0b := ⟨(v0a, v0b), rfl, rfl⟩
   revert hv0 hu0 hgt
   generalize u0 = u;intro hu hgt hv
  all_goals
   clear hgt;refine aC (fun hc2 => ?_) (fun hc2 => ?_)
   ·simp only [aB, ge_iff_le] at hc2;have hc3 : x + 127 <= u ∨ sz - 1 <= u := by split at hc2 <;> omega
    refine (zr7 hk (by omega) _ _ v).mono ?_;rintro _ _ ⟨k, kn', ev', bn', blk', rfl, rfl, g1, g2, g3, g4⟩;refine ⟨(k, fP kn', gU ev', bn', bF encP blk'), ⟨rfl, rfl⟩, ⟨trivial, ⟨rfl, rfl, rfl⟩, trivial, trivial, trivial, trivial, trivial⟩, ⟨rfl, idx, blk', kn', ev', rfl, rfl, rfl, rfl, g1, hx, hx2, hv, hu, g2, g3, .inl ⟨rfl, hc, hc3, by omega⟩⟩, ?_⟩;rintro t y k' wa wb _ _ _ _ _ _ ⟨idx2, blk2, kn2, ev2, rfl, rfl, rfl, rfl, hk2, hy, hy2, hw, ht, hk0, hkb, hor⟩;have hwy : i64.wrap (y + 128) = y + 128 := aF (by omega) (by omega);rw [hwy, (hmin y).resolve_right (by omega)];refine aC (fun hc4 => ?_) (fun hc4 => ?_)
    ·simp only [qh, aB, ge_iff_le] at hc4;have hc5 : y + 127 <= t ∨ sz - 1 <= t := by have := hc4.2; split at this <;> omega
     refine ⟨⟨fun e he => by simp at he; subst he; rfl, by rw [jQ]; omega⟩, rfl, ⟨idx2 ++ [k'], blk2, kn2, ev2, by simp [aW], rfl, rfl, rfl, hk2.push hk0 hkb fun j u' hj hlt => ?_, by simp; omega, by omega, fun j h1 h2 => hw j (by omega) h2, ht, hk0, hkb, .inr ⟨by omega, by simp; omega⟩⟩, by dsimp only; omega⟩;obtain ⟨rfl, hj2⟩ := zr8 hj;exact (hw _ (by omega) (by omega)).symm
    ·have hw128 : i64.wrap (y - 128) = y - 128 := aF (by omega) (by omega);have hback : i64.wrap (y - 128 + 128) = y := by rw [aF (by omega) (by omega)]; omega
     rw [hw128, hback];simp only [qh, aB, ge_iff_le, not_and] at hc4
     have hor2 : x + 128 <= y /\ blk2.length <= idx2.length := by
      rcases hor with ⟨h1, h2, h3, h4⟩ | h
      ·exfalso;have := hc4 h2;split at this <;> omega
      ·exact h
     exact ⟨rfl, ⟨idx2, blk2, kn2, ev2, rfl, rfl, rfl, rfl, hk2, hy, hor2.2, hy2, hw, ht⟩, by dsimp only; omega⟩
   ·clear hc2;refine ⟨⟨rfl, idx, blk, kn, ev, rfl, rfl, rfl, rfl, hk, hx, hb, rfl, hc, qe _, by omega, hu, fun j h1 h2 => hv j (by omega) h2, qf 128 (0, 0), by simp, zik, fun q u' _ hq _ => by simp at hq⟩, ?_⟩;rintro t y i wa wb _ _ _ _ _ _ _ ⟨idx2, blk2, kn2, ev2, rfl, rfl, rfl, rfl, hk2, hy, hb2, hyx, hy2, i0, i1, ht, hw, b, hbl, rfl, hbq⟩;obtain ⟨w, rfl, rfl⟩ : ∃ v : (Int × Int), v.1 = wa /\ v.2 = wb := ⟨(wa, wb), rfl, rfl⟩;have hwyi : i64.wrap (y + i) = y + i := aF (by omega) (by omega);have hwi : i64.wrap (i + 1) = i + 1 := aF (by omega) (by omega);have hwy : i64.wrap (y + 128) = y + 128 := aF (by omega) (by omega);rw [hwyi, hwi, hwy]
    have step : ∀ (v' : (Int × Int)) (u' : Int), (∀ j, y + i <= j -> j <= u' -> F j = v') -> u' <= sz - 1 -> (y + i < sz -> F (y + i) = v') -> i < 128 ->
     ∃ idx blk kn ev, aW idx2 = aW idx /\ bF encP blk2 = bF encP blk /\ fP kn2 = fP kn /\ gU ev2 = gU ev /\ TInv sz F idx blk kn ev /\ y = 128 * idx.length /\ blk.length <= idx.length /\ y = x /\ y < sz /\ 0 <= i + 1 /\ i + 1 <= 128 /\ u' <= sz - 1 /\ (∀ j, y + (i + 1) <= j -> j <= u' -> F j = v') /\
      ∃ c : List (Int × Int), c.length = 128 /\ (b.set i.toNat v').flatMap encP = c.flatMap encP /\ ∀ (q : Nat) u, c[q]? = some u -> q < (i + 1).toNat -> y + q < sz -> u = F (y + q) := fun v' u' h1 h2 h3 h4 => by
     refine ⟨idx2, blk2, kn2, ev2, rfl, rfl, rfl, rfl, hk2, hy, hb2, hyx, hy2, by omega, by omega, h2, fun j a1 a2 => h1 j (by omega) a2, b.set i.toNat v', by simpa using hbl, rfl, fun q u hq hq2 hq3 => ?_⟩
     rw [qaz] at hq;by_cases e : i.toNat = q
     ·rw [if_pos e, if_pos (by omega)] at hq;cases hq;have e2 : y + (q : Int) = y + i := by omega
      rw [e2];exact (h3 (by omega)).symm
     ·rw [if_neg e] at hq;exact hbq q u hq (by omega) hq3
    refine aC (fun hc5 => ?_) (fun hc5 => ?_)
    ·simp only [aB] at hc5;refine aC (fun hc6 => ?_) (fun hc6 => ?_)
     ·simp only [qh, aB, gt_iff_lt] at hc6;refine (zah n f l z (y + i) (sz - 1) hl hok).mono ?_;rintro _ rfl;obtain ⟨q1, q2, q3, q4⟩ := hF (y + i) (by omega);refine ⟨_, rfl, rfl, _, rfl, _, rfl, rfl, _, rfl, _, rfl, _, rfl, _, rfl, ⟨i0, hc5⟩, ⟨rfl, by rw [zan]; omega⟩, rfl, ?_, by dsimp only; omega⟩;have hput := zam b i.toNat (by omega) (findL l z (y + i) (sz - 1)).1;unfold encP at hput ⊢;rw [hput];exact step _ _ q4 q3 (fun _ => q1.symm) hc5
     ·simp only [qh, aB, gt_iff_lt, not_and] at hc6;refine ⟨⟨i0, hc5⟩, ⟨rfl, by rw [zan]; omega⟩, rfl, ?_, by dsimp only; omega⟩;have hput := zam b i.toNat (by omega) w;unfold encP at hput ⊢;rw [hput];exact step _ _ hw ht (fun h => hw _ (qe _) ((Int.lt_or_le t (y + i)).elim (fun h2 => absurd h (hc6 h2)) id)) hc5
    ·simp only [aB] at hc5;have hi : i = 128 := by omega
     subst hi;obtain ⟨B, hB⟩ : ∃ B : aS (Int × Int), B.1 = b := ⟨⟨b, hbl⟩, rfl⟩;subst hB;have hcI : B.1.flatMap encP = cP B := rfl;rw [hcI, zai];refine ⟨by rw [qab, mZ]; omega, (fun h => ⟨h, h⟩) ?_⟩;refine (zii hk2 (by omega) _ _ B).mono ?_;rintro _ _ ⟨k, kn', bn', blk', rfl, rfl, h1, h2, h3, h4⟩;refine ⟨(k, fP kn', bn', bF encP blk'), ⟨rfl, rfl⟩, ⟨trivial, ⟨rfl, rfl, rfl⟩, trivial, trivial, trivial, trivial, trivial⟩, ⟨fun e he => by simp at he; subst he; rfl, by rw [jQ]; omega⟩, rfl, ⟨idx2 ++ [k], blk', kn', ev2, by simp [aW, kvP], rfl, rfl, rfl, h1.push h2 h3 fun j u' hj hlt => ?_, by simp; omega, by simp; omega, by omega, fun j a1 a2 => hw j (by omega) a2, ht⟩, by dsimp only; omega⟩;have hj2 : j < 128 := by have := (List.getElem?_eq_some_iff.1 hj).1; simp only [hbl] at this; exact this
     rw [<- hy];exact hbq j u' hj (by omega) (by omega)
 ·simp only [aB] at hc;exact ⟨_, _, _, _, idx, blk, rfl, by omega, hk.idx_ok⟩
end Go.Eng
namespace Go.Eng
open Go Go.Proofs Go.Eng.Rows Go.Eng.Trie
theorem TrieI.congr {sz : Int} {F G : Int -> Int} {v : PV} (h : TrieI sz F v) (hFG : ∀ i, 0 <= i -> i < sz -> F i = G i) : TrieI sz G v := by
 obtain ⟨n, f, n2, f2, idx, blk, rfl, h1, h2⟩ := h;refine ⟨n, f, n2, f2, idx, blk, rfl, h1, fun q k hq => ?_⟩;obtain ⟨k0, b, hb, hv⟩ := h2 q k hq;exact ⟨k0, b, hb, fun j u hj hlt => by rw [<- hFG _ (by omega) hlt]; exact hv j u hj hlt⟩
theorem TrieP.congr {sz : Int} {F G : Int -> Int × Int} {v : PV} (h : TrieP sz F v) (hFG : ∀ i, 0 <= i -> i < sz -> F i = G i) : TrieP sz G v := by
 obtain ⟨n, f, n2, f2, idx, blk, rfl, h1, h2⟩ := h;refine ⟨n, f, n2, f2, idx, blk, rfl, h1, fun q k hq => ?_⟩;obtain ⟨k0, b, hb, hv⟩ := h2 q k hq;exact ⟨k0, b, hb, fun j u hj hlt => by rw [<- hFG _ (by omega) hlt]; exact hv j u hj hlt⟩
theorem TrieF.congr {sz : Int} {F G : Int -> Fl} {v : PV} (h : TrieF sz F v) (hFG : ∀ i, 0 <= i -> i < sz -> F i = G i) : TrieF sz G v := by
 obtain ⟨n, f, n2, f2, idx, blk, rfl, h1, h2⟩ := h;refine ⟨n, f, n2, f2, idx, blk, rfl, h1, fun q k hq => ?_⟩;obtain ⟨k0, b, hb, hv⟩ := h2 q k hq;exact ⟨k0, b, hb, fun j u hj hlt => by rw [<- hFG _ (by omega) hlt]; exact hv j u hj hlt⟩
def toI (s : Sp) : Pc Int := ⟨s.fr, s.to, s.a⟩
theorem zao (n f : Bool) (rows : List Row) (k : Int) (hl : rows.length < 1000000) : PCall qa 39 [.sl n f (bB rows), .int .i64 k] fun v => TrieI 1114112 (aD rows k) v := by
 have hg := mT k rows;have hlen := hg.len;refine zpj _ _ _ _ (fun _ _ s10 x11 x12 m s => s10 = aM (aK k rows) /\ x11 = (aK k rows).length /\ 0 <= x12 /\ x12 <= x11 /\ s = kQ (((aK k rows).take x12.toNat).map toI)) (fun _ _ _ x11 x12 _ _ => (x11 - x12).toNat) ?_;unfold zf2;refine (p29 _ _ rows k (by omega)).mono ?_;rintro _ ⟨n1, f1, rfl⟩;refine ⟨_, _, _, rfl, ⟨rfl, rfl, by rw [fB], qe _, by rw [fB]; omega, rfl⟩, ?_⟩;rintro _ _ _ x11 i m _ ⟨rfl, rfl, i0, i1, rfl⟩;refine aC (fun hc => ?_) (fun hc => ?_)
 ·simp only [aB] at hc;have hi : i.toNat < (aK k rows).length := by omega
  have hw : i64.wrap (i + 1) = i + 1 := aF (by omega) (by omega);have hn : (i + 1).toNat = i.toNat + 1 := by omega
  have hgd : (aM (aK k rows)).getD i.toNat [] = dJ (aK k rows)[i.toNat] := cG hi;have hix : aI (aM (aK k rows)) i 4 := bT iK i0 (by omega);refine ⟨hix, (aK k rows)[i.toNat].fr, by rw [hgd]; rfl, (aK k rows)[i.toNat].to, by rw [hgd]; rfl, (aK k rows)[i.toNat].a, by rw [hgd]; rfl, (aK k rows)[i.toNat].b, by rw [hgd]; rfl, ⟨fun e he => by simp at he; subst he; rfl, by simp [kQ]; omega⟩, rfl, ?_⟩;rw [hw];refine ⟨⟨rfl, rfl, by omega, by omega, ?_⟩, by dsimp only; omega⟩;rw [hn, cZ hi, qaf];unfold kQ;rw [qaf];rfl
 ·simp only [aB] at hc;rw [qd (by omega)];refine (zrh 1114112 0 _ _ _ (by simp; omega) (fun p hp => ?_) (by omega) (by omega)).mono fun v hv => hv.congr fun i h0 h1 => zq0 rows k i;obtain ⟨s, hs, rfl⟩ := List.mem_map.1 hp;have := hg.2 s hs;exact ⟨by simp only [toI]; omega, by simp only [toI]; omega⟩

def uG (ll : List (Bool × Bool × List Sp)) : List (List PV) := ll.map fun x => [.sl x.1 x.2.1 (aM x.2.2)]
abbrev uH (M : List (Int × Bool)) : List (PV × PV) := cH (fun n => .int .i64 n) (fun b => .bool b) M
def iN (ll : List (Bool × Bool × List Sp)) : List Sp := (ll.map (·.2.2)).flatten
def oT (l : List Sp) : List Int := l.flatMap fun s => [s.fr, s.to + 1]
theorem zr9 (l : List Sp) (s : Sp) (x : Int) : x ∈ oT (l ++ [s]) ↔ x ∈ oT l ∨ x = s.fr ∨ x = s.to + 1 := by
 simp [oT]
def JM (done : List Sp) (m : List (PV × PV)) : Prop := ∃ M : List (Int × Bool), m = uH M /\ (M.map (·.1)).Nodup /\ M.length <= 1 + 2 * done.length /\ ∀ x, x ∈ M.map (·.1) ↔ x = 0 ∨ x ∈ oT done
theorem zsa (n f : Bool) (ll : List (Bool × Bool × List Sp)) (hl : ll.length < 1000) (hg : ∀ x ∈ ll, Rows.Good x.2.2) :
 PCall qa 57 [.sl n f (uG ll)] fun v => ∃ n f t, v = .sl n f (aW t) /\ t.length < 4000000000 /\ ∀ x, x ∈ t ↔ lV (ll.map (·.2.2)) x := by
 have hlen : ∀ k, (iN (ll.take k)).length <= 1114112 * k := fun k => by
  induction k with
  | zero => simp [iN]
  | succ k ih =>
    by_cases hk : k < ll.length
    ·rw [cZ hk];have := (hg _ (qq hk)).len;simp only [iN, qaf, qav, qb, qbo, qbq, qo, qv, qm] at ih ⊢;omega
    ·rw [qd (by omega)];rw [qd (by omega)] at ih;omega
 refine zpk _ _ _ (fun i m => 0 <= i /\ i <= ll.length /\ JM (iN (ll.take i.toNat)) m) (fun i _ => ll.length - i.toNat)
  (fun i _ _ _ _ _ _ i' n18 f18 s18 x19 k m => i' = i /\ 0 <= i /\ ∃ hi : i.toNat < ll.length, s18 = aM ll[i.toNat].2.2 /\ x19 = ll[i.toNat].2.2.length /\ 0 <= k /\ k <= x19 /\ JM (iN (ll.take i.toNat) ++ ll[i.toNat].2.2.take k.toNat) m) (fun _ _ _ _ x19 k _ => (x19 - k).toNat)
  (fun m s r _ => ∃ (A : List Int) (R : List (Int × Bool)) (K : List Int), s = aW A /\ r = uH R /\ (A ++ R.map (·.1)).Perm K /\ K.length < 4000000000 /\ (∀ x, x ∈ K ↔ lV (ll.map (·.2.2)) x)) (fun _ _ r _ => r.length) ?_
 unfold zf3;refine ⟨fun kv hkv => (by cases hkv), ⟨rfl, qe _, by omega, [(0, true)], rfl, by simp, by simp [iN], fun x => by simp [iN, oT]⟩, ?_⟩;rintro i _ ⟨i0, i1, M, rfl, hnd, hml, hmem⟩;have hlc : (uG ll).length = ll.length := by simp [uG]
 refine aC (fun hc => ?_) (fun hc => ?_)
 ·simp only [aB, hlc] at hc;have hi : i.toNat < ll.length := by omega
  have hw : i64.wrap (i + 1) = i + 1 := aF (by omega) (by omega);have hn : (i + 1).toNat = i.toNat + 1 := by omega
  have hgd : (uG ll).getD i.toNat [] = [.sl ll[i.toNat].1 ll[i.toNat].2.1 (aM ll[i.toNat].2.2)] := cG hi;have hgi := hg _ (qq hi);have hgl := hgi.len;have hsl := hlen i.toNat;refine ⟨bT (enc := fun x : Bool × Bool × List Sp => [PV.sl x.1 x.2.1 (aM x.2.2)]) (fun _ => rfl) i0 hc, _, _, _, by rw [hgd]; rfl, ⟨rfl, rfl, i0, hi, rfl, by rw [fB], qe _, by rw [fB]; omega, M, rfl, hnd, by simpa using hml, by simpa using hmem⟩, ?_⟩
  rintro i' n18 f18 _ _ k _ ⟨rfl, _, _, rfl, rfl, k0, k1, M, rfl, hnd, hml, hmem⟩;rw [qb, qi] at hml;refine aC (fun hc2 => ?_) (fun hc2 => ?_)
  ·simp only [aB] at hc2;have hk : k.toNat < ll[i'.toNat].2.2.length := by omega
   have hwk : i64.wrap (k + 1) = k + 1 := aF (by omega) (by omega);have hnk : (k + 1).toNat = k.toNat + 1 := by omega
   have hgk : (aM ll[i'.toNat].2.2).getD k.toNat [] = dJ ll[i'.toNat].2.2[k.toNat] := cG hk;have hix : aI (aM ll[i'.toNat].2.2) k 4 := bT iK k0 (by omega);have hr := hgi.2 _ (qq hk);have hts : ll[i'.toNat].2.2.take (k.toNat + 1) = ll[i'.toNat].2.2.take k.toNat ++ [ll[i'.toNat].2.2[k.toNat]] := cZ hk;generalize ll[i'.toNat].2.2[k.toNat] = s at *;have hwt : i64.wrap (s.to + 1) = s.to + 1 := aF (by omega) (by omega);have set1 := jM (ek := fun n => PV.int .i64 n) (ev := fun b => PV.bool b) (qW .i64) s.fr true M;have set2 := jM (ek := fun n => PV.int .i64 n) (ev := fun b => PV.bool b) (qW .i64) (s.to + 1) true (cC s.fr true M)
   have fin : (JM (iN (ll.take i'.toNat) ++ ll[i'.toNat].2.2.take (k.toNat + 1)) (bK (.int .i64 (s.to + 1)) (.bool true) (bK (.int .i64 s.fr) (.bool true) (uH M)))) := by
    refine ⟨cC (s.to + 1) true (cC s.fr true M), by rw [set1, set2], zff (zff hnd), ?_, fun x => ?_⟩
    ·have e1 := zfh s.fr true M;have e2 := zfh (s.to + 1) true (cC s.fr true M);rw [hts, qb, qb, qi];simp only [qr, qt];omega
    ·rw [zfg, zfg, hmem, hts, <- qg, zr9];constructor
     ·rintro ((h | h) | h)
      ·exact h.elim .inl fun h => .inr (.inl h)
      ·exact .inr (.inr (.inl h))
      ·exact .inr (.inr (.inr h))
     ·rintro (h | h | h | h)
      ·exact .inl (.inl (.inl h))
      ·exact .inl (.inl (.inr h))
      ·exact .inl (.inr h)
      ·exact .inr h
   have hk1 : kO .i64 (bK (.int .i64 s.fr) (.bool true) (uH M)) := by rw [set1]; exact mS _
   refine ⟨hix, s.fr, by rw [hgk]; rfl, s.to, by rw [hgk]; rfl, s.a, by rw [hgk]; rfl, s.b, by rw [hgk]; rfl, ?_⟩;rw [hwt, hwk];have hmu : ((ll[i'.toNat].2.2.length : Int) - (k + 1)).toNat < ((ll[i'.toNat].2.2.length : Int) - k).toNat := by omega
   rw [<- hnk] at fin;refine ⟨⟨?_, ?_⟩, ?_⟩ <;> exact ⟨mS M, hk1, rfl, ⟨rfl, i0, hi, rfl, rfl, by omega, by omega, fin⟩, hmu⟩
  ·simp only [aB] at hc2;have htl : ll[i'.toNat].2.2.take k.toNat = ll[i'.toNat].2.2 := qd (by omega);rw [htl] at hmem
   have hso : iN (ll.take (i' + 1).toNat) = iN (ll.take i'.toNat) ++ ll[i'.toNat].2.2 := by
    rw [hn, cZ hi]; simp only [iN, qaf, qbo, qbq, qav, qo, qv, qm]
   rw [hw];refine ⟨rfl, ⟨by omega, by omega, M, rfl, hnd, ?_, fun x => ?_⟩, by dsimp only; omega⟩
   ·rw [hso, qb]; omega
   ·rw [hmem, hso]
 ·simp only [aB, hlc] at hc;rw [qd (by omega)] at hmem hml
  have hM : M.length < 4000000000 := by
   have := hlen ll.length;rw [qd (ql _)] at this;omega
  refine ⟨⟨rfl, [], M, M.map (·.1), rfl, rfl, List.Perm.refl _, by simpa using hM, fun x => ?_⟩, ?_⟩
  ·rw [hmem];unfold lV oT iN;simp only [qbz, List.mem_flatten, qap, qbb, or_false];constructor
   ·rintro (h | ⟨s, ⟨l, hl, hs⟩, h⟩)
    ·exact .inl h
    ·exact .inr ⟨l, hl, s, hs, h⟩
   ·rintro (h | ⟨l, hl, s, hs, h⟩)
    ·exact .inl h
    ·exact .inr ⟨s, ⟨l, hl, hs⟩, h⟩
  ·rintro m _ _ q ⟨A, R, K, rfl, rfl, hp, hKl, hKm⟩;have hlen2 := hp.length_eq;simp only [qb, qbj] at hlen2;refine ⟨fun hr => ?_, fun j k v hj => ?_⟩
   ·have hR : R = [] := by cases R with | nil => rfl | cons => simp [cH] at hr
    subst hR;simp only [qbq, qm] at hp;simp only [qt] at hlen2;exact ⟨_, _, A, rfl, by omega, fun x => by rw [hp.mem_iff, hKm]⟩
   ·obtain ⟨hjl, rfl, rfl, hpe, he⟩ := zo1 hj;refine ⟨R[j].1, rfl, R[j].2, rfl, _, rfl, _, rfl, ⟨fun e he => by simp at he; subst he; rfl, by rw [jQ]; omega⟩, rfl, ⟨A ++ [R[j].1], R.eraseIdx j, K, by simp [aW], he, ?_, hKl, hKm⟩, ?_⟩
    ·refine List.Perm.trans ?_ hp;rw [qg];refine List.Perm.append_left A ?_;simpa using hpe.map (·.1)
    ·dsimp only;rw [he, zfe, zfe, List.length_eraseIdx_of_lt hjl]; omega
theorem oU {i : Int} (h0 : 0 <= i) (h1 : i < 4) : i = 0 ∨ i = 1 ∨ i = 2 ∨ i = 3 := by omega
def c5 (l0 l1 l2 l3 : List Sp) (i : Nat) : List Sp := [l0, l1, l2, l3].getD i []
theorem at4 (n0 f0 n1 f1 n2 f2 n3 f3 : Bool) (l0 l1 l2 l3 : List Sp) {i : Int} (h0 : 0 <= i) (h1 : i < 4) : ∃ n f, [PV.sl n0 f0 (aM l0), .sl n1 f1 (aM l1), .sl n2 f2 (aM l2), .sl n3 f3 (aM l3)].getD i.toNat .unit = .sl n f (aM (c5 l0 l1 l2 l3 i.toNat)) := by
 rcases oU h0 h1 with rfl | rfl | rfl | rfl
 ·exact ⟨n0, f0, rfl⟩
 ·exact ⟨n1, f1, rfl⟩
 ·exact ⟨n2, f2, rfl⟩
 ·exact ⟨n3, f3, rfl⟩
theorem zsb (l0 l1 l2 l3 : List Sp) {i : Int} (h0 : 0 <= i) (h1 : i < 4) : ([l0, l1, l2, l3].take (i + 1).toNat) = ([l0, l1, l2, l3].take i.toNat) ++ [c5 l0 l1 l2 l3 i.toNat] := by
 rcases oU h0 h1 with rfl | rfl | rfl | rfl <;> rfl
theorem zsc (l0 l1 l2 l3 : List Sp) {i : Int} (h0 : 0 <= i) (h1 : i < 4) : c5 l0 l1 l2 l3 i.toNat ∈ [l0, l1, l2, l3] := by
 rcases oU h0 h1 with rfl | rfl | rfl | rfl <;> simp [c5]
theorem zsd (a last : Int) (n0 f0 n1 f1 n2 f2 n3 f3 : Bool) (l0 l1 l2 l3 : List Sp) (hg : ∀ l ∈ [l0, l1, l2, l3], Rows.Good l) :
 PCall qa 59 [.int .i64 a, .int .i64 last, .agg [.sl n0 f0 (aM l0), .sl n1 f1 (aM l1), .sl n2 f2 (aM l2), .sl n3 f3 (aM l3)]] fun v => v = .int .i64 (dW a last [l0, l1, l2, l3].flatten) := by
 refine zpl _ _ _ _ _ _ _ _ _ _ _ _ _ _
  (fun x _ _ s0 _ _ s1 _ _ s2 _ _ s3 i => s0 = aM l0 /\ s1 = aM l1 /\ s2 = aM l2 /\ s3 = aM l3 /\ 0 <= i /\ i <= 4 /\ x = dW a last ([l0, l1, l2, l3].take i.toNat).flatten) (fun _ _ _ _ _ _ _ _ _ _ _ _ _ i => (4 - i).toNat)
  (fun _ _ _ _ _ _ _ _ _ _ _ _ _ i _ _ _ _ _ x _ _ s0 _ _ s1 _ _ s2 _ _ s3 i' _ _ s15 x16 k => s0 = aM l0 /\ s1 = aM l1 /\ s2 = aM l2 /\ s3 = aM l3 /\ i = i' /\ s15 = aM (c5 l0 l1 l2 l3 i.toNat) /\ x16 = (c5 l0 l1 l2 l3 i.toNat).length /\ 0 <= k /\ k <= x16 /\
   x = dW a last (([l0, l1, l2, l3].take i.toNat).flatten ++ (c5 l0 l1 l2 l3 i.toNat).take k.toNat)) (fun _ _ _ _ _ _ _ _ _ _ _ _ _ _ _ _ _ x16 k => (x16 - k).toNat) ?_
 unfold zf4;refine ⟨_, _, _, rfl, _, _, _, rfl, _, _, _, rfl, _, _, _, rfl, ⟨rfl, rfl, rfl, rfl, rfl, qe _, by omega, rfl⟩, ?_⟩;rintro _ n0 f0 _ n1 f1 _ n2 f2 _ n3 f3 _ i ⟨rfl, rfl, rfl, rfl, i0, i1, rfl⟩;have hw : i64.wrap (i + 1) = i + 1 := aF (by omega) (by omega);refine aC (fun hc => ?_) (fun hc => ?_)
 ·simp only [aB] at hc;obtain ⟨m, g, hat⟩ := at4 n0 f0 n1 f1 n2 f2 n3 f3 l0 l1 l2 l3 i0 hc;have hgi := hg _ (zsc l0 l1 l2 l3 i0 hc);have hgl := hgi.len;refine ⟨⟨i0, hc, by simp; omega⟩, m, g, _, hat, ⟨rfl, rfl, rfl, rfl, rfl, rfl, rfl, by rw [fB], qe _, by rw [fB]; omega, by simp⟩, ?_⟩;rintro _ n0 f0 _ n1 f1 _ n2 f2 _ n3 f3 _ _ n15 f15 _ _ k ⟨rfl, rfl, rfl, rfl, rfl, rfl, rfl, k0, k1, rfl⟩;have htk := zsb l0 l1 l2 l3 i0 hc;refine aC (fun hc2 => ?_) (fun hc2 => ?_)
  ·simp only [aB] at hc2;have hk : k.toNat < (c5 l0 l1 l2 l3 i.toNat).length := by omega
   have hwk : i64.wrap (k + 1) = k + 1 := aF (by omega) (by omega);have hnk : (k + 1).toNat = k.toNat + 1 := by omega
   have hgk : (aM (c5 l0 l1 l2 l3 i.toNat)).getD k.toNat [] = dJ (c5 l0 l1 l2 l3 i.toNat)[k.toNat] := cG hk;have hix : aI (aM (c5 l0 l1 l2 l3 i.toNat)) k 4 := bT iK k0 (by omega);have hr := hgi.2 _ (qq hk);have hts : (c5 l0 l1 l2 l3 i.toNat).take (k.toNat + 1) = (c5 l0 l1 l2 l3 i.toNat).take k.toNat ++ [(c5 l0 l1 l2 l3 i.toNat)[k.toNat]] := cZ hk;have hmu : (((c5 l0 l1 l2 l3 i.toNat).length : Int) - (k + 1)).toNat < (((c5 l0 l1 l2 l3 i.toNat).length : Int) - k).toNat := by omega
   refine ⟨hix, (c5 l0 l1 l2 l3 i.toNat)[k.toNat].fr, by rw [hgk]; rfl, (c5 l0 l1 l2 l3 i.toNat)[k.toNat].to, by rw [hgk]; rfl, (c5 l0 l1 l2 l3 i.toNat)[k.toNat].a, by rw [hgk]; rfl, (c5 l0 l1 l2 l3 i.toNat)[k.toNat].b, by rw [hgk]; rfl, ?_⟩;rw [hwk];generalize (c5 l0 l1 l2 l3 i.toNat)[k.toNat] = s at *;have hws : i64.wrap (s.fr - 1) = s.fr - 1 := aF (by omega) (by omega);rw [hws]
   have hstep : dW a last (([l0, l1, l2, l3].take i.toNat).flatten ++ (c5 l0 l1 l2 l3 i.toNat).take (k + 1).toNat) = if s.fr > a /\ s.fr <= dW a last (([l0, l1, l2, l3].take i.toNat).flatten ++ (c5 l0 l1 l2 l3 i.toNat).take k.toNat) then s.fr - 1 else dW a last (([l0, l1, l2, l3].take i.toNat).flatten ++ (c5 l0 l1 l2 l3 i.toNat).take k.toNat) := by
    rw [hnk, hts, <- qg, zhd]; rfl
   refine aC (fun h1 => aC (fun h2 => ?_) (fun h2 => ?_)) (fun h1 => ?_)
   ·simp only [aB] at h1 h2;rw [if_pos ⟨h1, h2⟩] at hstep;exact ⟨rfl, ⟨rfl, rfl, rfl, rfl, rfl, rfl, rfl, by omega, by omega, hstep.symm⟩, hmu⟩
   ·simp only [aB] at h1 h2;rw [if_neg (fun h => h2 h.2)] at hstep;exact ⟨rfl, ⟨rfl, rfl, rfl, rfl, rfl, rfl, rfl, by omega, by omega, hstep.symm⟩, hmu⟩
   ·simp only [aB] at h1;rw [if_neg (fun h => h1 h.1)] at hstep;exact ⟨rfl, ⟨rfl, rfl, rfl, rfl, rfl, rfl, rfl, by omega, by omega, hstep.symm⟩, hmu⟩
  ·simp only [aB] at hc2;have htl : (c5 l0 l1 l2 l3 i.toNat).take k.toNat = (c5 l0 l1 l2 l3 i.toNat) := qd (by omega);rw [hw, htl];refine ⟨rfl, ⟨rfl, rfl, rfl, rfl, by omega, by omega, ?_⟩, by dsimp only; omega⟩;rw [htk]; simp
 ·simp only [aB] at hc;have : i = 4 := by omega
  subst this;rfl
def kd (q : Nat) : Int := [5, 7, 8, 3].getD q 0
def k4 (rows : List Row) (q : Nat) : List Sp := aK (kd q) rows
theorem zse (rows : List Row) {i : Int} (h0 : 0 <= i) (h1 : i < 4) : c5 (aK 5 rows) (aK 7 rows) (aK 8 rows) (aK 3 rows) i.toNat = k4 rows i.toNat := by
 rcases oU h0 h1 with rfl | rfl | rfl | rfl <;> rfl
def CellsK (rows : List Row) (i : Int) (c : List PV) : Prop := c.length = 4 /\ ∀ q : Nat, (q : Int) < i -> ∃ n f, c[q]? = some (.sl n f (aM (k4 rows q)))
def HasC (rows : List Row) (a i : Int) (c : List PV) : Prop := c.length = 4 /\ ∀ q : Nat, (q : Int) < i -> c[q]? = some (.bool (bP rows (kd q) a))
theorem zil {c : List PV} (hl : c.length = 4) {i : Int} (h0 : 0 <= i) (h1 : i < 4) (v : PV) : (aR c (0 + i.toNat * 1) [v]).length = 4 /\ ∀ q : Nat, (aR c (0 + i.toNat * 1) [v])[q]? = if q = i.toNat then some v else c[q]? := by
 have hle : (0 + i.toNat * 1) + [v].length <= c.length := by simp; omega
 refine ⟨by rw [jD _ _ _ hle, hl], fun q => ?_⟩;rw [lE _ _ _ hle];simp only [qbc, Nat.mul_one, qr, qt];by_cases hq : q = i.toNat
 ·subst hq; rw [if_pos (by omega), if_pos rfl]; simp
 ·rw [if_neg (by omega), if_neg hq]
theorem CellsK.put {rows : List Row} {i : Int} {c : List PV} (h : CellsK rows i c) (h0 : 0 <= i) (h1 : i < 4) (n f : Bool) : CellsK rows (i + 1) (aR c (0 + i.toNat * 1) [.sl n f (aM (k4 rows i.toNat))]) := by
 obtain ⟨e1, e2⟩ := zil h.1 h0 h1 (.sl n f (aM (k4 rows i.toNat)));refine ⟨e1, fun q hq => ?_⟩;rw [e2];by_cases hqi : q = i.toNat
 ·subst hqi; rw [if_pos rfl]; exact ⟨n, f, rfl⟩
 ·rw [if_neg hqi]; exact h.2 q (by omega)
theorem HasC.put {rows : List Row} {a i : Int} {c : List PV} (h : HasC rows a i c) (h0 : 0 <= i) (h1 : i < 4) {b : Bool} (hb : b = bP rows (kd i.toNat) a) : HasC rows a (i + 1) (aR c (0 + i.toNat * 1) [.bool b]) := by
 obtain ⟨e1, e2⟩ := zil h.1 h0 h1 (.bool b);refine ⟨e1, fun q hq => ?_⟩;rw [e2];by_cases hqi : q = i.toNat
 ·subst hqi; rw [if_pos rfl, hb]
 ·rw [if_neg hqi]; exact h.2 q (by omega)
theorem eq4 {c : List PV} {a0 a1 a2 a3 : PV} (hl : c.length = 4) (h0 : c[0]? = some a0) (h1 : c[1]? = some a1) (h2 : c[2]? = some a2) (h3 : c[3]? = some a3) : c = [a0, a1, a2, a3] := by
 match c, hl with
 | [b0, b1, b2, b3], _ => simp at h0 h1 h2 h3; rw [h0, h1, h2, h3]
theorem CellsK.all {rows : List Row} {c : List PV} (h : CellsK rows 4 c) : ∃ n0 f0 n1 f1 n2 f2 n3 f3, c = [.sl n0 f0 (aM (aK 5 rows)), .sl n1 f1 (aM (aK 7 rows)), .sl n2 f2 (aM (aK 8 rows)), .sl n3 f3 (aM (aK 3 rows))] := by
 obtain ⟨n0, f0, e0⟩ := h.2 0 (by omega);obtain ⟨n1, f1, e1⟩ := h.2 1 (by omega);obtain ⟨n2, f2, e2⟩ := h.2 2 (by omega);obtain ⟨n3, f3, e3⟩ := h.2 3 (by omega);exact ⟨n0, f0, n1, f1, n2, f2, n3, f3, eq4 h.1 e0 e1 e2 e3⟩
theorem HasC.all {rows : List Row} {a : Int} {c : List PV} (h : HasC rows a 4 c) : c = [.bool (dK rows a).1, .bool (dK rows a).2.1, .bool (dK rows a).2.2.1, .bool (dK rows a).2.2.2] :=
 eq4 h.1 (h.2 0 (by omega)) (h.2 1 (by omega)) (h.2 2 (by omega)) (h.2 3 (by omega))
theorem zsf {i : Int} (h0 : 0 <= i) (h1 : i < 4) : [PV.int .i64 5, .int .i64 7, .int .i64 8, .int .i64 3].getD i.toNat .unit = .int .i64 (kd i.toNat) := by
 rcases oU h0 h1 with rfl | rfl | rfl | rfl <;> rfl
theorem zim (rows : List Row) : ∀ l ∈ l4 rows, Rows.Good l := by
 intro l hl;simp only [l4, qap, qbb, or_false] at hl;rcases hl with rfl | rfl | rfl | rfl <;> exact mT _ _
theorem zsg (rows : List Row) {i : Int} (h0 : 0 <= i) (h1 : i < 4) : (l4 rows).take (i + 1).toNat = (l4 rows).take i.toNat ++ [k4 rows i.toNat] := by
 rcases oU h0 h1 with rfl | rfl | rfl | rfl <;> rfl
theorem zsh {rows : List Row} {x : Int} (h : lV (l4 rows) x) : 0 <= x /\ x <= 1114112 := by
 rcases h with rfl | ⟨l, hl, s, hs, h⟩
 ·omega
 ·have := (zim rows l hl).2 s hs;omega
def TrP (rows : List Row) (t : List Int) (i : Int) (s : List (List PV)) : Prop := ∃ P : List (Pc Fl), s = kR P /\ (P.length : Int) <= i /\ PiecesOK rows (t.take i.toNat) P
theorem zsi (n f : Bool) (rows : List Row) (hl : rows.length < 1000000) : PCall qa 40 [.sl n f (bB rows)] fun v => TrieF 1114112 (dK rows) v := by
 refine zpm _ _ _
  (fun a b c d i c0 => a = 5 /\ b = 7 /\ c = 8 /\ d = 3 /\ 0 <= i /\ i <= 4 /\ CellsK rows i c0) (fun _ _ _ _ i _ => (4 - i).toNat)
  (fun p4 _ _ s29 x30 i _ s => CellsK rows 4 p4 /\ ∃ t, s29 = aW t /\ x30 = t.length /\ t.length < 4000000000 /\ (∀ x, x ∈ t ↔ lV (l4 rows) x) /\ 0 <= i /\ i <= x30 /\ TrP rows t i s) (fun _ _ _ _ x30 i _ _ => (x30 - i).toNat)
  (fun p4 a _ _ _ s29 x30 i _ _ _ _ _ _ _ _ _ _ _ _ _ _ s _ p4' a' x11 _ _ s29' x30' i' _ _ s0 _ _ s1 _ _ s2 _ _ s3 k _ s' c1 => p4 = p4' /\ a = a' /\ s29 = s29' /\ x30 = x30' /\ i = i' /\ s = s' /\ s0 = aM (aK 5 rows) /\ s1 = aM (aK 7 rows) /\ s2 = aM (aK 8 rows) /\ s3 = aM (aK 3 rows) /\
   0 <= k /\ k <= 4 /\ HasC rows a k c1 /\ LastOK ((l4 rows).take k.toNat) a x11) (fun _ _ _ _ _ _ _ _ _ _ _ _ _ _ _ _ _ _ _ _ k _ _ _ => (4 - k).toNat) ?_
 unfold zf5;refine ⟨⟨rfl, ql _⟩, _, rfl, _, rfl, _, rfl, _, rfl, ⟨rfl, rfl, rfl, rfl, rfl, qe _, by omega, rfl, fun q hq => absurd hq (by omega)⟩, ?_⟩;rintro _ _ _ _ i c0 ⟨rfl, rfl, rfl, rfl, i0, i1, hck⟩;have hw : i64.wrap (i + 1) = i + 1 := aF (by omega) (by omega);refine aC (fun hc => ?_) (fun hc => ?_)
 ·simp only [aB] at hc;refine ⟨⟨i0, hc, by simp; omega⟩, kd i.toNat, zsf i0 hc, ?_⟩;refine (p29 _ _ rows (kd i.toNat) (by omega)).mono ?_;rintro _ ⟨n1, f1, rfl⟩;rw [hw];exact ⟨_, _, _, rfl, ⟨i0, hc⟩, ⟨rfl, by rw [hck.1]; omega⟩, rfl, ⟨rfl, rfl, rfl, rfl, by omega, by omega, hck.put i0 hc n1 f1⟩, by dsimp only; omega⟩
 ·simp only [aB] at hc;have : i = 4 := by omega
  subst this;obtain ⟨n0, f0, n1, f1, n2, f2, n3, f3, rfl⟩ := hck.all;refine ⟨⟨⟨by simp, by simp⟩, rfl⟩, ?_⟩;refine (zsa false true [(n0, f0, aK 5 rows), (n1, f1, aK 7 rows), (n2, f2, aK 8 rows), (n3, f3, aK 3 rows)] (by simp) (fun x hx => ?_)).mono ?_
  ·simp only [qap, qbb, or_false] at hx;rcases hx with rfl | rfl | rfl | rfl <;> exact mT _ _
  rintro _ ⟨n4, f4, t, rfl, htl, ht⟩;refine ⟨_, _, _, rfl, ⟨rfl, hck, t, rfl, by rw [jQ], htl, ht, qe _, by rw [jQ]; omega, [], rfl, qe _, PiecesOK.nil rows⟩, ?_⟩;clear ht htl;rintro p4 n29 f29 _ _ i m _ ⟨hck, t, rfl, rfl, htl, ht, i0, i1, P, rfl, hPl, hP⟩;have hw : i64.wrap (i + 1) = i + 1 := aF (by omega) (by omega);refine aC (fun hc => ?_) (fun hc => ?_)
  ·simp only [aB] at hc;have hi : i.toNat < t.length := by omega
   have hn : (i + 1).toNat = i.toNat + 1 := by omega
   have hgd : (aW t).getD i.toNat [] = [.int .i64 t[i.toNat]] := cG hi;have hts : t.take (i.toNat + 1) = t.take i.toNat ++ [t[i.toNat]] := cZ hi;have hcut := (ht t[i.toNat]).1 (qq hi);have hrng := zsh hcut;obtain ⟨n0, f0, n1, f1, n2, f2, n3, f3, rfl⟩ := hck.all
   refine ⟨bT mW i0 (by omega), t[i.toNat], by rw [hgd]; rfl, _, _, _, rfl, _, _, _, rfl, _, _, _, rfl, _, _, _, rfl,
    ⟨rfl, rfl, rfl, rfl, rfl, rfl, rfl, rfl, rfl, rfl, rfl, qe _, by omega, ⟨rfl, fun q hq => absurd hq (by omega)⟩, LastOK.nil _⟩, ?_⟩
   generalize t[i.toNat] = a at *;rintro _ _ x11 n29 f29 _ _ _ n0 f0 _ n1 f1 _ n2 f2 _ n3 f3 _ k m' _ c1 ⟨rfl, rfl, rfl, rfl, rfl, rfl, rfl, rfl, rfl, rfl, k0, k1, hhas, hlast⟩;have hwk : i64.wrap (k + 1) = k + 1 := aF (by omega) (by omega);refine aC (fun hc2 => ?_) (fun hc2 => ?_)
   ·simp only [aB] at hc2;obtain ⟨n4, f4, hat⟩ := at4 n0 f0 n1 f1 n2 f2 n3 f3 (aK 5 rows) (aK 7 rows) (aK 8 rows) (aK 3 rows) k0 hc2;rw [zse rows k0 hc2] at hat;refine ⟨⟨k0, hc2, by simp; omega⟩, n4, f4, _, hat, ?_⟩;have hwa : i32.wrap a = a := cS (by omega) (by omega);rw [hwa];refine (p34 _ _ (k4 rows k.toNat) a (mT _ _) (by omega)).mono ?_;rintro _ ⟨x, q, rfl, hq1, hq2⟩;have htk := zsg rows k0 hc2;have hmu : (4 - (k + 1)).toNat < (4 - k).toNat := by omega
    refine ⟨_, rfl, rfl, _, rfl, _, rfl, rfl, x.fr, rfl, x.to, rfl, x.a, rfl, x.b, rfl, _, rfl, q, rfl, ?_⟩;rw [hwk];have hsz : ([PV.bool true].length : Nat) = 1 /\ 0 + k.toNat * 1 + 1 <= c1.length := ⟨rfl, by rw [hhas.1]; omega⟩;cases q with
    | true =>
      obtain ⟨hx1, hx2⟩ := hq1 rfl
      have hv : (x.a == 1) = bP rows (kd k.toNat) a := by
       unfold bP; rw [mV hx1 hx2]; rfl
      refine bD rfl ⟨⟨k0, hc2⟩, hsz, bD rfl ⟨rfl, ⟨rfl, rfl, rfl, rfl, rfl, rfl, rfl, rfl, rfl, rfl, by omega, by omega, hhas.put k0 hc2 hv, ?_⟩, hmu⟩⟩;rw [htk];have := hlast.some hx1 hx2 (mT _ _);exact this
    | false =>
      obtain ⟨_, hno⟩ := hq2 rfl
      have hv : false = bP rows (kd k.toNat) a := by
       unfold bP; rw [uD hno]
      refine bA (by simp) ⟨⟨k0, hc2⟩, hsz, bA (by simp) ⟨rfl, ⟨rfl, rfl, rfl, rfl, rfl, rfl, rfl, rfl, rfl, rfl, by omega, by omega, hhas.put k0 hc2 hv, ?_⟩, hmu⟩⟩;rw [htk];exact hlast.none hno
   ·simp only [aB] at hc2;have : k = 4 := by omega
    subst this;have hc1 := hhas.all;subst hc1;have hmu : ((t.length : Int) - (i + 1)).toNat < ((t.length : Int) - i).toNat := by omega
    refine ⟨_, rfl, _, rfl, _, rfl, _, rfl, ?_⟩;rw [hw];refine aC (fun hc3 => ?_) (fun hc3 => ?_)
    ·refine ⟨_, _, _, rfl, _, _, _, rfl, _, _, _, rfl, _, _, _, rfl, ⟨by omega, by omega⟩, _, rfl, ⟨by omega, by omega⟩, _, rfl, ⟨by omega, by omega⟩, _, rfl, ⟨by omega, by omega⟩, _, rfl, ?_⟩;refine (zsd a x11 _ _ _ _ _ _ _ _ (aK 5 rows) (aK 7 rows) (aK 8 rows) (aK 3 rows) (zim rows)).mono ?_;rintro _ rfl;refine ⟨_, rfl, ⟨fun e he => by simp at he; subst he; rfl, by simp [kR]; omega⟩, rfl, ⟨hck, t, rfl, rfl, htl, ht, by omega, by omega, P ++ [⟨a, dW a x11 (l4 rows).flatten, dK rows a⟩], ?_, by simp; omega, ?_⟩, hmu⟩
     ·unfold kR; rw [qaf]; rfl
     ·rw [hn, hts]; exact hP.put hrng.1 hrng.2 hlast
    ·refine ⟨rfl, ⟨hck, t, rfl, rfl, htl, ht, by omega, by omega, P, rfl, by omega, ?_⟩, hmu⟩;rw [hn, hts];refine hP.skip ?_
     revert hc3
     generalize dK rows a = fl;obtain ⟨b0, b1, b2, b3⟩ := fl;cases b0 <;> cases b1 <;> cases b2 <;> cases b3 <;> simp
  ·simp only [aB] at hc;rw [qd (by omega)] at hP;refine (zrv 1114112 (false, false, false, false) _ _ P (by omega) (fun p hp => ?_) (by omega) (by omega)).mono fun v hv => hv.congr fun i h0 h1 => hP.val ht h0 (by omega);have := (hP.sound p hp).1;omega
end Go.Eng
namespace Go.Eng.Rows
open Go Go.Eng Go.Eng.Trie
theorem zin (k v p : PV) (M : List (PV × PV)) : jI (eL k M) p (bK k v M) = bK k p M /\ eL k M < (bK k v M).length := by
 unfold jI eL bK;cases h : bN k M with
 | none => simp
 | some j =>
   have := mK h;simp [this]
def cT (rows : List Row) : Prop := ∀ x ∈ rows, x.kind = 2 -> (1 <= x.a /\ x.a <= 1114111) /\ 0 <= x.b /\ x.b <= 1114111
theorem jR {rows : List Row} {k r : Int} {p : Int × Int} (h : bY rows k r = some p) : ∃ x ∈ rows, x.kind = k /\ x.a = p.1 /\ x.b = p.2 /\ x.fr <= r /\ r <= x.to /\ 0 <= r /\ r <= 1114111 := by
 unfold bY at h;split at h
 ·rename_i hr;unfold first at h
  cases hf : rows.find? (fun x => x.has k r) with
  | none => rw [hf] at h; cases h
  | some x =>
    rw [hf] at h; cases h;have h1 := List.mem_of_find?_eq_some hf;have h2 := List.find?_some hf;simp only [Row.has, qh, aB] at h2;exact ⟨x, h1, h2.1, rfl, rfl, h2.2.1, h2.2.2, hr.1, hr.2⟩
 ·cases h
theorem oV {rows : List Row} (hp : cT rows) (r : Int) : (0 <= (aJ rows r).1 /\ (aJ rows r).1 <= 1114111) /\ 0 <= (aJ rows r).2 /\ (aJ rows r).2 <= 1114111 := by
 unfold aJ;cases h : bY rows 2 r with
 | none => simp
 | some p =>
   obtain ⟨x, h1, h2, h3, h4, _⟩ := jR h;have := hp x h1 h2;simp only; omega
theorem zsj {rows : List Row} (hp : cT rows) {r : Int} {p : Int × Int} (h : bY rows 2 r = some p) : aJ rows r ≠ (0, 0) := by
 unfold aJ;rw [h];obtain ⟨x, h1, h2, h3, h4, _⟩ := jR h;have := hp x h1 h2;intro e;simp only at e;rw [e] at h3;simp only at h3;omega
theorem zsk {rows : List Row} {r : Int} {s : Sp} (hs : s ∈ aK 2 rows) (h : s.has r) : aJ rows r = (s.a, s.b) := by
 unfold aJ; rw [mV hs h]
theorem zsl {rows : List Row} {r : Int} (h : aJ rows r ≠ (0, 0)) : ∃ s ∈ aK 2 rows, s.has r := by
 cases hf : bY rows 2 r with
 | none => unfold aJ at h; rw [hf] at h; exact absurd rfl h
 | some p => obtain ⟨s, h1, h2, _⟩ := zN hf; exact ⟨s, h1, h2⟩
theorem zio {rows : List Row} (hp : cT rows) {s : Sp} (hs : s ∈ aK 2 rows) : (1 <= s.a /\ s.a <= 1114111) /\ 0 <= s.b /\ s.b <= 1114111 := by
 have hg := (mT 2 rows).2 s hs;obtain ⟨x, h1, h2, h3, h4, _⟩ := jR (mV hs (r := s.fr) ⟨qe _, hg.2.1⟩);have := hp x h1 h2;simp only at h3 h4;omega
def kT (rows : List Row) (r : Int) : Prop := aJ rows r ≠ (0, 0) /\ dQ rows r = false
structure MadeOK (rows : List Row) (D : Int -> Prop) (made : List ((Int × Int) × Int)) (sec : List (Int × Bool)) : Prop where
 m1 : ∀ p r, bU p made = some r -> D r /\ kT rows r /\ aJ rows r = p /\ ∀ r', D r' -> kT rows r' -> aJ rows r' = p -> r <= r'
 m2 : ∀ p, bU p made = none -> ∀ r', D r' -> kT rows r' -> aJ rows r' ≠ p
 s1 : ∀ b v, bU b sec = some v -> v = true /\ ∃ r, D r /\ kT rows r /\ (aJ rows r).2 = b
 s2 : ∀ b, bU b sec = none -> ∀ r', D r' -> kT rows r' -> (aJ rows r').2 ≠ b
theorem MadeOK.nil (rows : List Row) : MadeOK rows (fun _ => False) [] [] := ⟨fun p r h => (by cases h), fun p _ r' h => h.elim, fun b v h => (by cases h), fun b _ r' h => h.elim⟩
theorem MadeOK.same {rows : List Row} {D D' : Int -> Prop} {made : List ((Int × Int) × Int)} {sec : List (Int × Bool)} (h : MadeOK rows D made sec) (hd : ∀ r, kT rows r -> (D r ↔ D' r)) : MadeOK rows D' made sec :=
 ⟨fun p r hr => by
  obtain ⟨h1, h2, h3, h4⟩ := h.m1 p r hr;exact ⟨(hd r h2).1 h1, h2, h3, fun r' q1 q2 q3 => h4 r' ((hd r' q2).2 q1) q2 q3⟩,
 fun p hr r' q1 q2 => h.m2 p hr r' ((hd r' q2).2 q1) q2,
 fun b v hb => by
  obtain ⟨h1, r, h2, h3, h4⟩ := h.s1 b v hb;exact ⟨h1, r, (hd r h3).1 h2, h3, h4⟩,
 fun b hb r' q1 q2 => h.s2 b hb r' ((hd r' q2).2 q1) q2⟩
theorem MadeOK.known {rows : List Row} {D : Int -> Prop} {made : List ((Int × Int) × Int)} {sec : List (Int × Bool)} (h : MadeOK rows D made sec) {x r0 : Int} (hx : ∀ r, D r -> r < x) (hk : bU (aJ rows x) made = some r0) : MadeOK rows (fun r => D r ∨ r = x) made sec := by
 obtain ⟨k1, k2, k3, k4⟩ := h.m1 _ _ hk;refine ⟨fun p r hr => ?_, fun p hr r' q1 q2 => ?_, fun b v hb => ?_, fun b hb r' q1 q2 => ?_⟩
 ·obtain ⟨h1, h2, h3, h4⟩ := h.m1 p r hr;refine ⟨.inl h1, h2, h3, fun r' q1 q2 q3 => ?_⟩;rcases q1 with q1 | rfl
  ·exact h4 r' q1 q2 q3
  ·exact qax (hx r h1)
 ·rcases q1 with q1 | rfl
  ·exact h.m2 p hr r' q1 q2
  ·intro e; rw [<- e, hk] at hr; cases hr
 ·obtain ⟨h1, r, h2, h3, h4⟩ := h.s1 b v hb;exact ⟨h1, r, .inl h2, h3, h4⟩
 ·rcases q1 with q1 | rfl
  ·exact h.s2 b hb r' q1 q2
  ·intro e;exact h.s2 b hb r0 k1 k2 (by rw [k3, e])
theorem MadeOK.out {rows : List Row} {D : Int -> Prop} {made : List ((Int × Int) × Int)} {sec : List (Int × Bool)} (h : MadeOK rows D made sec) {x : Int} (ho : dQ rows x = true) : MadeOK rows (fun r => D r ∨ r = x) made sec :=
 h.same fun r hr => ⟨.inl, fun hd => hd.elim id fun e => by subst e; have := hr.2; rw [ho] at this; cases this⟩
theorem MadeOK.put {rows : List Row} {D : Int -> Prop} {made : List ((Int × Int) × Int)} {sec : List (Int × Bool)} (h : MadeOK rows D made sec) {x : Int} (hx : ∀ r, D r -> r < x) (hn : bU (aJ rows x) made = none) (hg : kT rows x) :
 MadeOK rows (fun r => D r ∨ r = x) (cC (aJ rows x) x made) (cC (aJ rows x).2 true sec) := by
 refine ⟨fun p r hr => ?_, fun p hr r' q1 q2 => ?_, fun b v hb => ?_, fun b hb r' q1 q2 => ?_⟩
 ·rw [mR] at hr;split at hr
  ·rename_i hp; cases hr; subst hp;refine ⟨.inr rfl, hg, rfl, fun r' q1 q2 q3 => ?_⟩;rcases q1 with q1 | rfl
   ·exact absurd q3 (h.m2 _ hn r' q1 q2)
   ·exact qe _
  ·rename_i hp;obtain ⟨h1, h2, h3, h4⟩ := h.m1 p r hr;refine ⟨.inl h1, h2, h3, fun r' q1 q2 q3 => ?_⟩;rcases q1 with q1 | rfl
   ·exact h4 r' q1 q2 q3
   ·exact qax (hx r h1)
 ·rw [mR] at hr;split at hr
  ·cases hr
  ·rename_i hp;rcases q1 with q1 | rfl
   ·exact h.m2 p hr r' q1 q2
   ·exact fun e => hp e.symm
 ·rw [mR] at hb;split at hb
  ·rename_i hp; cases hb; exact ⟨rfl, x, .inr rfl, hg, hp.symm⟩
  ·obtain ⟨h1, r, h2, h3, h4⟩ := h.s1 b v hb;exact ⟨h1, r, .inl h2, h3, h4⟩
 ·rw [mR] at hb;split at hb
  ·cases hb
  ·rename_i hp;rcases q1 with q1 | rfl
   ·exact h.s2 b hb r' q1 q2
   ·exact fun e => hp e.symm
end Go.Eng.Rows
namespace Go.Eng
open Go Go.Proofs Go.Eng.Rows Go.Eng.Trie
structure Tri (rows : List Row) (tc tg tj tf tp : PV) : Prop where
 c : TrieI 1114112 (aD rows 1) tc
 g : TrieI 1114112 (aD rows 4) tg
 j : TrieI 1114112 (aD rows 6) tj
 f : TrieF 1114112 (dK rows) tf
 p : TrieP 1114112 (aJ rows) tp
theorem TrieI.ptr {sz : Int} {F : Int -> Int} {v : PV} (h : TrieI sz F v) : ∃ ps, v = .ptr ps := by
 obtain ⟨n, f, n2, f2, idx, blk, rfl, _⟩ := h; exact ⟨_, rfl⟩
theorem TrieF.ptr {sz : Int} {F : Int -> Fl} {v : PV} (h : TrieF sz F v) : ∃ ps, v = .ptr ps := by
 obtain ⟨n, f, n2, f2, idx, blk, rfl, _⟩ := h; exact ⟨_, rfl⟩
theorem TrieP.ptr {sz : Int} {F : Int -> Int × Int} {v : PV} (h : TrieP sz F v) : ∃ ps, v = .ptr ps := by
 obtain ⟨n, f, n2, f2, idx, blk, rfl, _⟩ := h; exact ⟨_, rfl⟩
theorem zap {rows : List Row} {k r : Int} (h : ¬ (0 <= r /\ r < 1114112)) : bY rows k r = none := by
 unfold bY; rw [if_neg (by omega)]
theorem zaq (rows : List Row) (k r : Int) : (if 0 <= r /\ r < 1114112 then aD rows k r else 0) = aD rows k r := by
 split
 ·rfl
 ·rename_i h; unfold aD; rw [zap h]
theorem ziq (rows : List Row) (r : Int) : (if 0 <= r /\ r < 1114112 then aJ rows r else (0, 0)) = aJ rows r := by
 split
 ·rfl
 ·rename_i h; unfold aJ; rw [zap h]
theorem zir (rows : List Row) (r : Int) : (if 0 <= r /\ r < 1114112 then dK rows r else (false, false, false, false)) = dK rows r := by
 split
 ·rfl
 ·rename_i h; unfold dK bP; simp only [zap h]
section
variable {rows : List Row} {tc tg tj tf tp : PV} (M S : List (PV × PV))
theorem uI (ht : Tri rows tc tg tj tf tp) {r : Int} (hr : -2147483648 <= r /\ r <= 2147483647) : PCall qa 71 [.ptr [tc, tg, tj, tf, tp, .mp M, .mp S], .int .i32 r] fun v => v = .int .i64 (aD rows 1 r) := by
 refine zpn _ _ _ _ _ _ _ _ ?_;unfold zf6;obtain ⟨ps, rfl⟩ := ht.c.ptr;refine .inl ⟨ps, rfl, ?_⟩;have hw : i64.wrap r = r := aF (by omega) (by omega);rw [hw];refine (zV ht.c r (by omega)).mono ?_;rintro _ rfl;exact ⟨_, rfl, by rw [zaq]⟩
theorem zar (ht : Tri rows tc tg tj tf tp) {r : Int} (hr : -2147483648 <= r /\ r <= 2147483647) : PCall qa 69 [.ptr [tc, tg, tj, tf, tp, .mp M, .mp S], .int .i32 r] fun v =>
 v = .tup [.int .i32 (aJ rows r).1, .int .i32 (aJ rows r).2, .bool (!decide (aJ rows r = (0, 0)))] := by
 refine zpo _ _ _ _ _ _ _ _ ?_;unfold zf7;obtain ⟨ps, rfl⟩ := ht.p.ptr;refine .inl ⟨ps, rfl, ?_⟩;have hw : i64.wrap r = r := aF (by omega) (by omega);rw [hw];refine (p84 ht.p r (by omega)).mono ?_;rintro _ rfl;rw [ziq];refine ⟨_, rfl, rfl, _, rfl, _, rfl, ?_⟩;generalize aJ rows r = p;obtain ⟨a, b⟩ := p;simp only [cond_false, qba];congr 4;by_cases h1 : a = 0 <;> by_cases h2 : b = 0 <;> simp [h1, h2]
theorem zsm (hp : cT rows) (ht : Tri rows tc tg tj tf tp) {r : Int} (hr : -2147483648 <= r /\ r <= 2147483647) : PCall qa 44 [.ptr [tc, tg, tj, tf, tp, .mp M, .mp S], .int .i32 r] fun v => v = .bool (dQ rows r) := by
 refine zpp _ _ _ _ _ _ _ _ ?_;unfold zf8;refine (zar M S ht hr).mono ?_;rintro _ rfl;have hrng := oV hp r;have hf : bP rows 3 r = (dK rows r).2.2.2 := rfl;refine ⟨_, rfl, rfl, _, rfl, _, rfl, _, rfl, _, rfl, _, rfl, _, rfl, ?_⟩;have hw : i64.wrap r = r := aF (by omega) (by omega);rw [hw];refine aC (fun h1 => aC (fun h2 => ?_) (fun h2 => ?_)) (fun h1 => ?_)
 ·simp only [qp, c6] at h1;simp only [beq_iff_eq] at h2;unfold dQ; simp [h1, h2]
 ·simp only [qp, c6] at h1;simp only [beq_iff_eq] at h2;obtain ⟨ps, hps⟩ := ht.f.ptr;refine .inl ⟨ps, by rw [hps], ?_⟩;rw [<- hps];refine (zhx ht.f r (by omega)).mono ?_;rintro _ rfl;rw [zir];refine ⟨_, rfl, rfl, _, rfl, _, rfl, _, rfl, _, rfl, ?_⟩;refine aC (fun h3 => ?_) (fun h3 => ?_)
  ·rw [<- hf] at h3;unfold dQ; simp [h1, h2, h3]
  ·rw [<- hf] at h3;refine (uI M S ht hr).mono ?_;rintro _ rfl;refine ⟨_, rfl, ?_⟩;refine aC (fun h4 => ?_) (fun h4 => ?_)
   ·simp only [bne_iff_ne, ne_eq] at h4;unfold dQ; simp [h1, h2, h4]
   ·simp only [bne_iff_ne, ne_eq, qk] at h4;refine (uI M S ht (by omega)).mono ?_;rintro _ rfl;refine ⟨_, rfl, ?_⟩;unfold dQ;simp only [qat] at h3;simp only [h1, h2, h3, h4, decide_false, Bool.not_false, Bool.true_and, qce, decide_true, qcf];rfl
 ·simp only [qp, c6, qk] at h1;unfold dQ; simp [h1]
end
abbrev d6 (M : List ((Int × Int) × Int)) : List (PV × PV) := cH (fun p => .agg (encP p)) (fun n => .int .i32 n) M
abbrev i6 (S : List (Int × Bool)) : List (PV × PV) := cH (fun n => .int .i32 n) (fun b => .bool b) S
def uJ (made : List ((Int × Int) × Int)) (p : Int × Int) : PV := match bU p made with
 | some r => .tup [.int .i32 r, .bool true]
 | none => .tup [.int .i32 0, .bool false]
theorem uK (p : Int × Int) : a8 qa 81 (.agg (encP p)) = true := zal p
theorem uL (made : List ((Int × Int) × Int)) : cO qa 81 (d6 made) := by
 unfold d6; exact EP.valsOk zaj zak made
theorem zas (made : List ((Int × Int) × Int)) (p : Int × Int) : bW (.agg (encP p)) (d6 made) = (bU p made).map fun n => .int .i32 n := mQ (ek := fun p => PV.agg (encP p)) (ev := fun n => PV.int .i32 n) EP.valEq p made
theorem zsn (tc tg tj tf tp : PV) (S : List (PV × PV)) (made : List ((Int × Int) × Int)) (a b : Int) : PCall qa 107 [.ptr [tc, tg, tj, tf, tp, .mp (d6 made), .mp S], .int .i32 a, .int .i32 b] fun v =>
 v = if b = 0 then .tup [.int .i32 0, .bool false] else uJ made (a, b) := by
 refine zpq _ _ _ _ _ _ _ _ _ ?_;unfold zf9;refine aC (fun h => ?_) (fun h => ?_)
 ·simp only [beq_iff_eq] at h; rw [if_pos h]
 ·simp only [beq_iff_eq] at h; rw [if_neg h];have hg := zas made (a, b);refine .inl ⟨_, rfl, uL made, uK (a, b), fun v hv => ?_, fun hv => ?_⟩
  ·have hv : bW (.agg (encP (a, b))) (d6 made) = some v := hv;rw [hg] at hv;unfold uJ;cases h : bU (a, b) made with
   | none => rw [h] at hv; cases hv
   | some r => rw [h] at hv; cases hv; exact ⟨r, rfl, rfl⟩
  ·have hv : bW (.agg (encP (a, b))) (d6 made) = none := hv;rw [hg] at hv;unfold uJ;cases h : bU (a, b) made with
   | none => rfl
   | some r => rw [h] at hv; cases hv
def d7 (rows : List Row) (v : PV) : Prop := ∃ tc tg tj tf tp made sec, v = .ptr [tc, tg, tj, tf, tp, .mp (d6 made), .mp (i6 sec)] /\ Tri rows tc tg tj tf tp /\ MadeOK rows (fun r => 0 <= r /\ r <= 1114111) made sec
def toP (s : Sp) : Pc (Int × Int) := ⟨s.fr, s.to, (s.a, s.b)⟩
theorem rG {v : PV} (h : ∃ ps, v = .ptr ps) : fG v = true := by obtain ⟨ps, rfl⟩ := h; rfl
def m7 (l : List Sp) (r : Int) : Prop := ∃ s ∈ l, s.has r
theorem zso (n f : Bool) (rows : List Row) (hl : rows.length < 1000000) (hp : cT rows) : PCall qa 10 [.sl n f (bB rows)] (d7 rows) := by
 have hg := mT 2 rows;have hlen := hg.len
 refine zpr _ _ _
  (fun _ _ s5 _ _ s28 x29 i h0 h1 h2 h3 _ s m2 m3 => s5 = aM (aK 2 rows) /\ s28 = aM (aK 2 rows) /\ x29 = (aK 2 rows).length /\ 0 <= i /\ i <= x29 /\ TrieI 1114112 (aD rows 1) h0 /\ TrieI 1114112 (aD rows 4) h1 /\ TrieI 1114112 (aD rows 6) h2 /\ TrieF 1114112 (dK rows) h3 /\
   s = kS (((aK 2 rows).take i.toNat).map toP) /\ m2 = [] /\ m3 = []) (fun _ _ _ _ _ _ x29 i _ _ _ _ _ _ _ _ => (x29 - i).toNat)
  (fun _ _ s5 x29 i h0 h1 h2 h3 h4 m2 m3 => s5 = aM (aK 2 rows) /\ x29 = (aK 2 rows).length /\ 0 <= i /\ i <= x29 /\ Tri rows h0 h1 h2 h3 h4 /\ ∃ made sec, m2 = d6 made /\ m3 = i6 sec /\ MadeOK rows (m7 ((aK 2 rows).take i.toNat)) made sec) (fun _ _ _ x29 i _ _ _ _ _ _ _ => (x29 - i).toNat)
  (fun _ _ _ _ _ i _ _ _ _ _ _ _ _ _ _ _ r _ _ s5 x29 i' h0 h1 h2 h3 h4 a b c d m2 m3 => s5 = aM (aK 2 rows) /\ x29 = (aK 2 rows).length /\ i = i' /\ 0 <= i /\ Tri rows h0 h1 h2 h3 h4 /\ ∃ hi : i.toNat < (aK 2 rows).length, a = (aK 2 rows)[i.toNat].fr /\ b = (aK 2 rows)[i.toNat].to /\ a <= r /\ r <= b + 1 /\
   ∃ made sec, m2 = d6 made /\ m3 = i6 sec /\ MadeOK rows (fun x => m7 ((aK 2 rows).take i.toNat) x ∨ (a <= x /\ x < r)) made sec) (fun r _ _ _ _ _ _ _ _ _ _ _ b _ _ _ _ => (b + 1 - r).toNat) ?_
 unfold zga;refine (zao _ _ rows 1 hl).mono fun v hv => (zao _ _ rows 4 hl).mono fun v1 hv1 => (zao _ _ rows 6 hl).mono fun v2 hv2 => (zsi _ _ rows hl).mono fun v3 hv3 => ⟨rG hv.ptr, rG hv1.ptr, rG hv2.ptr, rG hv3.ptr, ?_⟩;refine (p29 _ _ rows 2 (by omega)).mono ?_;rintro _ ⟨n1, f1, rfl⟩;refine ⟨_, _, _, rfl, ⟨rfl, rfl, rfl, by rw [fB], qe _, by rw [fB]; omega, hv, hv1, hv2, hv3, rfl, rfl, rfl⟩, ?_⟩;clear hv hv1 hv2 hv3;rintro n5 f5 _ n28 f28 _ _ i v v1 v2 v3 m _ _ _ ⟨rfl, rfl, rfl, i0, i1, hv, hv1, hv2, hv3, rfl, rfl, rfl⟩;have hw : i64.wrap (i + 1) = i + 1 := aF (by omega) (by omega);refine aC (fun hc => ?_) (fun hc => ?_)
 ·simp only [aB] at hc;have hi : i.toNat < (aK 2 rows).length := by omega
  have hn : (i + 1).toNat = i.toNat + 1 := by omega
  have hgd : (aM (aK 2 rows)).getD i.toNat [] = dJ (aK 2 rows)[i.toNat] := cG hi;have hix : aI (aM (aK 2 rows)) i 4 := bT iK i0 (by omega);have hsr := zio hp (qq hi);refine ⟨hix, (aK 2 rows)[i.toNat].fr, by rw [hgd]; rfl, (aK 2 rows)[i.toNat].to, by rw [hgd]; rfl, (aK 2 rows)[i.toNat].a, by rw [hgd]; rfl, (aK 2 rows)[i.toNat].b, by rw [hgd]; rfl, ⟨fun e he => by simp at he; subst he; rfl, by simp [kS]; omega⟩, rfl, ?_⟩;have w1 : i32.wrap (aK 2 rows)[i.toNat].a = (aK 2 rows)[i.toNat].a := cS (by omega) (by omega);have w2 : i32.wrap (aK 2 rows)[i.toNat].b = (aK 2 rows)[i.toNat].b := cS (by omega) (by omega);rw [hw, w1, w2];refine ⟨⟨rfl, rfl, rfl, by omega, by omega, hv, hv1, hv2, hv3, ?_, rfl, rfl⟩, by dsimp only; omega⟩;rw [hn, cZ hi, qaf];unfold kS;rw [qaf];rfl
 ·simp only [aB] at hc;rw [qd (by omega)];refine (p83 1114112 (0, 0) _ _ ((aK 2 rows).map toP) (by simp; omega) (fun p hp' => ?_) (by omega) (by omega)).mono fun v4 hv4 => ?_
  ·obtain ⟨s, hs, rfl⟩ := List.mem_map.1 hp';have := hg.2 s hs;simp only [toP]; omega
  have hv4 : TrieP 1114112 (aJ rows) v4 := hv4.congr fun i h0 h1 => zq1 rows i;refine ⟨rG hv4.ptr, ⟨rfl, rfl, by rw [fB], qe _, by rw [fB]; omega, ⟨hv, hv1, hv2, hv3, hv4⟩, [], [], rfl, rfl, (MadeOK.nil rows).same fun r hr => ⟨False.elim, fun ⟨s, hs, _⟩ => by cases hs⟩⟩, ?_⟩;clear hv hv1 hv2 hv3 hv4 hw hc i0 i1;rintro n5 f5 _ _ i v v1 v2 v3 v4 _ _ ⟨rfl, rfl, i0, i1, htri, made, sec, rfl, rfl, hm⟩;have hw : i64.wrap (i + 1) = i + 1 := aF (by omega) (by omega);refine aC (fun hc => ?_) (fun hc => ?_)
  ·simp only [aB] at hc;have hi : i.toNat < (aK 2 rows).length := by omega
   have hn : (i + 1).toNat = i.toNat + 1 := by omega
   have hgd : (aM (aK 2 rows)).getD i.toNat [] = dJ (aK 2 rows)[i.toNat] := cG hi;have hix : aI (aM (aK 2 rows)) i 4 := bT iK i0 (by omega);have hsr := hg.2 _ (qq hi);have hts : (aK 2 rows).take (i.toNat + 1) = (aK 2 rows).take i.toNat ++ [(aK 2 rows)[i.toNat]] := cZ hi
   have hlt : ∀ x, m7 ((aK 2 rows).take i.toNat) x -> x < (aK 2 rows)[i.toNat].fr := fun x ⟨s, hs, hx⟩ => by
    obtain ⟨j, hj, rfl⟩ := qbe hs;rw [qi] at hj;rw [qbw] at hx;have := (List.pairwise_iff_getElem.1 hg.1) j i.toNat (by omega) hi (by omega);unfold Sp.has at hx;omega
   have w1 : i32.wrap (aK 2 rows)[i.toNat].fr = (aK 2 rows)[i.toNat].fr := cS (by omega) (by omega);refine ⟨hix, (aK 2 rows)[i.toNat].fr, by rw [hgd]; rfl, (aK 2 rows)[i.toNat].to, by rw [hgd]; rfl, (aK 2 rows)[i.toNat].a, by rw [hgd]; rfl, (aK 2 rows)[i.toNat].b, by rw [hgd]; rfl, ?_⟩;rw [w1];refine ⟨⟨rfl, rfl, rfl, rfl, i0, htri, hi, rfl, rfl, qe _, by omega, made, sec, rfl, rfl, hm.same fun r hr => ⟨.inl, fun h => h.elim id fun h => by omega⟩⟩, ?_⟩;clear htri hm;rintro r n5 f5 _ _ _ v v1 v2 v3 v4 _ _ c d _ _ ⟨rfl, rfl, rfl, _, htri, _, rfl, rfl, r0, r1, made, sec, rfl, rfl, hm⟩;have hwr : i64.wrap r = r := aF (by omega) (by omega);have hwr1 : i32.wrap (r + 1) = r + 1 := cS (by omega) (by omega);rw [hwr];refine aC (fun hc2 => ?_) (fun hc2 => ?_)
   ·simp only [aB] at hc2;have hhas : (aK 2 rows)[i.toNat].has r := ⟨r0, hc2⟩;have hpr := zsk (qq hi) hhas
    have hpne : aJ rows r ≠ (0, 0) := by
     have := zio hp (qq hi);rw [hpr]; intro e; injection e with e1 e2; omega
    have hmax : ∀ x, (m7 ((aK 2 rows).take i.toNat) x ∨ ((aK 2 rows)[i.toNat].fr <= x /\ x < r)) -> x < r := fun x hx => by
     rcases hx with hx | hx
     ·have := hlt x hx; omega
     ·exact hx.2
    have hD : ∀ x, ((m7 ((aK 2 rows).take i.toNat) x ∨ ((aK 2 rows)[i.toNat].fr <= x /\ x < r)) ∨ x = r) ↔ (m7 ((aK 2 rows).take i.toNat) x ∨ ((aK 2 rows)[i.toNat].fr <= x /\ x < r + 1)) := fun x => by
     constructor
     ·rintro ((h | h) | h)
      ·exact .inl h
      ·exact .inr (by omega)
      ·exact .inr (by omega)
     ·rintro (h | h)
      ·exact .inl (.inl h)
      ·by_cases e : x = r
       ·exact .inr e
       ·exact .inl (.inr (by omega))
    have hmu : ((aK 2 rows)[i.toNat].to + 1 - (r + 1)).toNat < ((aK 2 rows)[i.toNat].to + 1 - r).toNat := by omega
    refine (p84 htri.p r (by omega)).mono ?_;rintro _ rfl;rw [ziq];refine ⟨_, rfl, rfl, _, rfl, _, rfl, uL made, uK (aJ rows r), fun v7 hv7 => ?_, fun hv7 => ?_⟩
    ·have hv7 : bW (.agg (encP (aJ rows r))) (d6 made) = some v7 := hv7;rw [zas] at hv7;cases hk : bU (aJ rows r) made with
     | none => rw [hk] at hv7; cases hv7
     | some q =>
       rw [hk] at hv7; cases hv7;refine ⟨q, rfl, ?_⟩;rw [hwr1];exact ⟨rfl, ⟨rfl, rfl, rfl, i0, htri, hi, rfl, rfl, by omega, by omega, made, sec, rfl, rfl, (hm.known hmax hk).same fun x hx => hD x⟩, hmu⟩
    ·have hv7 : bW (.agg (encP (aJ rows r))) (d6 made) = none := hv7;rw [zas] at hv7;have hk : bU (aJ rows r) made = none := by cases h : bU (aJ rows r) made with | none => rfl | some q => rw [h] at hv7; cases hv7
     refine (zsm _ _ hp htri (by omega)).mono ?_;rintro _ rfl;refine ⟨_, rfl, rfl, ?_⟩;rw [hwr1];refine aC (fun ho => ?_) (fun ho => ?_)
     ·simp only [qp] at ho;have hm' := (hm.put hmax hk ⟨hpne, ho⟩).same fun x hx => hD x;obtain ⟨e1, e2⟩ := zin (.agg (encP (aJ rows r))) (fJ (.agg (encP (aJ rows r))) (.int .i32 0) (d6 made)) (.int .i32 r) (d6 made);obtain ⟨e3, e4⟩ := zin (.int .i32 (aJ rows r).2) (fJ (.int .i32 (aJ rows r).2) (.bool false) (i6 sec)) (.bool true) (i6 sec);have e1 := e1.trans (jM (ek := fun p => PV.agg (encP p)) (ev := fun n => PV.int .i32 n) EP.valEq (aJ rows r) r made);have e3 := e3.trans (jM (ek := fun n => PV.int .i32 n) (ev := fun b => PV.bool b) (qW .i32) (aJ rows r).2 true sec);have b1 : (0 : Int) <= (eL (.agg (encP (aJ rows r))) (d6 made) : Nat) /\ ((eL (.agg (encP (aJ rows r))) (d6 made) : Nat) : Int).toNat < (bK (.agg (encP (aJ rows r))) (fJ (.agg (encP (aJ rows r))) (.int .i32 0) (d6 made)) (d6 made)).length := ⟨by omega, by rw [qam]; exact e2⟩;have b2 : (0 : Int) <= (eL (.int .i32 (aJ rows r).2) (i6 sec) : Nat) /\ ((eL (.int .i32 (aJ rows r).2) (i6 sec) : Nat) : Int).toNat < (bK (.int .i32 (aJ rows r).2) (fJ (.int .i32 (aJ rows r).2) (.bool false) (i6 sec)) (i6 sec)).length := ⟨by omega, by rw [qam]; exact e4⟩;refine ⟨⟨uL made, uK _, b1, mS sec, b2, ?_⟩, uL made, uK _, ⟨b1, mS sec, b2, ?_⟩, b1, mS sec, b2, ?_⟩
      all_goals exact ⟨rfl, ⟨rfl, rfl, rfl, i0, htri, hi, rfl, rfl, by omega, by omega, cC (aJ rows r) r made, cC (aJ rows r).2 true sec, e1, e3, hm'⟩, hmu⟩
     ·simp only [qp, Bool.not_eq_false] at ho;exact ⟨rfl, ⟨rfl, rfl, rfl, i0, htri, hi, rfl, rfl, by omega, by omega, made, sec, rfl, rfl, (hm.out ho).same fun x hx => hD x⟩, hmu⟩
   ·simp only [aB] at hc2;rw [hw];refine ⟨rfl, ⟨rfl, rfl, by omega, by omega, htri, made, sec, rfl, rfl, ?_⟩, by dsimp only; omega⟩;rw [hn, hts];refine hm.same fun x hx => ?_;unfold m7;constructor
    ·rintro (⟨s, hs, h⟩ | h)
     ·exact ⟨s, List.mem_append_left _ hs, h⟩
     ·exact ⟨_, List.mem_append_right _ (List.mem_singleton.2 rfl), by unfold Sp.has; omega⟩
    ·rintro ⟨s, hs, h⟩;rcases List.mem_append.1 hs with hs | hs
     ·exact .inl ⟨s, hs, h⟩
     ·simp only [qbf] at hs; subst hs;unfold Sp.has at h; exact .inr (by omega)
  ·simp only [aB] at hc;rw [qd (by omega)] at hm;refine ⟨v, v1, v2, v3, v4, made, sec, rfl, htri, hm.same fun r hr => ?_⟩;constructor
   ·rintro ⟨s, hs, h⟩;have := hg.2 s hs;unfold Sp.has at h;omega
   ·intro _;exact zsl hr.1
end Go.Eng
namespace Go.Eng.Rows
open Go Go.Eng Go.Eng.Trie
def bO (r : Int) : Bool := decide (44032 <= r) && decide (r <= 55203)
def dX (r : Int) : List Int :=
 if (r - 44032) % 28 = 0 then [4352 + (r - 44032) / 588, 4449 + (r - 44032) / 28 % 21]
 else [4352 + (r - 44032) / 588, 4449 + (r - 44032) / 28 % 21, 4519 + (r - 44032) % 28]
def zsp (r : Int) : Bool := (decide (4449 <= r) && decide (r <= 4469)) || (decide (4520 <= r) && decide (r <= 4546))
def aV (rows : List Row) : Nat -> Int -> List Int
 | 0, r => if bO r then dX r else [r]
 | d + 1, r => if bO r then dX r else if aJ rows r = (0, 0) then [r] else aV rows d (aJ rows r).1 ++ (if (aJ rows r).2 = 0 then [] else aV rows d (aJ rows r).2)
def zsq (rows : List Row) (r : Int) : Bool := rows.any fun x => decide (x.kind = 2) && (decide (x.b = r) && (!decide (r = 0) && !dQ rows x.fr))
def ofQ (rows : List Row) (r : Int) : Int := if dQ rows r then 1 else if zsq rows r || zsp r then 2 else 0
def zis (rows : List Row) (r : Int) : Int := (aV rows 8 r).headD 0
def zat (rows : List Row) (r : Int) : Bool := (decide (aD rows 1 r = 0) && decide (ofQ rows r = 0)) && (decide (aD rows 1 (zis rows r) = 0) && decide (ofQ rows (zis rows r) = 0))
theorem kU {rows : List Row} {d : Nat} {r : Int} (h : bO r = true) : aV rows d r = dX r := by cases d <;> simp [aV, h]
theorem rH {rows : List Row} {d : Nat} {r : Int} (h : bO r = false) (h2 : aJ rows r = (0, 0)) : aV rows d r = [r] := by cases d <;> simp [aV, h, h2]
theorem uM (r : Int) : (dX r).length <= 3 := by unfold dX; split <;> simp
theorem lZ (rows : List Row) : ∀ (d : Nat) (r : Int), (aV rows d r).length <= 3 * 2 ^ d
 | 0, r => by
   unfold aV; split
   ·have := uM r; simp; omega
   ·simp
 | d + 1, r => by
   unfold aV;have h2 : 2 ^ (d + 1) = 2 * 2 ^ d := by rw [Nat.pow_succ]; omega
   have h3 : 1 <= 2 ^ d := qbr;split
   ·have := uM r; omega
   ·split
    ·simp; omega
    ·have e1 := lZ rows d (aJ rows r).1;rw [qb];split
     ·simp; omega
     ·have e2 := lZ rows d (aJ rows r).2; omega
theorem zit {r : Int} (h : bO r = true) : ∀ x ∈ dX r, 0 <= x /\ x <= 1114111 := by
 simp only [bO, qh, aB] at h;intro x hx;unfold dX at hx;split at hx <;> simp only [qap, qbb, or_false] at hx
 ·rcases hx with rfl | rfl <;> omega
 ·rcases hx with rfl | rfl | rfl <;> omega
theorem ziu (r : Int) : dX r ≠ [] := by unfold dX; split <;> simp
theorem ziv (rows : List Row) : ∀ (d : Nat) (r : Int), aV rows d r ≠ []
 | 0, r => by unfold aV; split; exact ziu r; simp
 | d + 1, r => by
   unfold aV;split
   ·exact ziu r
   ·split
    ·simp
    ·intro e; exact ziv rows d _ (List.append_eq_nil_iff.1 e).1
theorem uN {rows : List Row} (hp : cT rows) : ∀ (d : Nat) (r : Int), ∀ x ∈ aV rows d r, x = r ∨ (0 <= x /\ x <= 1114111)
 | 0, r => fun x hx => by
   unfold aV at hx;split at hx
   ·rename_i h; exact .inr (zit h x hx)
   ·simp at hx; exact .inl hx
 | d + 1, r => fun x hx => by
   unfold aV at hx;have hg := oV hp r;split at hx
   ·rename_i h; exact .inr (zit h x hx)
   ·split at hx
    ·simp at hx; exact .inl hx
    ·rcases List.mem_append.1 hx with hx | hx
     ·rcases uN hp d _ x hx with rfl | h
      ·exact .inr hg.1
      ·exact .inr h
     ·split at hx
      ·cases hx
      ·rcases uN hp d _ x hx with rfl | h
       ·exact .inr hg.2
       ·exact .inr h
def dG (rows : List Row) : Prop := ∀ x ∈ rows, x.kind = 2 -> x.fr = x.to /\ (0 <= x.fr /\ x.fr <= 1114111) /\ first rows 2 x.fr = some (x.a, x.b)
end Go.Eng.Rows
namespace Go.Eng
open Go Go.Proofs Go.Eng.Rows Go.Eng.Trie
theorem fQ (a b : List Int) : aA (a ++ b) = aA a ++ aA b := by simp [aA]
theorem dL (a : List Int) : aQ (aA a) 1 := mP (enc := fun n => [PV.int .i32 n]) (fun _ => rfl) a
def R32 (l : List Int) : Prop := ∀ x ∈ l, -2147483648 <= x /\ x <= 2147483647
theorem zsr (x : Int) : ([PV.int .i32 x] : List PV).length = 1 := rfl
theorem fX {l : List Int} {i : Int} (h0 : 0 <= i) (hi : i.toNat < l.length) : aI (aA l) i 1 /\ (aA l).getD i.toNat [] = [.int .i32 l[i.toNat]] :=
 ⟨bT zsr h0 (by omega), cG hi⟩
theorem ziw (r : Int) : PCall qa 131 [.int .i32 r] fun v => v = .bool (bO r) := by
 refine zpc _ ?_; unfold zfs;unfold bO;by_cases h1 : 44032 <= r <;> by_cases h2 : r <= 55203 <;> simp [h1, h2] <;> omega
theorem pIs (r : Int) : PCall qa 99 [.int .i32 r] fun v => v = .bool (bO r) := by
 refine zpe _ ?_; unfold zfu;unfold bO;by_cases h1 : 44032 <= r <;> by_cases h2 : r <= 55203 <;> simp [h1, h2]
theorem zix {r : Int} (h : bO r = true) : (44032 <= r /\ r <= 55203) /\ i32.wrap (r - 44032) = r - 44032 /\ i32.wrap (4352 + i32.wrap ((r - 44032).tdiv 588)) = 4352 + (r - 44032) / 588 /\
 i32.wrap (4449 + (i32.wrap ((r - 44032).tdiv 28)).tmod 21) = 4449 + (r - 44032) / 28 % 21 /\ i32.wrap (4519 + (r - 44032).tmod 28) = 4519 + (r - 44032) % 28 := by
 simp only [bO, qh, aB] at h;have e1 : (r - 44032).tdiv 588 = (r - 44032) / 588 := qx (by omega);have e2 : (r - 44032).tdiv 28 = (r - 44032) / 28 := qx (by omega);have e3 : (r - 44032).tmod 28 = (r - 44032) % 28 := qy (by omega);have w1 : i32.wrap ((r - 44032) / 588) = (r - 44032) / 588 := cS (by omega) (by omega);have w2 : i32.wrap ((r - 44032) / 28) = (r - 44032) / 28 := cS (by omega) (by omega);have e4 : ((r - 44032) / 28).tmod 21 = (r - 44032) / 28 % 21 := qy (by omega);rw [e1, e2, e3, w1, w2, e4];exact ⟨h, cS (by omega) (by omega), cS (by omega) (by omega), cS (by omega) (by omega), cS (by omega) (by omega)⟩
theorem ziy (r : Int) : PCall qa 108 [.int .i32 r] fun v => if bO r then v = .sl false true (aA (dX r)) else v = .sl true true [] := by
 refine zpd _ ?_; unfold zft;refine (ziw r).mono ?_;rintro _ rfl;refine ⟨_, rfl, ?_⟩;cases h : bO r with
 | false => exact bD rfl rfl
 | true =>
   obtain ⟨hr, a1, a2, a3, a4⟩ := zix h;refine bA (by simp) ?_;rw [a1, a2, a3, a4];refine ⟨⟨rfl, by omega⟩, ⟨by omega, by omega⟩, _, rfl, ?_⟩;by_cases hc : (r - 44032) % 28 = 0
   ·refine bD (by simp; omega) ⟨⟨by unfold eU; simp, rfl⟩, ?_⟩;simp [dX, hc, aA]
   ·refine bA (by simp; omega) ⟨⟨by unfold eU; simp, rfl⟩, ?_⟩;simp [dX, hc, aA]
def zau (L : List Int) (r1 : LV) (h' : Hp) : Prop := (∃ nl, r1 = .own 0 /\ h' = [.sl (21, 1) true nl (aA L)]) ∨ (r1 = .pv (.sl false true (aA L)) /\ h' = [])
def FullR (L : List Int) (r1 : LV) (h' : Hp) : Prop := (∃ m nl, r1 = .own 0 /\ h' = [.sl (21, 1) m nl (aA L)]) ∨ (r1 = .pv (.sl false true (aA L)) /\ h' = [])
theorem FullR.mark {f : Nat} {args : List LV} {L : List Int} (h : ACall qa f args [] (FullR L)) : ACall qa f args [] (zau L) := by
 refine ACall.mark 0 [] h ?_;rintro r h' (⟨m, nl, rfl, rfl⟩ | ⟨rfl, rfl⟩)
 ·exact .inl ⟨nl, rfl, rfl⟩
 ·exact .inr ⟨rfl, rfl⟩
theorem zav {r : Int} (hs : bO r = true) : ACall qa 100 [.pv (.int .i32 r)] [] (zau (dX r)) := by
 refine FullR.mark (zfv _ ?_); unfold yT;refine (pIs r).mono ?_;rintro _ rfl;refine ⟨_, rfl, ?_⟩;rw [hs];refine bA (by simp) ?_;obtain ⟨hr, a1, a2, a3, a4⟩ := zix hs;have w0 : i64.wrap r = r := aF (by omega) (by omega);have w1 : i64.wrap (r - 44032) = r - 44032 := aF (by omega) (by omega);have e1 : (r - 44032).tdiv 588 = (r - 44032) / 588 := qx (by omega);have e2 : (r - 44032).tdiv 28 = (r - 44032) / 28 := qx (by omega);have e3 : (r - 44032).tmod 28 = (r - 44032) % 28 := qy (by omega);have w2 : i64.wrap ((r - 44032) / 588) = (r - 44032) / 588 := aF (by omega) (by omega);have w3 : i64.wrap ((r - 44032) / 28) = (r - 44032) / 28 := aF (by omega) (by omega);have e4 : ((r - 44032) / 28).tmod 21 = (r - 44032) / 28 % 21 := qy (by omega);rw [w0, w1, e1, e2, e3, w2, w3, e4];have w4 : i64.wrap (4352 + (r - 44032) / 588) = 4352 + (r - 44032) / 588 := aF (by omega) (by omega);have w5 : i64.wrap (4449 + (r - 44032) / 28 % 21) = 4449 + (r - 44032) / 28 % 21 := aF (by omega) (by omega);have w6 : i64.wrap (4519 + (r - 44032) % 28) = 4519 + (r - 44032) % 28 := aF (by omega) (by omega);rw [w4, w5, w6];have w7 : i32.wrap (4352 + (r - 44032) / 588) = 4352 + (r - 44032) / 588 := cS (by omega) (by omega);have w8 : i32.wrap (4449 + (r - 44032) / 28 % 21) = 4449 + (r - 44032) / 28 % 21 := cS (by omega) (by omega);have w9 : i32.wrap (4519 + (r - 44032) % 28) = 4519 + (r - 44032) % 28 := cS (by omega) (by omega);rw [w7, w8, w9];by_cases hc : (r - 44032) % 28 = 0
 ·refine bA (by simp [hc]) (.inr ⟨by simp [dX, hc, aA], rfl⟩)
 ·refine bD (by simp [hc]) ⟨?_, .inl ⟨false, false, rfl, by simp [dX, hc, aA]⟩⟩;exact ⟨rfl, .inr (by simp), dL [_, _], dL [_], by simp⟩
section
variable {rows : List Row}
theorem pA (n f : Bool) (k r : Int) (hl : rows.length < 1000000) (hr : -9223372036854775808 <= r /\ r <= 9223372036854775807) : PCall qa 140 [.sl n f (bB rows), .int .i64 k, .int .i64 r] fun v => v = .int .i64 (aD rows k r) := by
 refine zpf _ _ _ _ _ ?_; unfold zfw;refine (p33 n f rows k r (by omega)).mono ?_;rintro _ ⟨m, rfl, hm⟩;refine ⟨m, rfl, ?_⟩;rcases hm with ⟨rfl, hn⟩ | ⟨m0, hm, hr2, hf⟩
 ·refine bD (by simp) ?_;unfold aD bY;split
  ·rename_i p hp;split at hp
   ·rename_i hr2; rw [hn hr2.1 hr2.2] at hp; cases hp
   ·cases hp
  ·rfl
 ·refine bA (by simp; omega) ?_;have hg : (bB rows).getD m.toNat [] = mU rows[m.toNat] := cG hm;refine ⟨bT oL m0 (by omega), rows[m.toNat].a, by rw [hg]; rfl, ?_⟩;unfold aD bY;rw [if_pos hr2, hf]
theorem l5 (n f : Bool) (k r : Int) (hl : rows.length < 1000000) (hr : -2147483648 <= r /\ r <= 2147483647) : PCall qa 128 [.sl n f (bB rows), .int .i64 k, .int .i32 r] fun v => v = .int .i64 (aD rows k r) := by
 refine zpg _ _ _ _ _ ?_; unfold zfx;have hw : i64.wrap r = r := aF (by omega) (by omega);rw [hw];refine (pA n f k r hl (by omega)).mono ?_;rintro _ rfl;exact ⟨_, rfl, rfl⟩
theorem uO (n f : Bool) (r : Int) (hl : rows.length < 1000000) (hr : -2147483648 <= r /\ r <= 2147483647) : PCall qa 96 [.sl n f (bB rows), .int .i32 r] fun v => v = .int .i64 (aD rows 1 r) := by
 refine zpi _ _ _ _ ?_; unfold zfz;refine (l5 n f 1 r hl hr).mono ?_;rintro _ rfl;exact ⟨_, rfl, rfl⟩
theorem uP (hp : cT rows) (n f : Bool) (r : Int) (hl : rows.length < 1000000) (hr : -2147483648 <= r /\ r <= 2147483647) : PCall qa 101 [.sl n f (bB rows), .int .i32 r] fun v =>
 v = .tup [.int .i32 (aJ rows r).1, .int .i32 (aJ rows r).2, .bool (!decide (aJ rows r = (0, 0)))] := by
 refine zph _ _ _ _ ?_; unfold zfy;have hw : i64.wrap r = r := aF (by omega) (by omega);rw [hw];refine (p33 n f rows 2 r (by omega)).mono ?_;rintro _ ⟨m, rfl, hm⟩;refine ⟨m, rfl, ?_⟩;rcases hm with ⟨rfl, hn⟩ | ⟨m0, hm, hr2, hf⟩
 ·refine bD (by simp) ?_
  have : aJ rows r = (0, 0) := by
   unfold aJ bY;split
   ·rename_i p hp;split at hp
    ·rename_i hr2; rw [hn hr2.1 hr2.2] at hp; cases hp
    ·cases hp
   ·rfl
  rw [this]; rfl
 ·refine bA (by simp; omega) ?_;have hg : (bB rows).getD m.toNat [] = mU rows[m.toNat] := cG hm;have hfg : bY rows 2 r = some (rows[m.toNat].a, rows[m.toNat].b) := by unfold bY; rw [if_pos hr2]; exact hf
  have hne := zsj hp hfg;have hpg : aJ rows r = (rows[m.toNat].a, rows[m.toNat].b) := by unfold aJ; rw [hfg]
  have hrng := oV hp r;obtain ⟨y, hy, hk, ha, hb2, _⟩ := jR hfg;have hya := hp y hy hk;rw [hpg] at hrng hne ⊢;simp only at hrng ha hb2;have w1 : i32.wrap rows[m.toNat].a = rows[m.toNat].a := cS (by omega) (by omega);have w2 : i32.wrap rows[m.toNat].b = rows[m.toNat].b := cS (by omega) (by omega);have hix : aI (bB rows) m 5 := bT oL m0 (by omega);refine ⟨hix, rows[m.toNat].a, by rw [hg]; rfl, ?_⟩;refine bA (by simp; omega) ⟨hix, rows[m.toNat].a, by rw [hg]; rfl, hix, rows[m.toNat].b, by rw [hg]; rfl, ?_⟩;rw [w1, w2];simp [hne]
end
section
variable {rows : List Row}
theorem zss (hp : cT rows) (n f : Bool) (hl : rows.length < 1000000) : ∀ (d : Nat) (r : Int), d <= 8 -> (-2147483648 <= r /\ r <= 2147483647) ->
 ACall qa 77 [.pv (.sl n f (bB rows)), .pv (.int .i32 r), .pv (.int .i64 d)] [] (zau (aV rows d r)) := by
 intro d
 induction d with
 | zero =>
   intro r hd hr;refine FullR.mark (zf0 _ _ _ _ _ ?_); unfold yU;refine (pIs r).mono ?_;rintro _ rfl;refine ⟨_, rfl, ?_⟩;refine aC (fun hs => ?_) (fun hs => ?_)
   ·rw [kU hs];refine (zav hs).mono ?_;rintro r1 h' (⟨nl, rfl, rfl⟩ | ⟨rfl, rfl⟩)
    ·exact .inl ⟨(nl, _), ⟨rfl, rfl⟩, trivial, .inl ⟨true, nl, rfl, rfl⟩⟩
    ·exact .inr ⟨_, ⟨rfl, rfl⟩, trivial, .inr ⟨rfl, rfl⟩⟩
   ·simp only [qat] at hs;refine (uP hp n f r hl hr).mono ?_;rintro _ rfl;refine ⟨_, rfl, rfl, _, rfl, _, rfl, _, rfl, _, rfl, _, rfl, _, rfl, ?_⟩;refine bD (by simp) (.inr ⟨?_, rfl⟩);simp [aV, hs, aA]
 | succ d ih =>
   intro r hd hr;have hg := oV hp r;have hw : i64.wrap (((d + 1 : Nat) : Int) - 1) = (d : Int) := by rw [show (((d + 1 : Nat) : Int) - 1) = (d : Int) by omega]; exact aF (by omega) (by omega)
   refine FullR.mark (zf0 _ _ _ _ _ ?_); unfold yU;rw [hw];refine (pIs r).mono ?_;rintro _ rfl;refine ⟨_, rfl, ?_⟩;refine aC (fun hs => ?_) (fun hs => ?_)
   ·rw [kU hs];refine (zav hs).mono ?_;rintro r1 h' (⟨nl, rfl, rfl⟩ | ⟨rfl, rfl⟩)
    ·exact .inl ⟨(nl, _), ⟨rfl, rfl⟩, trivial, .inl ⟨true, nl, rfl, rfl⟩⟩
    ·exact .inr ⟨_, ⟨rfl, rfl⟩, trivial, .inr ⟨rfl, rfl⟩⟩
   ·simp only [qat] at hs;refine (uP hp n f r hl hr).mono ?_;rintro _ rfl;refine ⟨_, rfl, rfl, _, rfl, _, rfl, _, rfl, _, rfl, _, rfl, _, rfl, ?_⟩;by_cases h0 : aJ rows r = (0, 0)
    ·refine bD (by simp [h0]) (.inr ⟨?_, rfl⟩);rw [rH hs h0]; rfl
    ·refine bA (by simp [h0]; omega) ?_;have hpow : 2 ^ d <= 2 ^ 8 := Nat.pow_le_pow_right (by omega) (by omega);have ea := lZ rows d (aJ rows r).1;have eb := lZ rows d (aJ rows r).2;have na := ziv rows d (aJ rows r).2
     have heq : aV rows (d + 1) r = aV rows d (aJ rows r).1 ++ (if (aJ rows r).2 = 0 then [] else aV rows d (aJ rows r).2) := by
      rw [aV]; simp [hs, h0]
     rw [heq];refine (ih (aJ rows r).1 (by omega) (by omega)).mono ?_
     have second : ∀ (K : LV -> Hp -> Prop), (aJ rows r).2 ≠ 0 -> (∀ nl, K (.own 0) [.sl (21, 1) true nl (aA (aV rows d (aJ rows r).2))]) -> K (.pv (.sl false true (aA (aV rows d (aJ rows r).2)))) [] -> ACall qa 77 [.pv (.sl n f (bB rows)), .pv (.int .i32 (aJ rows r).2), .pv (.int .i64 d)] [] K := fun K _ k1 k2 => by
      refine (ih (aJ rows r).2 (by omega) (by omega)).mono ?_;rintro r1 h' (⟨nl, rfl, rfl⟩ | ⟨rfl, rfl⟩)
      ·exact k1 nl
      ·exact k2
     have sz : ∀ L : List Int, L.length <= 768 -> ((aA (aV rows d (aJ rows r).1)).length + (aA L).length) * 4 <= 140737488355328 := fun L h => by simp only [bG]; omega
     rintro r1 h' (⟨nl, rfl, rfl⟩ | ⟨rfl, rfl⟩)
     ·refine .inl ⟨(nl, _), ⟨rfl, rfl⟩, trivial, aC (fun hb => ?_) (fun hb => ?_)⟩
      ·simp only [bne_iff_ne, ne_eq] at hb;rw [if_neg hb];refine second _ hb (fun nl2 => .inl ⟨(nl2, _), ⟨rfl, rfl⟩, trivial, ⟨dL _, sz _ (by omega)⟩, .inl ⟨true, _, rfl, by rw [fQ]; rfl⟩⟩) (.inr ⟨_, ⟨rfl, rfl⟩, trivial, ⟨dL _, sz _ (by omega)⟩, .inl ⟨true, _, rfl, by rw [fQ]; rfl⟩⟩)
      ·simp only [bne_iff_ne, ne_eq, qk] at hb;rw [if_pos hb, qm];exact .inl ⟨true, nl, rfl, rfl⟩
     ·refine .inr ⟨_, ⟨rfl, rfl⟩, trivial, aC (fun hb => ?_) (fun hb => ?_)⟩
      ·simp only [bne_iff_ne, ne_eq] at hb;rw [if_neg hb];have ap : lF true (aA (aV rows d (aJ rows r).1)) (aA (aV rows d (aJ rows r).2)) 1 4 := ⟨rfl, .inr (by simpa [aA] using na), dL _, dL _, sz _ (by omega)⟩
       refine second _ hb (fun nl2 => .inl ⟨(nl2, _), ⟨rfl, rfl⟩, trivial, ap, .inl ⟨false, _, rfl, by rw [fQ]; rfl⟩⟩) (.inr ⟨_, ⟨rfl, rfl⟩, trivial, ap, .inl ⟨false, _, rfl, by rw [fQ]⟩⟩)
      ·simp only [bne_iff_ne, ne_eq, qk] at hb;rw [if_pos hb, qm];exact .inr ⟨rfl, rfl⟩
end
section
variable {rows : List Row} {tc tg tj tf tp : PV} (M S : List (PV × PV))
def zst (T : PV) (L : List Int) (r1 : LV) (h' : Hp) : Prop := ∃ nl, r1 = .tup [] /\ h' = [.box [.pv T, .own 1], .sl (21, 1) true nl (aA L)]
theorem zsu (hp : cT rows) (ht : Tri rows tc tg tj tf tp) : ∀ (d : Nat) (r : Int) (nl : Bool) (pre : List Int), d <= 8 -> (-2147483648 <= r /\ r <= 2147483647) -> pre.length + 3 * 2 ^ d <= 1000000000 ->
 ACall qa 81 [.box 0 0, .pv (.int .i32 r), .pv (.int .i64 d)] [.box [.pv (.ptr [tc, tg, tj, tf, tp, .mp M, .mp S]), .own 1], .sl (21, 1) false nl (aA pre)] (zst (.ptr [tc, tg, tj, tf, tp, .mp M, .mp S]) (pre ++ aV rows d r)) := by
 intro d
 induction d with
 | zero =>
   intro r nl pre hd hr hb;refine zf1 _ _ _ _ _ _ _ _ _ _ _ ?_; unfold yV;refine (ziy r).mono ?_;intro v hv;by_cases hs : bO r = true
   ·rw [if_pos hs] at hv; subst hv;refine ⟨_, _, _, rfl, bD (by simp) ⟨⟨dL _, ?_⟩, _, rfl, by rw [kU hs, fQ]⟩⟩;have := uM r;simp only [bG]; omega
   ·rw [if_neg hs] at hv; subst hv;simp only [qat] at hs;refine ⟨_, _, _, rfl, bA (by simp) ?_⟩;refine (zar M S ht hr).mono ?_;rintro _ rfl;refine ⟨_, rfl, rfl, _, rfl, _, rfl, _, rfl, _, rfl, _, rfl, _, rfl, bD (by simp) ⟨⟨dL [_], ?_⟩, nl && false, rfl, ?_⟩⟩
    ·simp only [bG]; omega
    ·have : aV rows 0 r = [r] := by simp [aV, hs]
     rw [this, fQ]; rfl
 | succ d ih =>
   intro r nl pre hd hr hb;have hg := oV hp r;have hw : i64.wrap (((d + 1 : Nat) : Int) - 1) = (d : Int) := by rw [show (((d + 1 : Nat) : Int) - 1) = (d : Int) by omega]; exact aF (by omega) (by omega)
   have h2 : 2 ^ (d + 1) = 2 * 2 ^ d := by rw [Nat.pow_succ]; omega
   have h3 : 1 <= 2 ^ d := qbr;refine zf1 _ _ _ _ _ _ _ _ _ _ _ ?_; unfold yV;rw [hw];refine (ziy r).mono ?_;intro v hv;by_cases hs : bO r = true
   ·rw [if_pos hs] at hv; subst hv;refine ⟨_, _, _, rfl, bD (by simp) ⟨⟨dL _, ?_⟩, _, rfl, by rw [kU hs, fQ]⟩⟩;have := uM r;simp only [bG]; omega
   ·rw [if_neg hs] at hv; subst hv;simp only [qat] at hs;refine ⟨_, _, _, rfl, bA (by simp) ?_⟩;refine (zar M S ht hr).mono ?_;rintro _ rfl;refine ⟨_, rfl, rfl, _, rfl, _, rfl, _, rfl, _, rfl, _, rfl, _, rfl, ?_⟩;by_cases h0 : aJ rows r = (0, 0)
    ·refine bD (by simp [h0]) ⟨⟨dL [_], ?_⟩, nl && false, rfl, ?_⟩
     ·simp only [bG]; omega
     ·rw [rH hs h0, fQ]; rfl
    ·refine bA (by simp [h0]; omega) ?_;have ea := lZ rows d (aJ rows r).1
     have heq : aV rows (d + 1) r = aV rows d (aJ rows r).1 ++ (if (aJ rows r).2 = 0 then [] else aV rows d (aJ rows r).2) := by
      rw [aV]; simp [hs, h0]
     rw [heq];refine (ih (aJ rows r).1 nl pre (by omega) (by omega) (by omega)).mono ?_;rintro r1 h' ⟨nl1, rfl, rfl⟩;refine ⟨(nl1, _), ⟨rfl, rfl⟩, ⟨trivial, trivial, trivial⟩, aC (fun hb2 => ?_) (fun hb2 => ?_)⟩
     ·simp only [bne_iff_ne, ne_eq] at hb2;rw [if_neg hb2];refine (ih (aJ rows r).2 nl1 (pre ++ aV rows d (aJ rows r).1) (by omega) (by omega) (by rw [qb]; omega)).mono ?_;rintro r2 h2 ⟨nl2, rfl, rfl⟩;exact ⟨(nl2, _), ⟨rfl, rfl⟩, ⟨trivial, trivial, trivial⟩, nl2, rfl, by rw [<- qg]; rfl⟩
     ·simp only [bne_iff_ne, ne_eq, qk] at hb2;rw [if_pos hb2, qm];exact ⟨nl1, rfl, rfl⟩
end
end Go.Eng
namespace Go.Eng.Srt
open Go Go.Eng
section
variable {α : Type} (key : α -> Int)
def Srtd (l : List α) : Prop := l.Pairwise fun x y => key x <= key y
def Stab (l r : List α) : Prop := l.Perm r /\ ∀ c, l.filter (fun x => decide (key x = c)) = r.filter (fun x => decide (key x = c))
variable {key}
theorem Stab.refl (l : List α) : Stab key l l := ⟨List.Perm.refl _, fun _ => rfl⟩
theorem Stab.trans {a b c : List α} (h : Stab key a b) (k : Stab key b c) : Stab key a c := ⟨h.1.trans k.1, fun x => (h.2 x).trans (k.2 x)⟩
theorem Stab.symm {a b : List α} (h : Stab key a b) : Stab key b a := ⟨h.1.symm, fun x => (h.2 x).symm⟩
theorem Stab.app {a b c d : List α} (h : Stab key a b) (k : Stab key c d) : Stab key (a ++ c) (b ++ d) := ⟨h.1.append k.1, fun x => by rw [qaj, qaj, h.2, k.2]⟩
theorem Stab.len {a b : List α} (h : Stab key a b) : a.length = b.length := h.1.length_eq
theorem Stab.mem {a b : List α} (h : Stab key a b) {x : α} : x ∈ a ↔ x ∈ b := h.1.mem_iff
theorem Stab.rot {a b : List α} (h : ∀ x ∈ a, ∀ y ∈ b, key x ≠ key y) : Stab key (a ++ b) (b ++ a) := by
 refine ⟨List.perm_append_comm, fun c => ?_⟩;rw [qaj, qaj];by_cases hc : ∃ x ∈ a, key x = c
 ·obtain ⟨x, hx, hxc⟩ := hc
  have : b.filter (fun x => decide (key x = c)) = [] := List.filter_eq_nil_iff.2 fun y hy => by
   simp only [aB]; intro e; exact h x hx y hy (hxc.trans e.symm)
  rw [this]; simp
 ·have : a.filter (fun x => decide (key x = c)) = [] := List.filter_eq_nil_iff.2 fun y hy => by
   simp only [aB]; intro e; exact hc ⟨y, hy, e⟩
  rw [this]; simp
theorem Stab.rot1 {u v : List α} {a b : List α} (h : ∀ x ∈ a, ∀ y ∈ b, key x ≠ key y) : Stab key (u ++ (a ++ b) ++ v) (u ++ (b ++ a) ++ v) := ((Stab.refl u).app (.rot h)).app (.refl v)
theorem Stab.uniq : ∀ {l r : List α}, Srtd key l -> Srtd key r -> Stab key l r -> l = r
 | [], r, _, _, h => by have := h.len; cases r with | nil => rfl | cons => simp at this
 | x :: l, [], _, _, h => by have := h.len; simp at this
 | x :: l, y :: r, hl, hr, h => by
   have hk : key x = key y := by
    have h1 : key x <= key y := by
     rcases List.mem_cons.1 (h.mem.2 qac : y ∈ x :: l) with e | e
     ·rw [e]; exact qe _
     ·exact (List.pairwise_cons.1 hl).1 y e
    have h2 : key y <= key x := by
     rcases List.mem_cons.1 (h.mem.1 qac : x ∈ y :: r) with e | e
     ·rw [e]; exact qe _
     ·exact (List.pairwise_cons.1 hr).1 x e
    omega
   have hxy : x = y := by
    have := h.2 (key x);rw [qah, qah, if_pos (by simp), if_pos (by simp [hk])] at this;exact (List.cons.inj this).1
   subst hxy
   have ht : Stab key l r := ⟨(qcd x).1 h.1, fun c => by
    have := h.2 c;rw [qah, qah] at this;split at this
    ·exact (List.cons.inj this).2
    ·exact this⟩
   rw [Stab.uniq (List.pairwise_cons.1 hl).2 (List.pairwise_cons.1 hr).2 ht]
theorem i7 {a b : List α} : Srtd key (a ++ b) ↔ Srtd key a /\ Srtd key b /\ ∀ x ∈ a, ∀ y ∈ b, key x <= key y := List.pairwise_append
end
section
variable {α : Type}
theorem oW (u v : List α) (x : α) : (u ++ x :: v)[u.length]? = some x := by simp
theorem rI (u v : List α) (x y : α) : (u ++ x :: v).set u.length y = u ++ y :: v := by simp
theorem zsv (u v w : List α) (x y : α) : ((u ++ x :: (v ++ y :: w)).set u.length y).set (u.length + 1 + v.length) x = u ++ y :: (v ++ x :: w) := by
 rw [rI];have e : u ++ y :: (v ++ y :: w) = (u ++ y :: v) ++ y :: w := by simp
 have e2 : u.length + 1 + v.length = (u ++ y :: v).length := by simp; omega
 rw [e, e2, rI];simp
theorem ziz (u w : List α) (x y : α) : ((u ++ x :: y :: w).set (u.length + 1) x).set u.length y = u ++ y :: x :: w := by
 have e : u ++ x :: y :: w = (u ++ [x]) ++ y :: w := by simp
 have e2 : u.length + 1 = (u ++ [x]).length := by simp
 rw [e, e2, rI];have e3 : (u ++ [x]) ++ x :: w = u ++ x :: (x :: w) := by simp
 rw [e3, rI]
theorem zsw (u w : List α) (x y : α) : ((u ++ x :: y :: w).set u.length y).set (u.length + 1) x = u ++ y :: x :: w := by
 simp
end
end Go.Eng.Srt
namespace Go.Eng
open Go Go.Proofs Go.Eng.Rows Go.Eng.Srt
def jS (T : PV) (key : Int -> Int) : Prop := ∀ a b : Int, (-2147483648 <= a /\ a <= 2147483647) -> (-2147483648 <= b /\ b <= 2147483647) -> PCall qa 111 [.int .i32 a, .int .i32 b, .ptr [T]] fun v => ∃ n : Int, v = .int .i64 n /\ (n < 0 ↔ key a < key b)
theorem dA {D : List Int} {k : Nat} {v : Int} (h : D[k]? = some v) : (aA D).getD k [] = [.int .i32 v] := by
 simp [aA, qad, h]
theorem zi0 (D : List Int) (k : Nat) (v : Int) : (aA D).set k [.int .i32 v] = aA (D.set k v) := by simp [aA, List.map_set]
theorem l6 {D : List Int} (h : R32 D) {k : Nat} {v : Int} (hv : D[k]? = some v) : -2147483648 <= v /\ v <= 2147483647 := h v (qbl hv)
theorem uQ (D : List Int) {i j : Nat} {x y : Int} (hi : D[i]? = some x) (hj : D[j]? = some y) (hij : i ≠ j) (p q : Int) :
 ((aA D).set i (.int .i32 p :: zq (qc 1 ((aA D).getD i [])))).set j (.int .i32 q :: zq (qc 1 (((aA D).set i (.int .i32 p :: zq (qc 1 ((aA D).getD i [])))).getD j []))) = aA ((D.set i p).set j q) /\
 ((aA D).getD i []).length = 1 /\ ((aA D).getD j []).length = 1 /\ (((aA D).set i (.int .i32 p :: zq (qc 1 ((aA D).getD i [])))).getD j []).length = 1 := by
 rw [dA hi, dA hj];have e1 : (aA D).set i (.int .i32 p :: zq (qc 1 [PV.int .i32 x])) = aA (D.set i p) := zi0 D i p;have hj2 : (D.set i p)[j]? = some y := by rw [List.getElem?_set_ne hij]; exact hj
 rw [e1, dA hj2];exact ⟨zi0 _ _ _, rfl, rfl, rfl⟩
def zsx (key : Int -> Int) (nl : Bool) (T : PV) (P S R : List Int) (r : LV) (h' : Hp) : Prop := ∃ S' : List Int, r = .tup [] /\ h' = [.sl (21, 1) false nl (aA (P ++ S' ++ R)), .box [.pv T]] /\ Srtd key S' /\ Stab key S S'
section
variable {key : Int -> Int} {T : PV}
theorem zi1 (hc : jS T key) (lo hi : Nat) (nl : Bool) (P S R : List Int) (a b : Int) (ha : 0 <= a) (hP : P.length = lo + a.toNat) (hb : b = a + S.length) (hhi : (lo : Int) + b <= hi) (hr : R32 (P ++ S ++ R)) (hlen : hi < 1000000000000) :
 ACall qa 141 [.sub 0 lo hi, .pv (.int .i64 a), .pv (.int .i64 b), .fn 111 [.box 1 0]] [.sl (21, 1) false nl (aA (P ++ S ++ R)), .box [.pv T]] (zsx key nl T P S R) := by
 refine zo7 _ _ _ _ _ _ _
  (fun i s => ∃ A B, s = aA (P ++ (A ++ B) ++ R) /\ Srtd key A /\ Stab key S (A ++ B) /\ (i <= b -> (A.length : Int) = i - a) /\ a < i /\ (b < i -> S = [])) (fun i _ => (b + 1 - i).toNat)
  (fun i _ _ i' j s => i = i' /\ ∃ A x B C, s = aA (P ++ (A ++ x :: (B ++ C)) ++ R) /\ (A.length : Int) = j - a /\ (B.length : Int) = i - j /\ Srtd key (A ++ B) /\ (∀ y ∈ B, key x < key y) /\ Stab key S (A ++ x :: (B ++ C)) /\ a <= j) (fun _ j _ => (j - a).toNat) ?_
 unfold zfn;have hwa : i64.wrap (a + 1) = a + 1 := aF (by omega) (by omega);rw [hwa];refine ⟨⟨rfl, S.take 1, S.drop 1, by rw [qj], ?_, by rw [qj]; exact .refl _, fun h => ?_, by omega, fun h => ?_⟩, ?_⟩
 ·cases S with
  | nil => exact List.Pairwise.nil
  | cons x l => exact qbi _ _
 ·cases S with
  | nil => simp at hb; omega
  | cons x l => simp; omega
 ·cases S with
  | nil => rfl
  | cons x l => simp at hb; omega
 rintro i _ ⟨A, B, rfl, hA, hst, hAB, hi0, hi1⟩;refine aC (fun hc1 => ?_) (fun hc1 => ?_)
 ·simp only [aB] at hc1;have hlAB := hst.len;rw [qb] at hlAB;have hiw : i64.wrap (i + 1) = i + 1 := aF (by omega) (by omega);cases B with
  | nil =>
    have := hAB (by omega);simp at hlAB; omega
  | cons x C =>
    have hAl := hAB (by omega);refine ⟨⟨rfl, rfl, A, x, [], C, rfl, hAl, by simp, by simpa using hA, fun y hy => (by cases hy), hst, by omega⟩, ?_⟩
    clear hst hlAB hA hAl hAB;rintro _ j _ ⟨rfl, A, x, B, C, rfl, hAl, hBl, hAB, hxB, hst, hja⟩
    have hR : R32 (P ++ (A ++ x :: (B ++ C)) ++ R) := fun y hy => hr y (by
     simp only [qak] at hy ⊢;rcases hy with (hy | hy) | hy
     ·exact .inl (.inl hy)
     ·exact .inl (.inr (hst.mem.2 (by simpa using hy)))
     ·exact .inr hy)
    have hlen2 := hst.len;simp only [qb, qr] at hlen2
    have fin : (∀ y ∈ A, key y <= key x) -> ∃ A' B', aA (P ++ (A ++ x :: (B ++ C)) ++ R) = aA (P ++ (A' ++ B') ++ R) /\ Srtd key A' /\ Stab key S (A' ++ B') /\ (i + 1 <= b -> (A'.length : Int) = i + 1 - a) /\ a < i + 1 /\ (b < i + 1 -> S = []) := fun hAx => by
     refine ⟨A ++ x :: B, C, by simp, ?_, by simpa using hst, fun _ => by simp; omega, by omega, fun h => by omega⟩
     obtain ⟨s1, s2, s3⟩ := i7.1 hAB;refine i7.2 ⟨s1, List.pairwise_cons.2 ⟨fun y hy => qax (hxB y hy), s2⟩, fun y hy z hz => ?_⟩;rcases List.mem_cons.1 hz with rfl | hz
     ·exact hAx y hy
     ·exact s3 y hy z hz
    have hmu1 : (b + 1 - (i + 1)).toNat < (b + 1 - i).toNat := by omega
    refine aC (fun hc2 => ?_) (fun hc2 => ?_)
    ·simp only [aB, gt_iff_lt] at hc2;have hwj : i64.wrap (j - 1) = j - 1 := aF (by omega) (by omega);rw [hwj]
     obtain ⟨A0, y, rfl⟩ : ∃ A0 y, A = A0 ++ [y] := by
      rcases List.eq_nil_or_concat A with h | ⟨A0, y, h⟩
      ·subst h; simp at hAl; omega
      ·exact ⟨A0, y, by simpa using h⟩
     simp only [qb, qr, qt] at hAl;have hD : P ++ (A0 ++ [y] ++ x :: (B ++ C)) ++ R = (P ++ A0) ++ y :: x :: (B ++ C ++ R) := by simp
     have hk : lo + (j - 1).toNat = (P ++ A0).length := by simp; omega
     have hk1 : lo + j.toNat = (P ++ A0).length + 1 := by simp; omega
     have gy : (P ++ (A0 ++ [y] ++ x :: (B ++ C)) ++ R)[lo + (j - 1).toNat]? = some y := by rw [hD, hk]; simp
     have gx : (P ++ (A0 ++ [y] ++ x :: (B ++ C)) ++ R)[lo + j.toNat]? = some x := by
      rw [hD, hk1, qn (by omega)]; simp
     obtain ⟨t1, t2, t3, t4⟩ := uQ _ gx gy (by omega) y x
     have hsw : ((P ++ (A0 ++ [y] ++ x :: (B ++ C)) ++ R).set (lo + j.toNat) y).set (lo + (j - 1).toNat) x = P ++ (A0 ++ x :: ((y :: B) ++ C)) ++ R := by
      rw [hD, hk, hk1, ziz]; simp
     rw [hsw] at t1;refine ⟨⟨by omega, by omega, t2⟩, x, by rw [dA gx]; rfl, ⟨by omega, by omega, t3⟩, y, by rw [dA gy]; rfl, ?_⟩;refine (hc x y (l6 hR gx) (l6 hR gy)).mono ?_;rintro _ ⟨n2, rfl, hn2⟩;refine ⟨n2, rfl, rfl, aC (fun hlt => ?_) (fun hlt => ?_)⟩
     ·simp only [aB] at hlt;have hkey := hn2.1 hlt;refine ⟨⟨by omega, by omega, t3⟩, y, by rw [dA gy]; rfl, ⟨by omega, by omega, t2⟩, x, by rw [dA gx]; rfl, ⟨by omega, by omega, t2⟩, ?_⟩;have hsrt : Srtd key (A0 ++ y :: B) := by simpa using hAB
      have hst2 : Stab key S (A0 ++ x :: ((y :: B) ++ C)) := by
       refine hst.trans ?_;have := Stab.rot1 (key := key) (u := A0) (v := B ++ C) (a := [y]) (b := [x]) (fun p hp q hq => by simp at hp hq; subst hp; subst hq; omega);simpa using this
      have hle1 : 1 <= ((aA (P ++ (A0 ++ [y] ++ x :: (B ++ C)) ++ R)).getD (lo + j.toNat) []).length := by rw [t2]; exact ql _
      refine ⟨?_, ?_⟩
      all_goals
       refine ⟨⟨rfl, hle1⟩, ⟨by omega, by omega, t4⟩, ⟨rfl, by rw [t4]; exact ql _⟩, ?_⟩;exact ⟨rfl, ⟨rfl, A0, x, y :: B, C, t1, by omega, by rw [qr]; omega, hsrt, fun z hz => (by rcases List.mem_cons.1 hz with rfl | hz; exact hkey; exact hxB z hz), hst2, by omega⟩, by dsimp only; omega⟩
     ·simp only [aB] at hlt;have hkey : ¬ key x < key y := fun h => hlt (hn2.2 h);rw [hiw];refine ⟨rfl, fin fun z hz => ?_, hmu1⟩;rcases List.mem_append.1 hz with hz | hz
      ·have := (i7.1 (i7.1 hAB).1).2.2 z hz y (by simp);omega
      ·simp only [qbf] at hz; subst hz; omega
    ·simp only [aB, gt_iff_lt] at hc2;have hA0 : A = [] := List.length_eq_zero_iff.1 (by omega);subst hA0;rw [hiw];exact ⟨rfl, fin fun z hz => (by cases hz), hmu1⟩
 ·simp only [aB] at hc1
  have hB : B = [] := by
   by_cases hib : i <= b
   ·have h1 := hAB hib;have h2 := hst.len;rw [qb] at h2;exact List.length_eq_zero_iff.1 (by omega)
   ·have h0 := hi1 (by omega);subst h0;have h2 := hst.len;rw [qb] at h2;exact List.length_eq_zero_iff.1 (by simp at h2; omega)
  subst hB;exact ⟨A, rfl, by simp, hA, by simpa using hst⟩
end
section
variable {T : PV}
theorem zaw (lo hi : Nat) (nl : Bool) (P X Q Y R : List Int) (a b n : Int) (ha : 0 <= a) (hP : P.length = lo + a.toNat) (hX : (X.length : Int) = n) (hY : (Y.length : Int) = n) (hQ : b = a + n + Q.length) (hhi : (lo : Int) + b + n <= hi) (hlen : hi < 1000000000000) :
 ACall qa 145 [.sub 0 lo hi, .pv (.int .i64 a), .pv (.int .i64 b), .pv (.int .i64 n), .fn 111 [.box 1 0]] [.sl (21, 1) false nl (aA (P ++ (X ++ (Q ++ (Y ++ R))))), .box [.pv T]]
  fun r h' => r = .tup [] /\ h' = [.sl (21, 1) false nl (aA (P ++ (Y ++ (Q ++ (X ++ R))))), .box [.pv T]] := by
 refine zo8 _ _ _ _ _ _ _ _
  (fun i s => 0 <= i /\ i <= n /\ s = aA (P ++ (Y.take i.toNat ++ (X.drop i.toNat ++ (Q ++ (X.take i.toNat ++ (Y.drop i.toNat ++ R))))))) (fun i _ => (n - i).toNat) ?_
 unfold zfo;refine ⟨⟨rfl, qe _, by omega, by simp⟩, ?_⟩;rintro i _ ⟨i0, i1, rfl⟩;refine aC (fun hc => ?_) (fun hc => ?_)
 ·simp only [aB] at hc;have hix : i.toNat < X.length := by omega
  have hiy : i.toNat < Y.length := by omega
  have wb : i64.wrap (b + i) = b + i := aF (by omega) (by omega);have wa : i64.wrap (a + i) = a + i := aF (by omega) (by omega);have wi : i64.wrap (i + 1) = i + 1 := aF (by omega) (by omega);have hn : (i + 1).toNat = i.toNat + 1 := by omega
  rw [wb, wa, wi];have lt : (Y.take i.toNat).length = i.toNat := by rw [qi]; omega
  have ltx : (X.take i.toNat).length = i.toNat := by rw [qi]; omega
  have dx : X.drop i.toNat = X[i.toNat] :: X.drop (i.toNat + 1) := qae hix;have dy : Y.drop i.toNat = Y[i.toNat] :: Y.drop (i.toNat + 1) := qae hiy;have tx : X.take (i.toNat + 1) = X.take i.toNat ++ [X[i.toNat]] := cZ hix;have ty : Y.take (i.toNat + 1) = Y.take i.toNat ++ [Y[i.toNat]] := cZ hiy;have ldx : (X.drop (i.toNat + 1)).length = X.length - (i.toNat + 1) := qai;obtain ⟨D, hDe⟩ : ∃ D, D = P ++ (Y.take i.toNat ++ (X.drop i.toNat ++ (Q ++ (X.take i.toNat ++ (Y.drop i.toNat ++ R))))) := ⟨_, rfl⟩;rw [<- hDe];have hD : D = (P ++ Y.take i.toNat) ++ X[i.toNat] :: ((X.drop (i.toNat + 1) ++ Q ++ X.take i.toNat) ++ Y[i.toNat] :: (Y.drop (i.toNat + 1) ++ R)) := by rw [hDe, dx, dy]; simp only [qg, qw, qaa]
  have hka : lo + (a + i).toNat = (P ++ Y.take i.toNat).length := by rw [qb, lt]; omega
  have hkb : lo + (b + i).toNat = (P ++ Y.take i.toNat).length + 1 + (X.drop (i.toNat + 1) ++ Q ++ X.take i.toNat).length := by simp only [qb, lt, ltx, ldx]; omega
  have hsw : (D.set (lo + (a + i).toNat) Y[i.toNat]).set (lo + (b + i).toNat) X[i.toNat] = P ++ (Y.take (i + 1).toNat ++ (X.drop (i + 1).toNat ++ (Q ++ (X.take (i + 1).toNat ++ (Y.drop (i + 1).toNat ++ R))))) := by
   rw [hD, hka, hkb, zsv, hn, tx, ty]; simp only [qg, qw, qaa]
  have gx : D[lo + (a + i).toNat]? = some X[i.toNat] := by rw [hD, hka, oW]
  have gy : D[lo + (b + i).toNat]? = some Y[i.toNat] := by
   have e : ∀ (u v w : List Int) (x y : Int), u ++ x :: (v ++ y :: w) = (u ++ x :: v) ++ y :: w := fun u v w x y => by simp
   have e2 : ∀ (u v : List Int) (x : Int), u.length + 1 + v.length = (u ++ x :: v).length := fun u v x => by simp; omega
   rw [hD, hkb, e, e2 _ _ X[i.toNat], oW]
  obtain ⟨t1, t2, t3, t4⟩ := uQ _ gx gy (by omega) Y[i.toNat] X[i.toNat];rw [hsw] at t1;have hla : 1 <= ((aA D).getD (lo + (a + i).toNat) []).length := by rw [t2]; exact ql _
  refine ⟨⟨by omega, by omega, t3⟩, Y[i.toNat], by rw [dA gy]; rfl, ⟨by omega, by omega, t2⟩, X[i.toNat], by rw [dA gx]; rfl, ⟨by omega, by omega, t2⟩, ?_⟩;refine ⟨?_, ?_⟩
  all_goals exact ⟨⟨rfl, hla⟩, ⟨by omega, by omega, t4⟩, ⟨rfl, by rw [t4]; exact ql _⟩, rfl, ⟨by omega, by omega, t1⟩, by dsimp only; omega⟩
 ·simp only [aB] at hc;have hi : i = n := by omega
  subst hi;rw [qd (by omega), qd (by omega), qar (by omega), qar (by omega)];exact ⟨rfl, by simp⟩
theorem zsy (lo hi : Nat) (nl : Bool) (P X Y R : List Int) (a m b : Int) (ha : 0 <= a) (hP : P.length = lo + a.toNat) (hX : m = a + X.length) (hY : b = m + Y.length) (hx : X ≠ []) (hy : Y ≠ []) (hhi : (lo : Int) + b <= hi) (hlen : hi < 1000000000000) :
 ACall qa 144 [.sub 0 lo hi, .pv (.int .i64 a), .pv (.int .i64 m), .pv (.int .i64 b), .fn 111 [.box 1 0]] [.sl (21, 1) false nl (aA (P ++ (X ++ (Y ++ R)))), .box [.pv T]]
  fun r h' => r = .tup [] /\ h' = [.sl (21, 1) false nl (aA (P ++ (Y ++ (X ++ R)))), .box [.pv T]] := by
 have hxl := List.length_pos_iff.2 hx;have hyl := List.length_pos_iff.2 hy
 refine zo9 _ _ _ _ _ _ _ _
  (fun i j s => 0 < i /\ 0 < j /\ i + j <= b - a /\ ∃ P1 U V R1 : List Int, s = aA (P1 ++ (U ++ (V ++ R1))) /\ P1 ++ (V ++ (U ++ R1)) = P ++ (Y ++ (X ++ R)) /\ (U.length : Int) = i /\ (V.length : Int) = j /\ ((P1.length : Int) + i = lo + m) /\ (lo : Int) + a <= P1.length /\ m + j <= b) (fun i j _ => (i + j).toNat) ?_
 unfold zfp;have w1 : i64.wrap (m - a) = X.length := by rw [aF (by omega) (by omega)]; omega
 have w2 : i64.wrap (b - m) = Y.length := by rw [aF (by omega) (by omega)]; omega
 rw [w1, w2];refine ⟨⟨rfl, by omega, by omega, by omega, P, X, Y, R, rfl, rfl, rfl, rfl, by omega, by omega, by omega⟩, ?_⟩;rintro i j _ ⟨i0, j0, hij, P1, U, V, R1, rfl, he, hU, hV, hP1, hPa, hmj⟩;have wmi : i64.wrap (m - i) = m - i := aF (by omega) (by omega);rw [wmi];have lens : ∀ (s t : List Int), s.length = t.length -> (aA s).length = (aA t).length := fun s t h => by simp [h]
 refine aC (fun hne => ?_) (fun hne => ?_)
 ·simp only [bne_iff_ne, ne_eq] at hne;refine aC (fun hgt => ?_) (fun hgt => ?_)
  ·simp only [aB, gt_iff_lt] at hgt;have w3 : i64.wrap (i - j) = i - j := aF (by omega) (by omega);rw [w3];obtain ⟨U1, U2, rfl, hU1⟩ : ∃ U1 U2, U = U1 ++ U2 /\ (U1.length : Int) = j := ⟨U.take j.toNat, U.drop j.toNat, by rw [qj], by rw [qi]; omega⟩;rw [qb] at hU;have := zaw (T := T) lo hi nl P1 U1 U2 V R1 (m - i) m j (by omega) (by omega) hU1 hV (by omega) (by omega) hlen;rw [show P1 ++ (U1 ++ U2 ++ (V ++ R1)) = P1 ++ (U1 ++ (U2 ++ (V ++ R1))) by simp];refine this.mono ?_;rintro r h' ⟨rfl, rfl⟩;refine ⟨_, ⟨rfl, rfl⟩, ⟨trivial, ⟨rfl, rfl, lens _ _ (by simp only [qb]; omega)⟩, trivial⟩, rfl, ⟨by omega, by omega, by omega, P1 ++ V, U2, U1, R1, by simp, by rw [<- he]; simp, by omega, hU1, by rw [qb]; omega, by rw [qb]; omega, by omega⟩, by dsimp only; omega⟩
  ·simp only [aB, gt_iff_lt] at hgt;have w3 : i64.wrap (j - i) = j - i := aF (by omega) (by omega);have w4 : i64.wrap (m + j) = m + j := aF (by omega) (by omega);have w5 : i64.wrap (m + j - i) = m + j - i := aF (by omega) (by omega);rw [w4, w5, w3];obtain ⟨V1, V2, rfl, hV1⟩ : ∃ V1 V2, V = V1 ++ V2 /\ (V1.length : Int) = j - i := ⟨V.take (j - i).toNat, V.drop (j - i).toNat, by rw [qj], by rw [qi]; omega⟩;rw [qb] at hV;have := zaw (T := T) lo hi nl P1 U V1 V2 R1 (m - i) (m + j - i) i (by omega) (by omega) hU (by omega) (by omega) (by omega) hlen;rw [show P1 ++ (U ++ (V1 ++ V2 ++ R1)) = P1 ++ (U ++ (V1 ++ (V2 ++ R1))) by simp];refine this.mono ?_;rintro r h' ⟨rfl, rfl⟩;refine ⟨_, ⟨rfl, rfl⟩, ⟨trivial, ⟨rfl, rfl, lens _ _ (by simp only [qb]; omega)⟩, trivial⟩, rfl, ⟨by omega, by omega, by omega, P1, V2, V1, U ++ R1, by simp, by rw [<- he]; simp, by omega, hV1, by omega, by omega, by omega⟩, by dsimp only; omega⟩
 ·simp only [bne_iff_ne, ne_eq, qk] at hne;have := zaw (T := T) lo hi nl P1 U [] V R1 (m - i) m i (by omega) (by omega) hU (by omega) (by simp) (by omega) hlen;refine ACall.mono (by simpa using this) ?_
  rintro r h' ⟨rfl, rfl⟩;refine ⟨_, ⟨rfl, rfl⟩, ⟨trivial, ⟨rfl, rfl, lens _ _ (by simp only [qb]; omega)⟩, trivial⟩, rfl, ?_⟩;rw [<- he]
end
end Go.Eng
namespace Go.Eng.Srt
open Go Go.Eng
variable {key : Int -> Int}
theorem Srtd.get {l : List Int} (h : Srtd key l) {i j : Nat} (hij : i <= j) (hj : j < l.length) : key (l.getD i 0) <= key (l.getD j 0) := by
 have hi : i < l.length := by omega
 simp only [qad, qag hi, qag hj, qca];rcases qaw i j with h1 | h1
 ·exact (List.pairwise_iff_getElem.1 h) i j hi hj h1
 ·have : i = j := by omega
  subst this; exact qe _
theorem l7 {l : List Int} {x : Int} (h : x ∈ l) : ∃ i, i < l.length /\ l.getD i 0 = x := by
 obtain ⟨i, hi, rfl⟩ := qbe h;exact ⟨i, hi, by simp [qad, hi]⟩
theorem rJ {l : List Int} {i : Nat} (h : i < l.length) : l[i]? = some (l.getD i 0) := by simp [qad, h]
theorem Srtd.sub {l m : List Int} (h : Srtd key l) (hs : m.Sublist l) : Srtd key m := List.Pairwise.sublist hs h
theorem zi2 {x : Int} {A B : List Int} (hs : Srtd key (A ++ B)) (h1 : ∀ y ∈ A, key y <= key x) (h2 : ∀ y ∈ B, key x <= key y) : Srtd key (A ++ x :: B) := by
 obtain ⟨s1, s2, s3⟩ := i7.1 hs;refine i7.2 ⟨s1, List.pairwise_cons.2 ⟨h2, s2⟩, fun y hy z hz => ?_⟩;rcases List.mem_cons.1 hz with rfl | hz
 ·exact h1 y hy
 ·exact s3 y hy z hz
theorem zsz {X1 X2 Y1 Y2 S1 S2 : List Int} (hX : Srtd key (X1 ++ X2)) (hY : Srtd key (Y1 ++ Y2)) (f1 : ∀ x ∈ X2, ∀ y ∈ Y1, key y < key x) (f2 : ∀ x ∈ X1, ∀ y ∈ Y2, key x <= key y)
 (h1 : Srtd key S1) (k1 : Stab key (X1 ++ Y1) S1) (h2 : Srtd key S2) (k2 : Stab key (X2 ++ Y2) S2) : Srtd key (S1 ++ S2) /\ Stab key ((X1 ++ X2) ++ (Y1 ++ Y2)) (S1 ++ S2) := by
 obtain ⟨_, _, x3⟩ := i7.1 hX;obtain ⟨_, _, y3⟩ := i7.1 hY;refine ⟨i7.2 ⟨h1, h2, fun x hx y hy => ?_⟩, ?_⟩
 ·rcases List.mem_append.1 (k1.mem.2 hx) with hx | hx <;> rcases List.mem_append.1 (k2.mem.2 hy) with hy | hy
  ·exact x3 x hx y hy
  ·exact f2 x hx y hy
  ·exact qax (f1 y hy x hx)
  ·exact y3 x hx y hy
 ·refine Stab.trans ?_ (k1.app k2);have := Stab.rot1 (key := key) (u := X1) (v := Y2) (a := X2) (b := Y1) (fun x hx y hy => by have := f1 x hx y hy; omega);simpa using this
end Go.Eng.Srt
namespace Go.Eng
open Go Go.Proofs Go.Eng.Rows Go.Eng.Srt
def jT (key : Int -> Int) (nl : Bool) (T : PV) (P S R : List Int) (r : LV) (h' : Hp) : Prop := ∃ S' : List Int, r = .tup [] /\ h' = [.sl (21, 1) false nl (aA (P ++ (S' ++ R))), .box [.pv T]] /\ Srtd key S' /\ Stab key S S'
section
variable {key : Int -> Int} {T : PV}
theorem rK {i j : Int} (h0 : 0 <= i) (h1 : i <= j) (h2 : j <= 1000000000000) : i64.wrap ((IntKind.u64.wrap (i64.wrap (i + j))).fdiv (2 ^ 1)) = (i + j) / 2 := zg3 h0 h1 (by omega)
theorem zs0 (hc : jS T key) (lo hi : Nat) (nl : Bool) (P Y R : List Int) (x : Int) (a m b : Int) (ha : 0 <= a) (hP : P.length = lo + a.toNat) (hm : m = a + 1) (hb : b = m + Y.length) (hhi : (lo : Int) + b <= hi) (hr : R32 (P ++ ([x] ++ (Y ++ R)))) (hlen : hi < 1000000000000) (hY : Srtd key Y) :
 ACall qa 142 [.sub 0 lo hi, .pv (.int .i64 a), .pv (.int .i64 m), .pv (.int .i64 b), .fn 111 [.box 1 0]] [.sl (21, 1) false nl (aA (P ++ ([x] ++ (Y ++ R)))), .box [.pv T]] (jT key nl T P ([x] ++ Y) R) := by
 have hat : ∀ h : Int, m <= h -> h < b -> (P ++ ([x] ++ (Y ++ R)))[lo + h.toNat]? = some (Y.getD (h - m).toNat 0) := fun h h1 h2 => by
  have e : P ++ ([x] ++ (Y ++ R)) = (P ++ [x]) ++ (Y ++ R) := by simp
  rw [e, qn (by simp; omega), show lo + h.toNat - (P ++ [x]).length = (h - m).toNat by simp; omega, qan (by omega)];exact rJ (by omega)
 have hax : (P ++ ([x] ++ (Y ++ R)))[lo + a.toNat]? = some x := by rw [<- hP]; exact oW P (Y ++ R) x
 refine yP _ _ _ _ _ _ _ _
  (fun i j s => s = aA (P ++ ([x] ++ (Y ++ R))) /\ m <= i /\ i <= j /\ j <= b /\ (∀ h, m <= h -> h < i -> key (Y.getD (h - m).toNat 0) < key x) /\ (∀ h, j <= h -> h < b -> ¬ key (Y.getD (h - m).toNat 0) < key x)) (fun i j _ => (j - i).toNat)
  (fun i k s => m <= i /\ i <= b /\ (∀ h, m <= h -> h < i -> key (Y.getD (h - m).toNat 0) < key x) /\ (∀ h, i <= h -> h < b -> ¬ key (Y.getD (h - m).toNat 0) < key x) /\ a <= k /\ k <= i - 1 /\ s = aA (P ++ (Y.take (k - a).toNat ++ (x :: (Y.drop (k - a).toNat ++ R))))) (fun i k _ => (i - 1 - k).toNat)
  (fun _ _ _ => True) (fun _ _ _ => 0) (fun _ _ _ => True) (fun _ _ _ => 0) (fun _ _ _ => True) (fun _ _ _ => 0) ?_
 unfold t6;have w1 : i64.wrap (m - a) = 1 := by rw [aF (by omega) (by omega)]; omega
 refine bD (by rw [w1]; rfl) ⟨⟨rfl, rfl, qe _, by omega, qe _, fun h h1 h2 => by omega, fun h h1 h2 => by omega⟩, ?_⟩;rintro i j _ ⟨rfl, i0, hij, hjb, hlt, hge⟩;refine aC (fun hc1 => ?_) (fun hc1 => ?_)
 ·simp only [aB] at hc1;rw [rK (by omega) (by omega) (by omega)];obtain ⟨h, hh⟩ : ∃ h, h = (i + j) / 2 := ⟨_, rfl⟩;rw [<- hh];have b1 : i <= h /\ h < j := by omega
  have gy := hat h (by omega) (by omega);have wh : i64.wrap (h + 1) = h + 1 := aF (by omega) (by omega);rw [wh];refine ⟨⟨by omega, by omega, by rw [dA gy]; rfl⟩, _, by rw [dA gy]; rfl, ⟨by omega, by omega, by rw [dA hax]; rfl⟩, x, by rw [dA hax]; rfl, ?_⟩;refine (hc _ x (l6 hr gy) (l6 hr hax)).mono ?_;rintro _ ⟨n2, rfl, hn2⟩;refine ⟨n2, rfl, rfl, aC (fun hl => ?_) (fun hl => ?_)⟩
  ·simp only [aB] at hl;have hk := hn2.1 hl;refine ⟨rfl, ⟨rfl, by omega, by omega, by omega, fun q q1 q2 => ?_, hge⟩, by dsimp only; omega⟩;have := hY.get (i := (q - m).toNat) (j := (h - m).toNat) (by omega) (by omega);omega
  ·simp only [aB] at hl;have hk : ¬ key (Y.getD (h - m).toNat 0) < key x := fun h => hl (hn2.2 h);refine ⟨rfl, ⟨rfl, by omega, by omega, by omega, hlt, fun q q1 q2 => ?_⟩, by dsimp only; omega⟩;have := hY.get (i := (h - m).toNat) (j := (q - m).toNat) (by omega) (by omega);omega
 ·simp only [aB] at hc1;have : i = j := by omega
  subst this;refine ⟨⟨rfl, i0, hjb, hlt, hge, qe _, by omega, by simp⟩, ?_⟩;clear hc1 hij hjb hlt hge i0;rintro i k _ ⟨i0, ib, hlt, hge, k0, k1, rfl⟩;have wi : i64.wrap (i - 1) = i - 1 := aF (by omega) (by omega);rw [wi];refine aC (fun hc2 => ?_) (fun hc2 => ?_)
  ·simp only [aB] at hc2;have wk : i64.wrap (k + 1) = k + 1 := aF (by omega) (by omega);rw [wk];have hlk : (k - a).toNat < Y.length := by omega
   have hn : (k + 1 - a).toNat = (k - a).toNat + 1 := by omega
   have dy : Y.drop (k - a).toNat = Y[(k - a).toNat] :: Y.drop ((k - a).toNat + 1) := qae hlk;have ty : Y.take ((k - a).toNat + 1) = Y.take (k - a).toNat ++ [Y[(k - a).toNat]] := cZ hlk;have lt : (Y.take (k - a).toNat).length = (k - a).toNat := by rw [qi]; omega
   obtain ⟨D, hDe⟩ : ∃ D, D = P ++ (Y.take (k - a).toNat ++ (x :: (Y.drop (k - a).toNat ++ R))) := ⟨_, rfl⟩
   have hRD : R32 D := fun y hy => hr y (by
    rw [hDe] at hy;simp only [qak, qap] at hy ⊢;rcases hy with hy | hy | hy | hy | hy
    ·exact .inl hy
    ·exact .inr (.inr (.inl (qbm hy)))
    ·exact .inr (.inl (by simp [hy]))
    ·exact .inr (.inr (.inl (qbn hy)))
    ·exact .inr (.inr (.inr hy)))
   rw [<- hDe];have hD : D = (P ++ Y.take (k - a).toNat) ++ x :: Y[(k - a).toNat] :: (Y.drop ((k - a).toNat + 1) ++ R) := by rw [hDe, dy]; simp only [qg, qw, qaa]
   have hk0 : lo + k.toNat = (P ++ Y.take (k - a).toNat).length := by rw [qb, lt]; omega
   have hk1 : lo + (k + 1).toNat = (P ++ Y.take (k - a).toNat).length + 1 := by rw [qb, lt]; omega
   have gx : D[lo + k.toNat]? = some x := by rw [hD, hk0, oW]
   have gy : D[lo + (k + 1).toNat]? = some Y[(k - a).toNat] := by rw [hD, hk1, qn (by omega)]; simp
   have hsw : (D.set (lo + k.toNat) Y[(k - a).toNat]).set (lo + (k + 1).toNat) x = P ++ (Y.take (k + 1 - a).toNat ++ (x :: (Y.drop (k + 1 - a).toNat ++ R))) := by
    rw [hD, hk0, hk1, zsw, hn, ty]; simp only [qg, qw, qaa]
   obtain ⟨t1, t2, t3, t4⟩ := uQ D gx gy (by omega) Y[(k - a).toNat] x;rw [hsw] at t1;have hla : 1 <= ((aA D).getD (lo + k.toNat) []).length := by rw [t2]; exact ql _
   refine ⟨⟨by omega, by omega, t3⟩, Y[(k - a).toNat], by rw [dA gy]; rfl, ⟨by omega, by omega, t2⟩, x, by rw [dA gx]; rfl, ⟨by omega, by omega, t2⟩, ?_⟩;refine ⟨?_, ?_⟩
   all_goals exact ⟨⟨rfl, hla⟩, ⟨by omega, by omega, t4⟩, ⟨rfl, by rw [t4]; exact ql _⟩, rfl, ⟨i0, ib, hlt, hge, by omega, by omega, t1⟩, by dsimp only; omega⟩
  ·simp only [aB] at hc2;have hk : (k - a).toNat = (i - m).toNat := by omega
   rw [hk]
   have h1 : ∀ y ∈ Y.take (i - m).toNat, key y < key x := fun y hy => by
    obtain ⟨q, hq, rfl⟩ := l7 hy;rw [qi] at hq;have e : (Y.take (i - m).toNat).getD q 0 = Y.getD q 0 := by simp only [qad]; rw [qay (by omega)]
    rw [e];have := hlt (m + q) (by omega) (by omega);rwa [show (m + (q : Int) - m).toNat = q by omega] at this
   have h2 : ∀ y ∈ Y.drop (i - m).toNat, key x <= key y := fun y hy => by
    obtain ⟨q, hq, rfl⟩ := l7 hy;rw [qai] at hq;have e : (Y.drop (i - m).toNat).getD q 0 = Y.getD ((i - m).toNat + q) 0 := by simp only [qad, qaq]
    rw [e];have := hge (i + q) (by omega) (by omega);rw [show (i + (q : Int) - m).toNat = (i - m).toNat + q by omega] at this;omega
   have hYs : Srtd key (Y.take (i - m).toNat ++ Y.drop (i - m).toNat) := by rw [qj]; exact hY
   refine ⟨Y.take (i - m).toNat ++ x :: Y.drop (i - m).toNat, rfl, by simp, zi2 hYs (fun y hy => qax (h1 y hy)) h2, ?_⟩;have := Stab.rot1 (key := key) (u := []) (v := Y.drop (i - m).toNat) (a := [x]) (b := Y.take (i - m).toNat) (fun p hp q hq => by simp at hp; subst hp; have := h1 q hq; omega);simpa using this
end
section
variable {key : Int -> Int} {T : PV}
theorem zs1 (hc : jS T key) (lo hi : Nat) (nl : Bool) (P X R : List Int) (y : Int) (a m b : Int) (ha : 0 <= a) (hP : P.length = lo + a.toNat) (hm : m = a + X.length) (hX1 : X.length ≠ 1) (hb : b = m + 1) (hhi : (lo : Int) + b <= hi) (hr : R32 (P ++ (X ++ ([y] ++ R)))) (hlen : hi < 1000000000000) (hX : Srtd key X) :
 ACall qa 142 [.sub 0 lo hi, .pv (.int .i64 a), .pv (.int .i64 m), .pv (.int .i64 b), .fn 111 [.box 1 0]] [.sl (21, 1) false nl (aA (P ++ (X ++ ([y] ++ R)))), .box [.pv T]] (jT key nl T P (X ++ [y]) R) := by
 have hat : ∀ h : Int, a <= h -> h < m -> (P ++ (X ++ ([y] ++ R)))[lo + h.toNat]? = some (X.getD (h - a).toNat 0) := fun h h1 h2 => by
  rw [qn (by omega), show lo + h.toNat - P.length = (h - a).toNat by omega, qan (by omega)];exact rJ (by omega)
 have hay : (P ++ (X ++ ([y] ++ R)))[lo + m.toNat]? = some y := by
  have e : P ++ (X ++ ([y] ++ R)) = (P ++ X) ++ y :: R := by simp
  rw [e, show lo + m.toNat = (P ++ X).length by simp; omega, oW]
 refine yP _ _ _ _ _ _ _ _
  (fun _ _ _ => True) (fun _ _ _ => 0) (fun _ _ _ => True) (fun _ _ _ => 0)
  (fun i j s => s = aA (P ++ (X ++ ([y] ++ R))) /\ a <= i /\ i <= j /\ j <= m /\ (∀ h, a <= h -> h < i -> ¬ key y < key (X.getD (h - a).toNat 0)) /\ (∀ h, j <= h -> h < m -> key y < key (X.getD (h - a).toNat 0))) (fun i j _ => (j - i).toNat)
  (fun i k s => a <= i /\ i <= m /\ (∀ h, a <= h -> h < i -> ¬ key y < key (X.getD (h - a).toNat 0)) /\ (∀ h, i <= h -> h < m -> key y < key (X.getD (h - a).toNat 0)) /\ i <= k /\ k <= m /\ s = aA (P ++ (X.take (k - a).toNat ++ (y :: (X.drop (k - a).toNat ++ R))))) (fun i k _ => (k - i).toNat)
  (fun _ _ _ => True) (fun _ _ _ => 0) ?_
 unfold t6;have w1 : i64.wrap (m - a) = X.length := by rw [aF (by omega) (by omega)]; omega
 have w2 : i64.wrap (b - m) = 1 := by rw [aF (by omega) (by omega)]; omega
 refine bA (by rw [w1]; simp; omega) (bD (by rw [w2]; rfl) ⟨⟨rfl, rfl, qe _, by omega, qe _, fun h h1 h2 => by omega, fun h h1 h2 => by omega⟩, ?_⟩);rintro i j _ ⟨rfl, i0, hij, hjb, hlt, hge⟩;refine aC (fun hc1 => ?_) (fun hc1 => ?_)
 ·simp only [aB] at hc1;rw [rK (by omega) (by omega) (by omega)];obtain ⟨h, hh⟩ : ∃ h, h = (i + j) / 2 := ⟨_, rfl⟩;rw [<- hh];have b1 : i <= h /\ h < j := by omega
  have gx := hat h (by omega) (by omega);have wh : i64.wrap (h + 1) = h + 1 := aF (by omega) (by omega);rw [wh];refine ⟨⟨by omega, by omega, by rw [dA hay]; rfl⟩, y, by rw [dA hay]; rfl, ⟨by omega, by omega, by rw [dA gx]; rfl⟩, _, by rw [dA gx]; rfl, ?_⟩;refine (hc y _ (l6 hr hay) (l6 hr gx)).mono ?_;rintro _ ⟨n2, rfl, hn2⟩;refine ⟨n2, rfl, rfl, aC (fun hl => ?_) (fun hl => ?_)⟩
  ·simp only [qp, c6] at hl;have hk : ¬ key y < key (X.getD (h - a).toNat 0) := fun h => hl (hn2.2 h);refine ⟨rfl, ⟨rfl, by omega, by omega, by omega, fun q q1 q2 => ?_, hge⟩, by dsimp only; omega⟩;have := hX.get (i := (q - a).toNat) (j := (h - a).toNat) (by omega) (by omega);omega
  ·simp only [qp, c6, qk] at hl;have hk := hn2.1 hl;refine ⟨rfl, ⟨rfl, by omega, by omega, by omega, hlt, fun q q1 q2 => ?_⟩, by dsimp only; omega⟩;have := hX.get (i := (h - a).toNat) (j := (q - a).toNat) (by omega) (by omega);omega
 ·simp only [aB] at hc1;have : i = j := by omega
  subst this;have hml : (m - a).toNat = X.length := by omega
  refine ⟨⟨rfl, i0, hjb, hlt, hge, by omega, qe _, by rw [hml]; simp⟩, ?_⟩;clear hc1 hij hjb hlt hge i0;rintro i k _ ⟨i0, ib, hlt, hge, k0, k1, rfl⟩;refine aC (fun hc2 => ?_) (fun hc2 => ?_)
  ·simp only [aB, gt_iff_lt] at hc2;have wk : i64.wrap (k - 1) = k - 1 := aF (by omega) (by omega);rw [wk];have hlk : (k - 1 - a).toNat < X.length := by omega
   have hn : (k - a).toNat = (k - 1 - a).toNat + 1 := by omega
   have dx : X.drop (k - 1 - a).toNat = X[(k - 1 - a).toNat] :: X.drop ((k - 1 - a).toNat + 1) := qae hlk;have tx : X.take ((k - 1 - a).toNat + 1) = X.take (k - 1 - a).toNat ++ [X[(k - 1 - a).toNat]] := cZ hlk;have lt : (X.take (k - 1 - a).toNat).length = (k - 1 - a).toNat := by rw [qi]; omega
   obtain ⟨D, hDe⟩ : ∃ D, D = P ++ (X.take (k - a).toNat ++ (y :: (X.drop (k - a).toNat ++ R))) := ⟨_, rfl⟩
   have hRD : R32 D := fun z hz => hr z (by
    rw [hDe] at hz;simp only [qak, qap] at hz ⊢;rcases hz with hz | hz | hz | hz | hz
    ·exact .inl hz
    ·exact .inr (.inl (qbm hz))
    ·exact .inr (.inr (.inl (by simp [hz])))
    ·exact .inr (.inl (qbn hz))
    ·exact .inr (.inr (.inr hz)))
   rw [<- hDe];have hD : D = (P ++ X.take (k - 1 - a).toNat) ++ X[(k - 1 - a).toNat] :: y :: (X.drop ((k - 1 - a).toNat + 1) ++ R) := by rw [hDe, hn, tx]; simp only [qg, qw, qaa]
   have hk0 : lo + (k - 1).toNat = (P ++ X.take (k - 1 - a).toNat).length := by rw [qb, lt]; omega
   have hk1 : lo + k.toNat = (P ++ X.take (k - 1 - a).toNat).length + 1 := by rw [qb, lt]; omega
   have gx : D[lo + (k - 1).toNat]? = some X[(k - 1 - a).toNat] := by rw [hD, hk0, oW]
   have gy : D[lo + k.toNat]? = some y := by rw [hD, hk1, qn (by omega)]; simp
   have hsw : (D.set (lo + k.toNat) X[(k - 1 - a).toNat]).set (lo + (k - 1).toNat) y = P ++ (X.take (k - 1 - a).toNat ++ (y :: (X.drop (k - 1 - a).toNat ++ R))) := by
    rw [hD, hk0, hk1, ziz, dx]; simp only [qg, qw, qaa]
   obtain ⟨t1, t2, t3, t4⟩ := uQ D gy gx (by omega) X[(k - 1 - a).toNat] y;rw [hsw] at t1;have hla : 1 <= ((aA D).getD (lo + k.toNat) []).length := by rw [t2]; exact ql _
   refine ⟨⟨by omega, by omega, t3⟩, X[(k - 1 - a).toNat], by rw [dA gx]; rfl, ⟨by omega, by omega, t2⟩, y, by rw [dA gy]; rfl, ⟨by omega, by omega, t2⟩, ?_⟩;refine ⟨?_, ?_⟩
   all_goals exact ⟨⟨rfl, hla⟩, ⟨by omega, by omega, t4⟩, ⟨rfl, by rw [t4]; exact ql _⟩, rfl, ⟨i0, ib, hlt, hge, by omega, by omega, t1⟩, by dsimp only; omega⟩
  ·simp only [aB, gt_iff_lt] at hc2;have hk : k = i := by omega
   subst hk
   have h1 : ∀ z ∈ X.take (k - a).toNat, key z <= key y := fun z hz => by
    obtain ⟨q, hq, rfl⟩ := l7 hz;rw [qi] at hq;have e : (X.take (k - a).toNat).getD q 0 = X.getD q 0 := by simp only [qad]; rw [qay (by omega)]
    rw [e];have := hlt (a + q) (by omega) (by omega);rw [show (a + (q : Int) - a).toNat = q by omega] at this;omega
   have h2 : ∀ z ∈ X.drop (k - a).toNat, key y < key z := fun z hz => by
    obtain ⟨q, hq, rfl⟩ := l7 hz;rw [qai] at hq;have e : (X.drop (k - a).toNat).getD q 0 = X.getD ((k - a).toNat + q) 0 := by simp only [qad, qaq]
    rw [e];have := hge (k + q) (by omega) (by omega);rwa [show (k + (q : Int) - a).toNat = (k - a).toNat + q by omega] at this
   have hXs : Srtd key (X.take (k - a).toNat ++ X.drop (k - a).toNat) := by rw [qj]; exact hX
   refine ⟨X.take (k - a).toNat ++ y :: X.drop (k - a).toNat, rfl, by simp, zi2 hXs h1 (fun z hz => qax (h2 z hz)), ?_⟩;have := Stab.rot1 (key := key) (u := X.take (k - a).toNat) (v := []) (a := X.drop (k - a).toNat) (b := [y]) (fun p hp q hq => by simp at hq; subst hq; have := h2 p hp; omega);rw [<- qg, qj] at this;simpa using this
end
section
variable {key : Int -> Int} {T : PV} (lo hi : Nat) (nl : Bool)
abbrev jU (nl : Bool) (T : PV) (t : List (List PV)) : Hp := [.sl (21, 1) false nl t, .box [.pv T]]
abbrev zax (nl : Bool) (T : PV) (t : List (List PV)) (K : List (List PV) -> Prop) : LV -> Hp -> Prop := fun r h' => ∃ t1, (r = .tup [] /\ h' = jU nl T t1) /\ (True /\ ((21, 1) = (21, 1) /\ nl = nl /\ t.length = t1.length) /\ True) /\ K t1
def uR (T : PV) (mid e b : Int) (Q : LV -> Hp -> Prop) (t : List (List PV)) : Prop :=
 if (decide (mid < e) && decide (e < b)) = true then ACall qa 142 [.sub 0 lo hi, .pv (.int .i64 mid), .pv (.int .i64 e), .pv (.int .i64 b), .fn 111 [.box 1 0]] (jU nl T t) (zax nl T t fun t1 => Q (.tup []) (jU nl T t1)) else Q (.tup []) (jU nl T t)
def uS (T : PV) (a s mid e b : Int) (Q : LV -> Hp -> Prop) (t : List (List PV)) : Prop :=
 if (decide (a < s) && decide (s < mid)) = true then ACall qa 142 [.sub 0 lo hi, .pv (.int .i64 a), .pv (.int .i64 s), .pv (.int .i64 mid), .fn 111 [.box 1 0]] (jU nl T t) (zax nl T t (uR lo hi nl T mid e b Q)) else uR lo hi nl T mid e b Q t
def zay (T : PV) (a s m mid e b : Int) (Q : LV -> Hp -> Prop) (t : List (List PV)) : Prop :=
 if (decide (s < m) && decide (m < e)) = true then ACall qa 144 [.sub 0 lo hi, .pv (.int .i64 s), .pv (.int .i64 m), .pv (.int .i64 e), .fn 111 [.box 1 0]] (jU nl T t) (zax nl T t (uS lo hi nl T a s mid e b Q)) else uS lo hi nl T a s mid e b Q t
theorem R32.of {l m : List Int} (h : R32 l) (hm : ∀ x ∈ m, x ∈ l) : R32 m := fun x hx => h x (hm x hx)
def zi3 (T : PV) (key : Int -> Int) (N : Int) : Prop := ∀ (P X Y R : List Int) (a m b : Int), 0 <= a -> P.length = lo + a.toNat -> m = a + X.length -> b = m + Y.length -> X ≠ [] -> Y ≠ [] -> (lo : Int) + b <= hi -> R32 (P ++ (X ++ (Y ++ R))) -> Srtd key X -> Srtd key Y -> b - a < N ->
 ACall qa 142 [.sub 0 lo hi, .pv (.int .i64 a), .pv (.int .i64 m), .pv (.int .i64 b), .fn 111 [.box 1 0]] (jU nl T (aA (P ++ (X ++ (Y ++ R))))) (jT key nl T P (X ++ Y) R)
theorem zs2 {N : Int} (ih : zi3 lo hi nl T key N) (hlen : hi < 1000000000000) (P X1 X2 Y1 Y2 R : List Int) (a s m mid e b : Int) (ha : 0 <= a) (hP : P.length = lo + a.toNat) (h1 : s = a + X1.length) (h2 : m = s + X2.length) (h3 : e = m + Y1.length) (h4 : b = e + Y2.length) (h5 : mid = s + Y1.length)
 (hhi : (lo : Int) + b <= hi) (hr : R32 (P ++ (X1 ++ (X2 ++ (Y1 ++ (Y2 ++ R)))))) (hX : Srtd key (X1 ++ X2)) (hY : Srtd key (Y1 ++ Y2)) (f1 : ∀ x ∈ X2, ∀ y ∈ Y1, key y < key x) (f2 : ∀ x ∈ X1, ∀ y ∈ Y2, key x <= key y) (n1 : mid - a < N) (n2 : b - mid < N) :
 zay lo hi nl T a s m mid e b (jT key nl T P ((X1 ++ X2) ++ (Y1 ++ Y2)) R) (aA (P ++ (X1 ++ (X2 ++ (Y1 ++ (Y2 ++ R)))))) := by
 have hl1 : ∀ {u v : List Int}, u.length = v.length -> (aA u).length = (aA v).length := fun h => by simp [h]
 obtain ⟨x1, x2, x3⟩ := i7.1 hX;obtain ⟨y1, y2, y3⟩ := i7.1 hY
 have t3 : ∀ S1 : List Int, Srtd key S1 -> Stab key (X1 ++ Y1) S1 -> uR lo hi nl T mid e b (jT key nl T P ((X1 ++ X2) ++ (Y1 ++ Y2)) R) (aA (P ++ (S1 ++ (X2 ++ (Y2 ++ R))))) := fun S1 s1 k1 => by
  have kl := k1.len;rw [qb] at kl
  have fin : ∀ S2 : List Int, Srtd key S2 -> Stab key (X2 ++ Y2) S2 -> jT key nl T P ((X1 ++ X2) ++ (Y1 ++ Y2)) R (.tup []) (jU nl T (aA (P ++ (S1 ++ (S2 ++ R))))) := fun S2 s2 k2 => by
   obtain ⟨c1, c2⟩ := zsz hX hY f1 f2 s1 k1 s2 k2;exact ⟨S1 ++ S2, rfl, by simp, c1, c2⟩
  unfold uR;refine aC (fun hc => ?_) (fun hc => ?_)
  ·simp only [qh, aB] at hc;have nx : X2 ≠ [] := fun h => by subst h; simp at h2; omega
   have ny : Y2 ≠ [] := fun h => by subst h; simp at h4; omega
   have := ih (P ++ S1) X2 Y2 R mid e b (by omega) (by rw [qb]; omega) (by omega) h4 nx ny hhi (hr.of fun x hx => by
    simp only [qak] at hx ⊢;rcases hx with (hx | hx) | hx | hx | hx
    ·exact .inl hx
    ·rcases List.mem_append.1 (k1.mem.2 hx) with hx | hx
     ·exact .inr (.inl hx)
     ·exact .inr (.inr (.inr (.inl hx)))
    ·exact .inr (.inr (.inl hx))
    ·exact .inr (.inr (.inr (.inr (.inl hx))))
    ·exact .inr (.inr (.inr (.inr (.inr hx))))) x2 y2 n2
   rw [show P ++ (S1 ++ (X2 ++ (Y2 ++ R))) = (P ++ S1) ++ (X2 ++ (Y2 ++ R)) by simp];refine this.mono ?_;rintro r h' ⟨S2, rfl, rfl, s2, k2⟩;refine ⟨_, ⟨rfl, rfl⟩, ⟨trivial, ⟨rfl, rfl, hl1 ?_⟩, trivial⟩, ?_⟩
   ·have := k2.len;simp only [qb] at this ⊢; omega
   ·have := fin S2 s2 k2;rw [<- qg P] at this;exact this
  ·simp only [qh, aB] at hc
   have hz : X2 = [] ∨ Y2 = [] := by
    rcases qbg X2.length with h | h
    ·exact .inl (List.length_eq_zero_iff.1 h)
    ·exact .inr (List.length_eq_zero_iff.1 (by omega))
   have s2 : Srtd key (X2 ++ Y2) := by
    rcases hz with h | h
    ·subst h; exact y2
    ·subst h; simpa using x2
   have := fin (X2 ++ Y2) s2 (.refl _);rw [qg X2 Y2] at this;exact this
 have t2 : uS lo hi nl T a s mid e b (jT key nl T P ((X1 ++ X2) ++ (Y1 ++ Y2)) R) (aA (P ++ (X1 ++ (Y1 ++ (X2 ++ (Y2 ++ R)))))) := by
  unfold uS;refine aC (fun hc => ?_) (fun hc => ?_)
  ·simp only [qh, aB] at hc;have nx : X1 ≠ [] := fun h => by subst h; simp at h1; omega
   have ny : Y1 ≠ [] := fun h => by subst h; simp at h5; omega
   refine (ih P X1 Y1 (X2 ++ (Y2 ++ R)) a s mid ha hP h1 h5 nx ny (by omega) (hr.of fun x hx => by
    simp only [qak] at hx ⊢;rcases hx with hx | hx | hx | hx | hx | hx
    ·exact .inl hx
    ·exact .inr (.inl hx)
    ·exact .inr (.inr (.inr (.inl hx)))
    ·exact .inr (.inr (.inl hx))
    ·exact .inr (.inr (.inr (.inr (.inl hx))))
    ·exact .inr (.inr (.inr (.inr (.inr hx))))) x1 y1 n1).mono ?_
   rintro r h' ⟨S1, rfl, rfl, s1, k1⟩;refine ⟨_, ⟨rfl, rfl⟩, ⟨trivial, ⟨rfl, rfl, hl1 ?_⟩, trivial⟩, t3 S1 s1 k1⟩;have := k1.len;simp only [qb] at this ⊢; omega
  ·simp only [qh, aB] at hc
   have hz : X1 = [] ∨ Y1 = [] := by
    rcases qbg X1.length with h | h
    ·exact .inl (List.length_eq_zero_iff.1 h)
    ·exact .inr (List.length_eq_zero_iff.1 (by omega))
   have s2 : Srtd key (X1 ++ Y1) := by
    rcases hz with h | h
    ·subst h; exact y1
    ·subst h; simpa using x1
   have := t3 (X1 ++ Y1) s2 (.refl _);rw [qg X1 Y1] at this;exact this
 unfold zay;refine aC (fun hc => ?_) (fun hc => ?_)
 ·simp only [qh, aB] at hc;have nx : X2 ≠ [] := fun h => by subst h; simp at h2; omega
  have ny : Y1 ≠ [] := fun h => by subst h; simp at h3; omega
  have := zsy (T := T) lo hi nl (P ++ X1) X2 Y1 (Y2 ++ R) s m e (by omega) (by rw [qb]; omega) h2 h3 nx ny (by omega) hlen;rw [show P ++ (X1 ++ (X2 ++ (Y1 ++ (Y2 ++ R)))) = (P ++ X1) ++ (X2 ++ (Y1 ++ (Y2 ++ R))) by simp];refine this.mono ?_;rintro r h' ⟨rfl, rfl⟩;refine ⟨_, ⟨rfl, rfl⟩, ⟨trivial, ⟨rfl, rfl, hl1 ?_⟩, trivial⟩, ?_⟩
  ·simp only [qb]; omega
  ·rw [qg P]; exact t2
 ·simp only [qh, aB] at hc
  have hz : X2 = [] ∨ Y1 = [] := by
   rcases qbg X2.length with h | h
   ·exact .inl (List.length_eq_zero_iff.1 h)
   ·exact .inr (List.length_eq_zero_iff.1 (by omega))
  have e : P ++ (X1 ++ (X2 ++ (Y1 ++ (Y2 ++ R)))) = P ++ (X1 ++ (Y1 ++ (X2 ++ (Y2 ++ R)))) := by
   rcases hz with h | h <;> subst h <;> simp
  rw [e]; exact t2
end
section
variable {key : Int -> Int} {T : PV}
theorem zi4 (hc : jS T key) (lo hi : Nat) (nl : Bool) (hlen : hi < 1000000000000) : ∀ N : Nat, zi3 lo hi nl T key N := by
 intro N
 induction N with
 | zero =>
   intro P X Y R a m b ha hP hm hb hx hy hhi hr hX hY hN;omega
 | succ N ih =>
   intro P X Y R a m b ha hP hm hb hx hy hhi hr hX hY hN;have hxl := List.length_pos_iff.2 hx;have hyl := List.length_pos_iff.2 hy;by_cases hx1 : X.length = 1
   ·obtain ⟨x, rfl⟩ := List.length_eq_one_iff.1 hx1;exact zs0 hc lo hi nl P Y R x a m b ha hP (by simpa using hm) hb hhi hr hlen hY
   by_cases hy1 : Y.length = 1
   ·obtain ⟨y, rfl⟩ := List.length_eq_one_iff.1 hy1;exact zs1 hc lo hi nl P X R y a m b ha hP hm hx1 (by simpa using hb) hhi hr hlen hX
   obtain ⟨mid, hmid⟩ : ∃ mid, mid = (a + b) / 2 := ⟨_, rfl⟩
   have hat : ∀ h : Int, a <= h -> h < m -> (P ++ (X ++ (Y ++ R)))[lo + h.toNat]? = some (X.getD (h - a).toNat 0) := fun h h1 h2 => by
    rw [qn (by omega), show lo + h.toNat - P.length = (h - a).toNat by omega, qan (by omega)];exact rJ (by omega)
   have hbt : ∀ h : Int, m <= h -> h < b -> (P ++ (X ++ (Y ++ R)))[lo + h.toNat]? = some (Y.getD (h - m).toNat 0) := fun h h1 h2 => by
    rw [<- qg, qn (by rw [qb]; omega), show lo + h.toNat - (P ++ X).length = (h - m).toNat by rw [qb]; omega, qan (by omega)];exact rJ (by omega)
   obtain ⟨s0, hs0⟩ : ∃ s0, s0 = if m > mid then mid + m - b else a := ⟨_, rfl⟩;obtain ⟨r0, hr0⟩ : ∃ r0, r0 = if m > mid then mid else m := ⟨_, rfl⟩
   have rng : a <= s0 /\ s0 <= r0 /\ r0 <= m /\ mid + m - s0 <= b /\ m <= mid + m - r0 := by
    rw [hs0, hr0]; split <;> omega
   refine yP _ _ _ _ _ _ _ _
    (fun _ _ _ => True) (fun _ _ _ => 0) (fun _ _ _ => True) (fun _ _ _ => 0) (fun _ _ _ => True) (fun _ _ _ => 0) (fun _ _ _ => True) (fun _ _ _ => 0)
    (fun i j s => s = aA (P ++ (X ++ (Y ++ R))) /\ s0 <= i /\ i <= j /\ j <= r0 /\ (∀ c, s0 <= c -> c < i -> ¬ key (Y.getD (mid - 1 - c).toNat 0) < key (X.getD (c - a).toNat 0)) /\ (∀ c, j <= c -> c < r0 -> key (Y.getD (mid - 1 - c).toNat 0) < key (X.getD (c - a).toNat 0))) (fun i j _ => (j - i).toNat) ?_
   unfold t6;have w1 : i64.wrap (m - a) = X.length := by rw [aF (by omega) (by omega)]; omega
   have w2 : i64.wrap (b - m) = Y.length := by rw [aF (by omega) (by omega)]; omega
   have w3 : i64.wrap (mid + m) = mid + m := aF (by omega) (by omega);have w4 : i64.wrap (mid + m - b) = mid + m - b := aF (by omega) (by omega);have w5 : i64.wrap (mid + m - 1) = mid + m - 1 := aF (by omega) (by omega);rw [w1, w2, rK ha (by omega) (by omega), <- hmid, w3, w4, w5]
   -- what the loop is, and what follows it
   have body : ∀ (x20 x21 : Int) (s : List (List PV)), (s = aA (P ++ (X ++ (Y ++ R))) /\ s0 <= x20 /\ x20 <= x21 /\ x21 <= r0 /\ (∀ c, s0 <= c -> c < x20 -> ¬ key (Y.getD (mid - 1 - c).toNat 0) < key (X.getD (c - a).toNat 0)) /\ (∀ c, x21 <= c -> c < r0 -> key (Y.getD (mid - 1 - c).toNat 0) < key (X.getD (c - a).toNat 0))) ->
    (x20 < x21 -> ∃ h, h = (x20 + x21) / 2 /\ i64.wrap (mid + m - 1 - h) = mid + m - 1 - h /\ i64.wrap (h + 1) = h + 1 /\ (0 <= mid + m - 1 - h /\ mid + m - 1 - h < (hi : Int) - lo /\ (s.getD (lo + (mid + m - 1 - h).toNat) []).length = 1) /\ (0 <= h /\ h < (hi : Int) - lo /\ (s.getD (lo + h.toNat) []).length = 1) /\
     ∃ n n1, (qc 0 (s.getD (lo + (mid + m - 1 - h).toNat) [])).head? = some (PV.int .i32 n) /\ (qc 0 (s.getD (lo + h.toNat) [])).head? = some (PV.int .i32 n1) /\ (-2147483648 <= n /\ n <= 2147483647) /\ (-2147483648 <= n1 /\ n1 <= 2147483647) /\
     (¬ key n < key n1 -> (s = aA (P ++ (X ++ (Y ++ R))) /\ s0 <= h + 1 /\ h + 1 <= x21 /\ x21 <= r0 /\ (∀ c, s0 <= c -> c < h + 1 -> ¬ key (Y.getD (mid - 1 - c).toNat 0) < key (X.getD (c - a).toNat 0)) /\ (∀ c, x21 <= c -> c < r0 -> key (Y.getD (mid - 1 - c).toNat 0) < key (X.getD (c - a).toNat 0))) /\ (x21 - (h + 1)).toNat < (x21 - x20).toNat) /\
     (key n < key n1 -> (s = aA (P ++ (X ++ (Y ++ R))) /\ s0 <= x20 /\ x20 <= h /\ h <= r0 /\ (∀ c, s0 <= c -> c < x20 -> ¬ key (Y.getD (mid - 1 - c).toNat 0) < key (X.getD (c - a).toNat 0)) /\ (∀ c, h <= c -> c < r0 -> key (Y.getD (mid - 1 - c).toNat 0) < key (X.getD (c - a).toNat 0))) /\ (h - x20).toNat < (x21 - x20).toNat)) /\
    (¬ x20 < x21 -> i64.wrap (mid + m - x20) = mid + m - x20 /\ zay lo hi nl T a x20 m mid (mid + m - x20) b (jT key nl T P (X ++ Y) R) s) := by
    rintro i j _ ⟨rfl, i0, hij, hjr, hge, hlt⟩;refine ⟨fun hc1 => ?_, fun hc1 => ?_⟩
    ·obtain ⟨h, hh⟩ : ∃ h, h = (i + j) / 2 := ⟨_, rfl⟩;have b1 : i <= h /\ h < j := by omega
     have gx := hat h (by omega) (by omega);have gy := hbt (mid + m - 1 - h) (by omega) (by omega);rw [show (mid + m - 1 - h - m).toNat = (mid - 1 - h).toNat by omega] at gy;refine ⟨h, hh, aF (by omega) (by omega), aF (by omega) (by omega), ⟨by omega, by omega, by rw [dA gy]; rfl⟩, ⟨by omega, by omega, by rw [dA gx]; rfl⟩, _, _, by rw [dA gy]; rfl, by rw [dA gx]; rfl, l6 hr gy, l6 hr gx, fun hk => ?_, fun hk => ?_⟩
     ·refine ⟨⟨rfl, by omega, by omega, hjr, fun c c1 c2 => ?_, hlt⟩, by omega⟩;have u := hX.get (i := (c - a).toNat) (j := (h - a).toNat) (by omega) (by omega);have v := hY.get (i := (mid - 1 - h).toNat) (j := (mid - 1 - c).toNat) (by omega) (by omega);omega
     ·refine ⟨⟨rfl, i0, by omega, by omega, hge, fun c c1 c2 => ?_⟩, by omega⟩;have u := hX.get (i := (h - a).toNat) (j := (c - a).toNat) (by omega) (by omega);have v := hY.get (i := (mid - 1 - c).toNat) (j := (mid - 1 - h).toNat) (by omega) (by omega);omega
    ·have hij2 : i = j := by omega
     subst hij2;refine ⟨aF (by omega) (by omega), ?_⟩;have l1 : (X.take (i - a).toNat).length = (i - a).toNat := by rw [qi]; omega
     have l2 : (X.drop (i - a).toNat).length = X.length - (i - a).toNat := qai;have l3 : (Y.take (mid - i).toNat).length = (mid - i).toNat := by rw [qi]; omega
     have l4 : (Y.drop (mid - i).toNat).length = Y.length - (mid - i).toNat := qai;have eX : X.take (i - a).toNat ++ X.drop (i - a).toNat = X := qj _ _;have eY : Y.take (mid - i).toNat ++ Y.drop (mid - i).toNat = Y := qj _ _;have tk : ∀ (L : List Int) (k q : Nat), q < k -> (L.take k).getD q 0 = L.getD q 0 := fun L k q h => by simp only [qad]; rw [qay h]
     have dk : ∀ (L : List Int) (k q : Nat), (L.drop k).getD q 0 = L.getD (k + q) 0 := fun L k q => by simp only [qad, qaq]
     have f1 : ∀ x ∈ X.drop (i - a).toNat, ∀ y ∈ Y.take (mid - i).toNat, key y < key x := fun x hx y hy => by
      obtain ⟨q, hq, rfl⟩ := l7 hx;obtain ⟨p, hp, rfl⟩ := l7 hy;rw [l2] at hq;rw [l3] at hp;rw [tk _ _ _ hp, dk];have hir : i < r0 := by rw [hr0]; split <;> omega
      have k0 := hlt i (qe _) hir;have u := hX.get (i := (i - a).toNat) (j := (i - a).toNat + q) (by omega) (by omega);have v := hY.get (i := p) (j := (mid - 1 - i).toNat) (by omega) (by omega);omega
     have f2 : ∀ x ∈ X.take (i - a).toNat, ∀ y ∈ Y.drop (mid - i).toNat, key x <= key y := fun x hx y hy => by
      obtain ⟨q, hq, rfl⟩ := l7 hx;obtain ⟨p, hp, rfl⟩ := l7 hy;rw [l1] at hq;rw [l4] at hp;rw [tk _ _ _ hq, dk];have his : s0 <= i - 1 := by rw [hs0]; split <;> omega
      have k0 := hge (i - 1) his (by omega);rw [show (mid - 1 - (i - 1)).toNat = (mid - i).toNat by omega] at k0;have u := hX.get (i := q) (j := (i - 1 - a).toNat) (by omega) (by omega);have v := hY.get (i := (mid - i).toNat) (j := (mid - i).toNat + p) (by omega) (by omega);omega
     have := zs2 lo hi nl (N := N) ih hlen P (X.take (i - a).toNat) (X.drop (i - a).toNat) (Y.take (mid - i).toNat) (Y.drop (mid - i).toNat) R a i m mid (mid + m - i) b ha hP (by omega) (by omega) (by omega) (by omega) (by omega) hhi
      (by rw [<- qg (Y.take _), eY, <- qg (X.take _), eX]; exact hr) (by rw [eX]; exact hX) (by rw [eY]; exact hY) f1 f2 (by omega) (by omega)
     rw [<- qg (Y.take _) _ R, eY, <- qg (X.take _) _ (Y ++ R), eX] at this;exact this
   refine bA (by simp; omega) (bA (by simp; omega) ?_);refine aC (fun hm2 => ?_) (fun hm2 => ?_)
   ·simp only [aB] at hm2;rw [if_pos hm2] at hs0 hr0;refine ⟨⟨rfl, rfl, by omega, by omega, by omega, fun c c1 c2 => by omega, fun c c1 c2 => by omega⟩, ?_⟩;rintro i j s hJ;obtain ⟨b1, b2⟩ := body i j s hJ;refine aC (fun hc1 => ?_) (fun hc1 => ?_)
    ·simp only [aB] at hc1;obtain ⟨h, hh, e1, e2, e3, e4, n, n1, g1, g2, r1, r2, k1, k2⟩ := b1 hc1;rw [rK (by omega) (by omega) (by omega), <- hh, e1, e2];refine ⟨e3, n, g1, e4, n1, g2, ?_⟩;refine (hc n n1 r1 r2).mono ?_;rintro _ ⟨n2, rfl, hn2⟩;refine ⟨n2, rfl, rfl, aC (fun hl => ?_) (fun hl => ?_)⟩
     ·simp only [qp, c6] at hl;obtain ⟨q1, q2⟩ := k1 fun h => hl (hn2.2 h);exact ⟨rfl, q1, q2⟩
     ·simp only [qp, c6, qk] at hl;obtain ⟨q1, q2⟩ := k2 (hn2.1 hl);exact ⟨rfl, q1, q2⟩
    ·simp only [aB] at hc1;obtain ⟨e1, e2⟩ := b2 hc1;rw [e1];exact e2
   ·simp only [aB] at hm2;rw [if_neg hm2] at hs0 hr0;refine ⟨⟨rfl, rfl, by omega, by omega, by omega, fun c c1 c2 => by omega, fun c c1 c2 => by omega⟩, ?_⟩;rintro i j s hJ;obtain ⟨b1, b2⟩ := body i j s hJ;refine aC (fun hc1 => ?_) (fun hc1 => ?_)
    ·simp only [aB] at hc1;obtain ⟨h, hh, e1, e2, e3, e4, n, n1, g1, g2, r1, r2, k1, k2⟩ := b1 hc1;rw [rK (by omega) (by omega) (by omega), <- hh, e1, e2];refine ⟨e3, n, g1, e4, n1, g2, ?_⟩;refine (hc n n1 r1 r2).mono ?_;rintro _ ⟨n2, rfl, hn2⟩;refine ⟨n2, rfl, rfl, aC (fun hl => ?_) (fun hl => ?_)⟩
     ·simp only [qp, c6] at hl;obtain ⟨q1, q2⟩ := k1 fun h => hl (hn2.2 h);exact ⟨rfl, q1, q2⟩
     ·simp only [qp, c6, qk] at hl;obtain ⟨q1, q2⟩ := k2 (hn2.1 hl);exact ⟨rfl, q1, q2⟩
    ·simp only [aB] at hc1;obtain ⟨e1, e2⟩ := b2 hc1;rw [e1];exact e2
end
section
variable {key : Int -> Int} {T : PV}
def m8 (key : Int -> Int) (k : Nat) (Bs : List (List Int)) : Prop := ∀ B ∈ Bs, B.length = k /\ Srtd key B
theorem zaz {k : Nat} : ∀ {Bs : List (List Int)}, m8 key k Bs -> Bs.flatten.length = k * Bs.length
 | [], _ => by simp
 | B :: Bs, h => by
   rw [qo, qb, (h B qac).1, zaz (Bs := Bs) fun C hC => h C (qau _ hC), qr, Nat.mul_add]; omega
theorem uT (Bs : List (List Int)) : Bs = [] ∨ (∃ X, Bs = [X]) ∨ ∃ X Y Bs', Bs = X :: Y :: Bs' := by
 match Bs with
 | [] => exact .inl rfl
 | [X] => exact .inr (.inl ⟨X, rfl⟩)
 | X :: Y :: Bs' => exact .inr (.inr ⟨X, Y, Bs', rfl⟩)
theorem zi5 {k : Nat} {Bs : List (List Int)} {B : List Int} (h : m8 key k Bs) (hl : B.length = k) (hs : Srtd key B) : m8 key k (Bs ++ [B]) := fun C hC => by
 rcases List.mem_append.1 hC with hC | hC
 ·exact h C hC
 ·simp only [qbf] at hC; subst hC; exact ⟨hl, hs⟩
theorem za0 {P S R S' : List Int} (h : R32 (P ++ (S ++ R))) (k : Stab key S S') : R32 (P ++ (S' ++ R)) := h.of fun x hx => by
 simp only [qak] at hx ⊢;rcases hx with hx | hx | hx
 ·exact .inl hx
 ·exact .inr (.inl (k.mem.2 hx))
 ·exact .inr (.inr hx)
theorem zs3 (hc : jS T key) (lo hi : Nat) (nl : Bool) (P S R : List Int) (hP : P.length = lo) (hS : hi = lo + S.length) (hr : R32 (P ++ (S ++ R))) (hlen : hi < 1000000000000) :
 ACall qa 133 [.sub 0 lo hi, .pv (.int .i64 ((hi - lo : Nat) : Int)), .fn 111 [.box 1 0]] (jU nl T (aA (P ++ (S ++ R)))) (jT key nl T P S R) := by
 have hl1 : ∀ {u v : List Int}, u.length = v.length -> (aA u).length = (aA v).length := fun h => by simp [h]
 obtain ⟨n, hn⟩ : ∃ n : Int, n = ((hi - lo : Nat) : Int) := ⟨_, rfl⟩;rw [<- hn];have hnS : n = S.length := by omega
 refine zpa _ _ _ _ _ _
  (fun a b s => b = a + 20 /\ 0 <= a /\ ∃ Bs C, s = aA (P ++ (Bs.flatten ++ C ++ R)) /\ m8 key 20 Bs /\ (Bs.flatten.length : Int) = a /\ Stab key S (Bs.flatten ++ C)) (fun a _ _ => (n + 1 - a).toNat)
  (fun k s => 0 < k /\ ∃ Bs C, s = aA (P ++ (Bs.flatten ++ C ++ R)) /\ m8 key k.toNat Bs /\ Srtd key C /\ (C.length : Int) < k /\ Stab key S (Bs.flatten ++ C)) (fun k _ => (n - k).toNat)
  (fun k _ _ _ k' a b s => k = k' /\ b = a + 2 * k /\ 0 <= a /\ ∃ B2 Bs C, s = aA (P ++ (B2.flatten ++ (Bs.flatten ++ C) ++ R)) /\ m8 key (2 * k).toNat B2 /\ m8 key k.toNat Bs /\ Srtd key C /\ (C.length : Int) < k /\ (B2.flatten.length : Int) = a /\ Stab key S (B2.flatten ++ (Bs.flatten ++ C))) (fun k a _ _ => (n + 1 - a).toNat) ?_
 unfold zfq;refine ⟨⟨rfl, rfl, qe _, [], S, by simp, fun B hB => (by cases hB), rfl, by simpa using Stab.refl S⟩, ?_⟩
 rintro a b _ ⟨rfl, a0, Bs, C, rfl, hBs, hBl, hst⟩;have hsl := hst.len;rw [qb] at hsl;refine aC (fun hc1 => ?_) (fun hc1 => ?_)
 ·simp only [aB] at hc1;have wa : i64.wrap (a + 20 + 20) = a + 20 + 20 := aF (by omega) (by omega);rw [wa];have hC : C.take 20 ++ C.drop 20 = C := qj _ _;have hCl : (C.take 20).length = 20 := by rw [qi]; omega
  have e1 : P ++ (Bs.flatten ++ C ++ R) = (P ++ Bs.flatten) ++ C.take 20 ++ (C.drop 20 ++ R) := by
   rw [show Bs.flatten ++ C ++ R = Bs.flatten ++ ((C.take 20 ++ C.drop 20) ++ R) by rw [hC]; simp];simp only [qg]
  have := zi1 hc lo hi nl (P ++ Bs.flatten) (C.take 20) (C.drop 20 ++ R) a (a + 20) a0 (by rw [qb]; omega) (by omega) (by omega) (by rw [<- e1]; exact za0 hr hst) hlen;rw [e1];refine this.mono ?_;rintro r h' ⟨S1, rfl, rfl, s1, k1⟩;have k1l := k1.len;refine ⟨_, ⟨rfl, rfl⟩, ⟨trivial, ⟨rfl, rfl, hl1 (by simp only [qb]; omega)⟩, trivial⟩, rfl, ⟨rfl, by omega, Bs ++ [S1], C.drop 20, by simp, zi5 hBs (by omega) s1, by simp only [qav, qo, qv, qm, qb]; omega, ?_⟩, by dsimp only; omega⟩;refine hst.trans ?_;have := (Stab.refl (key := key) Bs.flatten).app (k1.app (Stab.refl (C.drop 20)));rw [hC] at this;simpa using this
 ·simp only [aB] at hc1;have e1 : P ++ (Bs.flatten ++ C ++ R) = (P ++ Bs.flatten) ++ C ++ R := by simp
  have := zi1 hc lo hi nl (P ++ Bs.flatten) C R a n a0 (by rw [qb]; omega) (by omega) (by omega) (by rw [<- e1]; exact za0 hr hst) hlen;rw [e1];refine this.mono ?_;rintro r h' ⟨C1, rfl, rfl, s1, k1⟩;have k1l := k1.len;refine ⟨_, ⟨rfl, rfl⟩, ⟨trivial, ⟨rfl, rfl, hl1 (by simp only [qb]; omega)⟩, trivial⟩, ⟨rfl, by omega, Bs, C1, by simp, hBs, s1, by omega, hst.trans ((Stab.refl _).app k1)⟩, ?_⟩;clear hBs hBl hst hsl hc1 e1 this s1 k1 k1l;rintro k _ ⟨k0, Bs, C, rfl, hBs, hCs, hCk, hst⟩;have hsl := hst.len;rw [qb] at hsl;have hbl := zaz hBs;refine aC (fun hc2 => ?_) (fun hc2 => ?_)
  ·simp only [aB] at hc2;have w2 : i64.wrap (2 * k) = 2 * k := aF (by omega) (by omega);have w3 : i64.wrap (k * 2) = 2 * k := by rw [aF (by omega) (by omega)]; omega
   rw [w2];refine ⟨⟨rfl, rfl, by omega, qe _, [], Bs, C, by simp, fun B hB => (by cases hB), hBs, hCs, hCk, rfl, by simpa using hst⟩, ?_⟩
   clear hBs hCs hCk hst hsl hbl;rintro _ a b _ ⟨rfl, rfl, a0, B2, Bs, C, rfl, hB2, hBs, hCs, hCk, hBl, hst⟩;have hsl := hst.len;rw [qb, qb] at hsl;have hbl := zaz hBs;have hRs : R32 (P ++ (B2.flatten ++ (Bs.flatten ++ C) ++ R)) := za0 hr hst;rw [w2, w3];have hkn : (k.toNat : Int) = k := by omega
   refine aC (fun hc3 => ?_) (fun hc3 => ?_)
   ·simp only [aB] at hc3;have w4 : i64.wrap (a + k) = a + k := aF (by omega) (by omega);have w5 : i64.wrap (a + 2 * k + 2 * k) = a + 2 * k + 2 * k := aF (by omega) (by omega);rw [w4, w5]
    obtain ⟨X, Y, Bs', rfl⟩ : ∃ X Y Bs', Bs = X :: Y :: Bs' := by
     rcases uT Bs with rfl | ⟨X, rfl⟩ | h
     ·simp only [qv, qt] at hsl; omega
     ·have h1 := (hBs X (by simp)).1;simp only [qo, qv, qm] at hsl; omega
     ·exact h
    obtain ⟨hXl, hXs⟩ := hBs X (by simp);obtain ⟨hYl, hYs⟩ := hBs Y (by simp);have nx : X ≠ [] := fun h => by subst h; simp at hXl; omega
    have ny : Y ≠ [] := fun h => by subst h; simp at hYl; omega
    have e1 : P ++ (B2.flatten ++ ((X :: Y :: Bs').flatten ++ C) ++ R) = (P ++ B2.flatten) ++ (X ++ (Y ++ (Bs'.flatten ++ C ++ R))) := by simp
    have := zi4 hc lo hi nl hlen (2 * k + 1).toNat (P ++ B2.flatten) X Y (Bs'.flatten ++ C ++ R) a (a + k) (a + 2 * k) a0 (by rw [qb]; omega) (by omega) (by omega) nx ny (by omega) (by rw [<- e1]; exact hRs) hXs hYs (by omega);rw [e1];refine this.mono ?_;rintro r h' ⟨S1, rfl, rfl, s1, k1⟩;have k1l := k1.len;rw [qb] at k1l;refine ⟨_, ⟨rfl, rfl⟩, ⟨trivial, ⟨rfl, rfl, hl1 (by simp only [qb]; omega)⟩, trivial⟩, rfl, ⟨rfl, rfl, by omega, B2 ++ [S1], Bs', C, by simp, zi5 hB2 (by omega) s1, fun B hB => hBs B (by simp [hB]), hCs, hCk, by simp only [qav, qo, qv, qm, qb]; omega, ?_⟩, by dsimp only; omega⟩;refine hst.trans ?_;have := (Stab.refl (key := key) B2.flatten).app (k1.app (Stab.refl (Bs'.flatten ++ C)));simpa using this
   ·simp only [aB] at hc3;have w4 : i64.wrap (a + k) = a + k := aF (by omega) (by omega);rw [w4];refine aC (fun hc4 => ?_) (fun hc4 => ?_)
    ·simp only [aB] at hc4
     obtain ⟨X, rfl⟩ : ∃ X, Bs = [X] := by
      rcases uT Bs with rfl | h | ⟨X, Y, Bs', rfl⟩
      ·simp only [qv, qt] at hsl; omega
      ·exact h
      ·have h1 := (hBs X (by simp)).1;have h2 := (hBs Y (by simp)).1;simp only [qo, qb] at hsl;omega
     obtain ⟨hXl, hXs⟩ := hBs X (by simp);have nx : X ≠ [] := fun h => by subst h; simp at hXl; omega
     simp only [qo, qv, qm] at hsl hst;have ny : C ≠ [] := fun h => by subst h; simp only [qt] at hsl; omega
     have e1 : P ++ (B2.flatten ++ ([X].flatten ++ C) ++ R) = (P ++ B2.flatten) ++ (X ++ (C ++ R)) := by simp
     have := zi4 hc lo hi nl hlen (2 * k + 1).toNat (P ++ B2.flatten) X C R a (a + k) n a0 (by rw [qb]; omega) (by omega) (by omega) nx ny (by omega) (by rw [<- e1]; exact hRs) hXs hCs (by omega);rw [e1];refine this.mono ?_;rintro r h' ⟨S1, rfl, rfl, s1, k1⟩;have k1l := k1.len;rw [qb] at k1l;exact ⟨_, ⟨rfl, rfl⟩, ⟨trivial, ⟨rfl, rfl, hl1 (by simp only [qb]; omega)⟩, trivial⟩, rfl, ⟨by omega, B2, S1, by simp, hB2, s1, by omega, hst.trans ((Stab.refl _).app k1)⟩, by dsimp only; omega⟩
    ·simp only [aB] at hc4
     have hCs2 : Srtd key (Bs.flatten ++ C) /\ ((Bs.flatten ++ C).length : Int) < 2 * k := by
      rcases uT Bs with rfl | ⟨X, rfl⟩ | ⟨X, Y, Bs', rfl⟩
      ·exact ⟨by simpa using hCs, by simp; omega⟩
      ·have h1 := hBs X (by simp);simp only [qo, qv, qm] at hsl ⊢;have hC0 : C = [] := List.length_eq_zero_iff.1 (by omega);subst hC0;exact ⟨by simpa using h1.2, by simp; omega⟩
      ·exfalso;have h1 := (hBs X (by simp)).1;have h2 := (hBs Y (by simp)).1;simp only [qo, qb] at hsl;omega
     exact ⟨rfl, ⟨by omega, B2, Bs.flatten ++ C, by simp, hB2, hCs2.1, hCs2.2, hst⟩, by dsimp only; omega⟩
  ·simp only [aB] at hc2
   have hz : Srtd key (Bs.flatten ++ C) := by
    rcases uT Bs with rfl | ⟨X, rfl⟩ | ⟨X, Y, Bs', rfl⟩
    ·simpa using hCs
    ·have h1 := hBs X (by simp);simp only [qo, qv, qm] at hsl ⊢;have hC0 : C = [] := List.length_eq_zero_iff.1 (by omega);subst hC0;simpa using h1.2
    ·exfalso;have h1 := (hBs X (by simp)).1;have h2 := (hBs Y (by simp)).1;simp only [qo, qb] at hsl;omega
   exact ⟨Bs.flatten ++ C, rfl, rfl, hz, hst⟩
theorem zs4 (hc : jS T key) (lo hi : Nat) (nl : Bool) (P S R : List Int) (hP : P.length = lo) (hS : hi = lo + S.length) (hr : R32 (P ++ (S ++ R))) (hlen : hi < 1000000000000) :
 ACall qa 110 [.sub 0 lo hi, .fn 111 [.box 1 0]] (jU nl T (aA (P ++ (S ++ R)))) (jT key nl T P S R) := by
 refine zpb _ _ _ _ _ ?_;unfold zfr;refine (zs3 hc lo hi nl P S R hP hS hr hlen).mono ?_;rintro r h' ⟨S1, rfl, rfl, s1, k1⟩;exact ⟨_, ⟨rfl, rfl⟩, ⟨trivial, ⟨rfl, rfl, by have := k1.len; simp; omega⟩, trivial⟩, S1, rfl, rfl, s1, k1⟩
end
section
variable {Z : World -> (Nat -> Prop) -> (Nat -> Pl) -> Hp -> Prop} {key : Int -> Int} {nl : Bool} {T : PV} {l : Nat}
def YQ (key : Int -> Int) (L : List Int) (f i : Nat) (L' : List Int) : Prop := ∃ S', L' = L.take f ++ (S' ++ L.drop i) /\ Srtd key S' /\ Stab key ((L.take i).drop f) S'
def za1 (Z : World -> (Nat -> Prop) -> (Nat -> Pl) -> Hp -> Prop) (key : Int -> Int) (nl : Bool) (T : PV) (l N0 : Nat) : Prop :=
 ∀ (w : World) (I : Nat -> Prop) (G : Nat -> Pl) (L : List Int) (f i : Nat), HRel w I G (aN nl T (aA L)) -> Z w I G (aN nl T (aA L)) -> f + 1 < i -> i <= L.length -> R32 L -> L.length < 1000000000000 -> L.length = N0 ->
  ∃ fn tmps assign body, (Instr.yield l #[.int .i64 f, .int .i64 i]).run qa w = .ok (.round l fn tmps assign body) w /\ RoundIn Fence.wide 0 qa l fn tmps assign body w fun e w' =>
   e = .returned (.bool true) /\ ∃ L' I' G', YQ key L f i L' /\ HRel w' I' G' (aN nl T (aA L')) /\ Keeps w I w' I' /\ Like G G' (aN nl T (aA L)) (aN nl T (aA L')) /\ Z w' I' G' (aN nl T (aA L'))
def o8 (ops : Array Oper) : Oper := ops.toList.getD 8 default
theorem e6a (y : Value) (es : List (List PV)) (i f : Int) (K : Env -> Hp -> Prop) : cD qa (fun _ => none) 39 (cN (dM Tryz.f132)).toList ((cN (dM Tryz.f132)).toList.take 8) (eM y i f) (aN nl T es) K =
 K ((35, LV.spec 32 true (.pv (.int .i64 i))) :: (34, LV.spec 32 true (.pv (.int .i64 f))) :: (33, LV.spec 32 true (.pv (.raw y))) :: (32, .pv (.bool (decide (i64.wrap (i - f) > (1 : Int))))) :: (31, .pv (.bool (decide (i64.wrap (i - f) > (1 : Int))))) ::
  (30, .pv (.int .i64 (i64.wrap (i - f)))) :: (29, .pv (.int .i64 f)) :: (28, .pv (.int .i64 i)) :: eM y i f) (aN nl T es) := by kernel_rfl
theorem e6b (y : Value) (es : List (List PV)) (i f : Int) (K : Env -> Hp -> Prop) : cD qa (fun _ => none) 39 (cN (dM Tryz.f132)).toList ((cN (dM Tryz.f132)).toList.drop 9) ((36, .pv (.bool true)) :: (32, .pv (.bool true)) :: eM y i f) (aN nl T es) K =
 K ((38, .pv (.bool false)) :: (37, .spec 32 true (.pv (.bool false))) :: (36, .pv (.bool true)) :: (32, .pv (.bool true)) :: eM y i f) (aN nl T es) := by kernel_rfl
theorem e6c (y : Value) (es : List (List PV)) (i f : Int) (K : Env -> Hp -> Prop) : cD qa (fun _ => none) 39 (cN (dM Tryz.f132)).toList ((cN (dM Tryz.f132)).toList.drop 9) ((32, .pv (.bool false)) :: eM y i f) (aN nl T es) K =
 K ((38, .pv (.bool false)) :: (37, .pv .unit) :: (32, .pv (.bool false)) :: (32, .pv (.bool false)) :: eM y i f) (aN nl T es) := by kernel_rfl
theorem zs5 : dM Tryz.f132 = .region 6 (cN (dM Tryz.f132)) false := by kernel_rfl
theorem zs6 : (cN (dM Tryz.f132)).size = 11 /\ jN (cN (dM Tryz.f132)).toList = true /\ (cN (dM Tryz.f132)).toList.length = 11 /\ (cN (dM Tryz.f132))[8]? = some (o8 (cN (dM Tryz.f132))) /\
 (o8 (cN (dM Tryz.f132))).dst = some 36 /\ (o8 (cN (dM Tryz.f132))).guard = some (4, true) /\ (o8 (cN (dM Tryz.f132))).op = .call { callee := .value (.tmp 33), args := #[.tmp 34, .tmp 35], argTypes := #[3, 3] } /\
 ((cN (dM Tryz.f132))[4]?).bind (·.dst) = some 32 :=
 ⟨by kernel_rfl, by kernel_rfl, by kernel_rfl, by kernel_rfl, by kernel_rfl, by kernel_rfl, by kernel_rfl, by kernel_rfl⟩
theorem zs7 {F : Fence} {n : Nat} {P : Program} {ops : Array Oper} {Q : Exit -> Act -> World -> Prop} {i : Nat} {rest : List Nat} {a : Act} {w : World} {o : Oper} (ho : ops[i]? = some o)
 (h : if Region.wanted o (yielded ops a.tmps) then o.wpIn F n P a w (wpOpsIn F n P ops Q rest) Q else (∀ f, o.about P w a.eval = some f -> F.fn f) /\ wpOpsIn F n P ops Q rest (a.put o.dst undef) w) : wpOpsIn F n P ops Q (i :: rest) a w := by
 simp only [wpOpsIn, ho]; exact h
theorem zs8 {w : World} {I : Nat -> Prop} {G : Nat -> Pl} {h : Hp} {tm : Array Value} {s : Nat} {b : Bool} (hr : LRel w I G h (.pv (.bool b)) (tm.getD s undef)) : tm[s]? = some (.bool b) := by
 have := hr.bool_eq;rw [qu] at this;cases hx : tm[s]? with
 | none => rw [hx] at this; simp [undef] at this
 | some v => rw [hx] at this; simpa using this
theorem LRel.raw_eq {w : World} {I : Nat -> Prop} {G : Nat -> Pl} {h : Hp} {v cv : Value} (hr : LRel w I G h (.pv (.raw v)) cv) : cv = v := by cases hr with | pv _ _ h1 => cases h1; rfl
theorem zs9 {N0 : Nat} (hY : za1 Z key nl T l N0) (hZ : ∀ w I G h w' I' G' h', Z w I G h -> HRel w I G h -> HRel w' I' G' h' -> TrN 5 w I G h w' I' G' h' -> Z w' I' G' h') (L : List Int) (f i : Nat) (hf : f <= i) (hi : i <= L.length) (hr : R32 L) (hL : L.length < 1000000000000) (hN : L.length = N0) :
 CodeZ Z qa 39 (dM Tryz.f132) (eM (.func (.yield l) #[] #[]) i f) (aN nl T (aA L)) fun x e h => ∃ L', x = .normal /\ (if f + 1 < i then YQ key L f i L' else L' = L) /\ e = (38, .pv (.bool false)) :: eM (.func (.yield l) #[] #[]) i f /\ h = aN nl T (aA L') := by
 intro w I G a Qx hs hz hq;obtain ⟨q1, q2, q3, q4, q5, q6, q7, q8⟩ := zs6;rw [zs5];have ea := e6a (nl := nl) (T := T) (.func (.yield l) #[] #[]) (aA L) i f;have eb := fun es => e6b (nl := nl) (T := T) (.func (.yield l) #[] #[]) es i f;have ec := e6c (nl := nl) (T := T) (.func (.yield l) #[] #[]) (aA L) i f;generalize cN (dM Tryz.f132) = O at *;generalize o8 O = o at *;have ww : i64.wrap ((i : Int) - f) = (i : Int) - f := aF (by omega) (by omega);rw [ww] at ea;refine wp_mono (Q := fun x a' w' => x = .normal /\ ∃ L' I' G', (if f + 1 < i then YQ key L f i L' else L' = L) /\ SRel w' I' G' ((38, .pv (.bool false)) :: eM (.func (.yield l) #[] #[]) i f) (aN nl T (aA L')) 39 a' /\ a'.defers = a.defers /\ Z w' I' G' (aN nl T (aA L'))) ((wpIn_wide (n := 0)).1 (wpIn_region (F := wd none) ?_)) ?_
 rotate_left
 ·rintro x a' w' ⟨rfl, L', I', G', h1, h2, h3, h4⟩;exact hq .normal _ _ w' I' G' a' ⟨L', rfl, h1, rfl, rfl⟩ h2 h3 h4
 rw [q1, show List.range 11 = qby 0 8 ++ (8 :: qby 9 2) from rfl];refine tY ?_;rw [show (8 : Nat) = (O.toList.take 8).length by simp [q3]];have hsuf : ∀ j, j < (O.toList.drop 9).length -> (O.toList.drop 9)[j]? = O[9 + j]? := fun j _ => by rw [qaq]; simp
 have hl2 : (O.toList.drop 9).length = 2 := by simp [q3]
 refine yG (ro := none) q2 (fun j hj => ?_) (by rw [ea]; exact ⟨rfl, rfl⟩ : cD qa (fun _ => none) 39 O.toList (O.toList.take 8) _ _ (fun e' h' => e' = _ /\ h' = aN nl T (aA L))) hs (fun a w h => nomatch h.1) ?_
 ·rw [qbs, if_pos (by simp only [qi] at hj; omega)]; simp
 rintro _ _ w1 I1 G1 a1 ⟨rfl, rfl⟩ hs1 hd1 ht1;rw [show (O.toList.take 8).length = 8 by simp [q3]];have hz1 := hZ _ _ _ _ _ _ _ _ hz hs.hh hs1.hh ht1.toN;have h32 := zs8 (hs1.he 32 _ rfl)
 have hyl : yielded O a1.tmps 4 = some (decide ((i : Int) - f > 1)) := by
  unfold yielded;rw [q8]; simp [h32]
 have hwd : Region.wanted o (yielded O a1.tmps) = decide ((i : Int) - f > 1) := by unfold Region.wanted; rw [q6]; simp [hyl]
 show wpOpsIn (wd none) 0 qa O _ (8 :: qby 9 2) a1 w1;refine zs7 q4 ?_;rw [hwd];have hdst : iT 39 o = true := by unfold iT; rw [q5]; rfl
 by_cases hc : f + 1 < i
 ·have hd' : decide ((i : Int) - f > 1) = true := by simp; omega
  rw [hd'] at hs1 h32 ⊢;rw [if_pos rfl];refine ⟨fun _ _ => trivial, ?_⟩;have h32' : a1.tmps.getD 32 undef = .bool true := (hs1.he 32 _ rfl).bool_eq;have v33 := ((hs1.he 33 _ rfl).1 h32').raw_eq;have v34 := ((hs1.he 34 _ rfl).1 h32').int_eq;have v35 := ((hs1.he 35 _ rfl).1 h32').int_eq;obtain ⟨fn, tmps, assign, body, hy, hR⟩ := hY w1 I1 G1 L f i hs1.hh hz1 hc hi hr hL hN
  have hrun : (o.semAt none a1.eval).run qa w1 = .ok (.round l fn tmps assign body) w1 := by
   rw [Oper.semAt_none];unfold execOp;rw [q7];have e33 : a1.eval (.tmp 33) = .func (.yield l) #[] #[] := v33;have e34 : a1.eval (.tmp 34) = .int .i64 f := v34;have e35 : a1.eval (.tmp 35) = .int .i64 i := v35
   have hres : resolve a1.eval { callee := .value (.tmp 33), args := #[.tmp 34, .tmp 35], argTypes := #[3, 3] } o.type = pure { target := .fn (.yield l) #[], args := #[.int .i64 f, .int .i64 i] } := by
    simp [resolve, e33, e34, e35, Deferred.ofValue]
   simp only [hres, pure_bind];exact hy
  rw [hrun];refine ⟨(fun x => by cases x), hR.mono ?_⟩;rintro e w2 ⟨rfl, L', I2, G2, y1, y2, y3, y4, y5⟩
  have hs2 : SRel w2 I2 G2 ((36, .pv (.bool true)) :: (32, .pv (.bool true)) :: eM (.func (.yield l) #[] #[]) i f) (aN nl T (aA L')) 39 (a1.put o.dst (.bool true)) := by
   have s1 : SRel w1 I1 G1 ((32, .pv (.bool true)) :: eM (.func (.yield l) #[] #[]) i f) (aN nl T (aA L)) 39 a1 := hs1.le (LeE.le ⟨rfl, rfl, rfl, rfl, rfl, rfl, trivial⟩);obtain ⟨p1, p2⟩ := lL (v := .pv (.bool true)) hdst s1.hn y2 (s1.he.mono y3 y4) (.pv _ _ (.bool true));have : put o (.pv (.bool true)) ((32, .pv (.bool true)) :: eM (.func (.yield l) #[] #[]) i f) = (36, .pv (.bool true)) :: (32, .pv (.bool true)) :: eM (.func (.yield l) #[] #[]) i f := by unfold put; rw [q5]; rfl
   rwa [this] at p1
  have := yG (ro := none) (n := 0) (k := 9) q2 hsuf (by rw [eb]; exact ⟨rfl, rfl⟩ : cD qa (fun _ => none) 39 O.toList (O.toList.drop 9) _ _ (fun e' h' => e' = _ /\ h' = aN nl T (aA L'))) hs2 (Q := fun x a' w' => x = .normal /\ ∃ L' I' G', (if f + 1 < i then YQ key L f i L' else L' = L) /\ SRel w' I' G' ((38, .pv (.bool false)) :: eM (.func (.yield l) #[] #[]) i f) (aN nl T (aA L')) 39 a' /\ a'.defers = a.defers /\ Z w' I' G' (aN nl T (aA L'))) (fun a w h => nomatch h.1) (by
   rintro _ _ w3 I3 G3 a3 ⟨rfl, rfl⟩ hs3 hd3 ht3
   refine ⟨rfl, L', I3, G3, by rw [if_pos hc]; exact y1, hs3.le (LeE.le ⟨rfl, rfl, rfl, rfl, rfl, rfl, trivial⟩), hd3.trans ((by unfold Act.put; cases o.dst <;> rfl : (a1.put o.dst (.bool true)).defers = a1.defers).trans hd1), hZ _ _ _ _ _ _ _ _ y5 hs2.hh hs3.hh ht3.toN⟩)
  rw [hl2] at this;exact this
 ·have hd' : decide ((i : Int) - f > 1) = false := by simp; omega
  rw [hd'] at hs1 h32 ⊢;rw [if_neg (by simp)];refine ⟨fun _ _ => trivial, ?_⟩;have hlt : 36 < a1.tmps.size := by rw [hs1.hn]; omega
  have hs2 : SRel w1 I1 G1 ((32, .pv (.bool false)) :: eM (.func (.yield l) #[] #[]) i f) (aN nl T (aA L)) 39 (a1.put o.dst undef) := by
   have s1 : SRel w1 I1 G1 ((32, .pv (.bool false)) :: eM (.func (.yield l) #[] #[]) i f) (aN nl T (aA L)) 39 a1 := hs1.le (LeE.le ⟨rfl, rfl, rfl, rfl, rfl, rfl, trivial⟩);obtain ⟨p1, p2⟩ := lL (v := .bot) (cv := undef) hdst s1.hn s1.hh s1.he (.bot _);have : put o .bot ((32, .pv (.bool false)) :: eM (.func (.yield l) #[] #[]) i f) = (36, .bot) :: (32, .pv (.bool false)) :: eM (.func (.yield l) #[] #[]) i f := by unfold put; rw [q5]; rfl
   rw [this] at p1;exact p1.le (LeE.le ⟨rfl, rfl, rfl, rfl, rfl, rfl, trivial⟩)
  have := yG (ro := none) (n := 0) (k := 9) q2 hsuf (by rw [ec]; exact ⟨rfl, rfl⟩ : cD qa (fun _ => none) 39 O.toList (O.toList.drop 9) _ _ (fun e' h' => e' = _ /\ h' = aN nl T (aA L))) hs2 (Q := fun x a' w' => x = .normal /\ ∃ L' I' G', (if f + 1 < i then YQ key L f i L' else L' = L) /\ SRel w' I' G' ((38, .pv (.bool false)) :: eM (.func (.yield l) #[] #[]) i f) (aN nl T (aA L')) 39 a' /\ a'.defers = a.defers /\ Z w' I' G' (aN nl T (aA L'))) (fun a w h => nomatch h.1) (by
   rintro _ _ w3 I3 G3 a3 ⟨rfl, rfl⟩ hs3 hd3 ht3
   exact ⟨rfl, L, I3, G3, by rw [if_neg hc], hs3.le (LeE.le ⟨rfl, rfl, rfl, rfl, rfl, rfl, trivial⟩), hd3.trans ((by unfold Act.put; cases o.dst <;> rfl : (a1.put o.dst undef).defers = a1.defers).trans hd1), hZ _ _ _ _ _ _ _ _ hz1 hs2.hh hs3.hh ht3.toN⟩)
  rw [hl2] at this;exact this
end
end Go.Eng
namespace Go.Eng.Srt
open Go Go.Eng
section
variable (key : Int -> Int)
def eQ (x y : Int) : Bool := decide (key x ≠ 0) && decide (key x < key y)
def rL (x : Int) : List Int -> List Int
 | [] => [x]
 | y :: r => if eQ key x y = true then y :: rL x r else x :: y :: r
def ins (l : List Int) (x : Int) : List Int := (rL key x l.reverse).reverse
def cK (l : List Int) : List Int := l.foldl (ins key) []
inductive Eqv : List Int -> List Int -> Prop
 | refl (a : List Int) : Eqv a a
 | swap (u v w : List Int) (x y : Int) (hx : key x ≠ 0) (hy : key y ≠ 0) (hxy : key x ≠ key y) (h : Eqv (u ++ y :: x :: v) w) : Eqv (u ++ x :: y :: v) w
def cU : List Int -> Prop
 | x :: y :: r => (key y ≠ 0 -> key x <= key y) /\ cU (y :: r)
 | _ => True
end
variable {key : Int -> Int}
theorem oX {x y : Int} : eQ key x y = true ↔ key x ≠ 0 /\ key x < key y := by simp [eQ]
theorem uU {x y : Int} : eQ key x y = false ↔ key x = 0 ∨ key y <= key x := by
 simp only [eQ, Bool.and_eq_false_imp, aB, c6];constructor
 ·intro h; by_cases h0 : key x = 0
  ·exact .inl h0
  ·exact .inr (by have := h h0; omega)
 ·rintro (h | h) h0
  ·exact absurd h h0
  ·omega
theorem zi6 {x : Int} : ∀ {B A : List Int}, (∀ y ∈ B, eQ key x y = true) -> (A = [] ∨ ∃ z A', A = z :: A' /\ eQ key x z = false) -> rL key x (B ++ A) = B ++ x :: A
 | [], A, _, h => by
   rcases h with rfl | ⟨z, A', rfl, h⟩
   ·rfl
   ·simp [rL, h]
 | y :: B, A, hB, h => by
   rw [qw, rL, if_pos (hB y qac), zi6 (fun z hz => hB z (qau _ hz)) h]; rfl
theorem m9 {x : Int} {A B : List Int} (h1 : ∀ y ∈ B, eQ key x y = true) (h2 : A = [] ∨ ∃ A' z, A = A' ++ [z] /\ eQ key x z = false) : ins key (A ++ B) x = A ++ x :: B := by
 unfold ins;rw [qbp, zi6 (fun y hy => h1 y (List.mem_reverse.1 hy)) (h2.elim (fun e => .inl (by rw [e]; rfl)) fun ⟨A', z, e, h⟩ => .inr ⟨z, A'.reverse, by rw [e]; simp, h⟩)];simp
theorem za2 (l : List Int) (x : Int) : ∃ A B, l = A ++ B /\ (∀ y ∈ B, eQ key x y = true) /\ (A = [] ∨ ∃ A' z, A = A' ++ [z] /\ eQ key x z = false) := by
 have : ∀ r : List Int, ∃ B A, r = B ++ A /\ (∀ y ∈ B, eQ key x y = true) /\ (A = [] ∨ ∃ z A', A = z :: A' /\ eQ key x z = false) := by
  intro r
  induction r with
  | nil => exact ⟨[], [], rfl, (fun y hy => by cases hy), .inl rfl⟩
  | cons y r ih =>
    cases hp : eQ key x y with
    | true =>
      obtain ⟨B, A, e, h1, h2⟩ := ih;exact ⟨y :: B, A, by rw [e]; rfl, fun z hz => by rcases List.mem_cons.1 hz with rfl | hz; exact hp; exact h1 z hz, h2⟩
    | false => exact ⟨[], y :: r, rfl, (fun y hy => by cases hy), .inr ⟨y, r, rfl, hp⟩⟩
 obtain ⟨B, A, e, h1, h2⟩ := this l.reverse;refine ⟨A.reverse, B.reverse, by rw [<- qbp, <- e]; simp, fun y hy => h1 y (List.mem_reverse.1 hy), h2.elim (fun e => .inl (by rw [e]; rfl)) fun ⟨z, A', e, h⟩ => .inr ⟨A'.reverse, z, by rw [e]; simp, h⟩⟩
theorem zi7 {l : List Int} {x y : Int} (hx : key x ≠ 0) (hxy : key x < key y) : ins key (ins key l y) x = ins key (ins key l x) y := by
 obtain ⟨B1, B2, rfl, b1, b2⟩ := za2 (key := key) l y;obtain ⟨C1, C2, rfl, c1, c2⟩ := za2 (key := key) B1 x;have px : ∀ z ∈ B2, eQ key x z = true := fun z hz => oX.2 ⟨hx, by have := (oX.1 (b1 z hz)).2; omega⟩;rw [m9 b1 b2];have e1 : C1 ++ C2 ++ y :: B2 = C1 ++ (C2 ++ y :: B2) := by simp
 have e2 : C1 ++ C2 ++ B2 = C1 ++ (C2 ++ B2) := by simp
 rw [e1, m9 (B := C2 ++ y :: B2) (fun z hz => ?_) c2, e2, m9 (B := C2 ++ B2) (fun z hz => ?_) c2]
 ·have e3 : C1 ++ x :: (C2 ++ B2) = (C1 ++ x :: C2) ++ B2 := by simp
  rw [e3, m9 b1 (.inr ?_)]
  ·simp
  ·rcases C2.eq_nil_or_concat with rfl | ⟨D, z, rfl⟩
   ·exact ⟨C1, x, rfl, uU.2 (.inr (by omega))⟩
   ·refine ⟨C1 ++ x :: D, z, by simp, ?_⟩;rcases b2 with e | ⟨A', z', e, h⟩
    ·simp at e
    ·have : z = z' := by
      have := congrArg List.getLast? e;simp at this; exact this
     rw [this]; exact h
 ·rcases List.mem_append.1 hz with hz | hz
  ·exact c1 z hz
  ·exact px z hz
 ·rcases List.mem_append.1 hz with hz | hz
  ·exact c1 z hz
  ·rcases List.mem_cons.1 hz with rfl | hz
   ·exact oX.2 ⟨hx, hxy⟩
   ·exact px z hz
theorem zta {l : List Int} {x y : Int} (hx : key x ≠ 0) (hy : key y ≠ 0) (hxy : key x ≠ key y) : ins key (ins key l x) y = ins key (ins key l y) x := by
 rcases Int.lt_or_gt_of_ne hxy with h | h
 ·exact (zi7 hx h).symm
 ·exact zi7 hy h
theorem za3 (l : List Int) (x : Int) : cK key (l ++ [x]) = ins key (cK key l) x := by simp [cK]
theorem Eqv.trans {a b c : List Int} (h : Eqv key a b) (k : Eqv key b c) : Eqv key a c := by
 induction h with
 | refl a => exact k
 | swap u v w x y hx hy hxy h ih => exact .swap u v c x y hx hy hxy (ih k)
theorem Eqv.app {a b : List Int} (h : Eqv key a b) (p q : List Int) : Eqv key (p ++ (a ++ q)) (p ++ (b ++ q)) := by
 induction h with
 | refl a => exact .refl _
 | swap u v w x y hx hy hxy h ih =>
   have := Eqv.swap (p ++ u) (v ++ q) _ x y hx hy hxy (by simpa using ih)
   simpa using this
theorem Eqv.symm {a b : List Int} (h : Eqv key a b) : Eqv key b a := by
 induction h with
 | refl a => exact .refl _
 | swap u v w x y hx hy hxy h ih => exact ih.trans (.swap u v _ y x hy hx (Ne.symm hxy) (.refl _))
theorem ztb {a b : List Int} (h : Eqv key a b) : cK key a = cK key b := by
 induction h with
 | refl a => rfl
 | swap u v w x y hx hy hxy h ih =>
   rw [<- ih];simp only [cK, List.foldl_append, List.foldl_cons];rw [zta hx hy hxy]
theorem Eqv.len {a b : List Int} (h : Eqv key a b) : a.length = b.length := by
 induction h with
 | refl a => rfl
 | swap u v w x y hx hy hxy h ih => rw [<- ih]; simp
theorem Eqv.mem {a b : List Int} (h : Eqv key a b) {z : Int} : z ∈ a ↔ z ∈ b := by
 induction h with
 | refl a => exact Iff.rfl
 | swap u v w x y hx hy hxy h ih => rw [<- ih]; simp only [qak, qap]; exact or_congr_right ⟨fun h => h.elim (fun e => .inr (.inl e)) (fun h => h.elim .inl fun h => .inr (.inr h)), fun h => h.elim (fun e => .inr (.inl e)) (fun h => h.elim .inl fun h => .inr (.inr h))⟩
theorem Eqv.ahead {x : Int} (hx : key x ≠ 0) : ∀ {B : List Int} (q : List Int), (∀ y ∈ B, key y ≠ 0 /\ key y ≠ key x) -> Eqv key (B ++ x :: q) (x :: (B ++ q))
 | [], q, _ => .refl _
 | y :: B, q, h => by
   have h1 := Eqv.ahead hx (B := B) q fun z hz => h z (qau _ hz);have h2 := h1.app [y] [];simp only [qm, qw, qaa] at h2;obtain ⟨hy, hyx⟩ := h y qac;exact h2.trans (.swap [] (B ++ q) _ y x hy hx hyx (.refl _))
theorem ztc (hk : ∀ x, 0 <= key x) (l : List Int) (x : Int) : Eqv key (l ++ [x]) (ins key l x) := by
 obtain ⟨A, B, rfl, h1, h2⟩ := za2 (key := key) l x;rw [m9 h1 h2];by_cases hB : B = []
 ·subst hB; simp; exact .refl _
 ·obtain ⟨y, hy⟩ := List.exists_mem_of_ne_nil B hB;have hx := (oX.1 (h1 y hy)).1;have := (Eqv.ahead hx (B := B) [] fun z hz => by have := (oX.1 (h1 z hz)).2; have := hk x; omega).app A [];simpa using this
theorem iO {p : List Int -> Prop} (h0 : p []) (h1 : ∀ l x, p l -> p (l ++ [x])) (l : List Int) : p l := by
 have : ∀ r : List Int, p r.reverse := by
  intro r
  induction r with
  | nil => exact h0
  | cons x r ih => rw [List.reverse_cons]; exact h1 _ _ ih
 have := this l.reverse;rwa [List.reverse_reverse] at this
theorem uV (hk : ∀ x, 0 <= key x) (l : List Int) : Eqv key l (cK key l) := by
 induction l using iO with
 | h0 => exact .refl _
 | h1 l x ih =>
   rw [za3];have := ih.app [] [x];exact Eqv.trans (by simpa using this) (ztc hk _ x)
theorem nA : ∀ {A B : List Int}, cU key (A ++ B) ↔ cU key A /\ cU key B /\ (∀ z x, A.getLast? = some z -> B.head? = some x -> key x ≠ 0 -> key z <= key x)
 | [], B => by simp [cU]
 | [a], [] => by simp [cU]
 | [a], b :: B => by simp [cU, and_comm]
 | a :: c :: A, B => by
   have := nA (A := c :: A) (B := B);simp only [qw, cU] at this ⊢;rw [this, List.getLast?_cons_cons, and_assoc]
theorem ztd {l : List Int} (h : cU key l) : cK key l = l := by
 revert h
 induction l using iO with
 | h0 => exact fun _ => rfl
 | h1 l x ih =>
   intro h;obtain ⟨q1, q2, q3⟩ := nA.1 h;rw [za3, ih q1]
   have := m9 (key := key) (x := x) (A := l) (B := []) (fun y hy => by cases hy) (by
    rcases l.eq_nil_or_concat with rfl | ⟨D, z, rfl⟩
    ·exact .inl rfl
    ·refine .inr ⟨D, z, by simp, uU.2 ?_⟩;by_cases hx : key x = 0
     ·exact .inl hx
     ·exact .inr (q3 z x (by simp) rfl hx))
   simpa using this
theorem zi8 : ∀ {S' S : List Int}, Stab key S S' -> (∀ x ∈ S, key x ≠ 0) -> Eqv key S S'
 | [], S, h, _ => by have := h.len; cases S with | nil => exact .refl _ | cons => simp at this
 | y :: r, S, h, h0 => by
   have hf := h.2 (key y);rw [qah, if_pos (by simp)] at hf;obtain ⟨A, B, rfl, hA, hB⟩ := List.filter_eq_cons_iff.1 hf;have hy : key y ≠ 0 := h0 y (by simp);have hA' : ∀ z ∈ A, key z ≠ key y := fun z hz => by have := hA z hz; simpa using this
   have e1 := Eqv.ahead hy (B := A) B fun z hz => ⟨h0 z (by simp [hz]), hA' z hz⟩
   have hs : Stab key (A ++ B) r := by
    refine ⟨(qcd y).1 ((List.perm_middle.symm).trans h.1), fun c => ?_⟩;have := h.2 c;rw [qaj, qah, qah] at this;rw [qaj];by_cases hc : key y = c
    ·have hn : A.filter (fun x => decide (key x = c)) = [] := List.filter_eq_nil_iff.2 fun z hz => by simp only [aB]; intro e; exact hA' z hz (e.trans hc.symm)
     rw [hn] at this ⊢;simp only [hc, decide_true, if_true, qaa, List.cons.injEq, true_and] at this;exact this
    ·simp only [hc, decide_false, qbt, if_false] at this;exact this
   have e2 := (zi8 hs fun z hz => h0 z (by rcases List.mem_append.1 hz with hz | hz <;> simp [hz])).app [y] [];simp only [qm, qw, qaa] at e2;exact e1.trans e2
theorem zi9 : ∀ {S : List Int}, Srtd key S -> cU key S
 | [], _ => trivial
 | [a], _ => trivial
 | a :: b :: S, h => ⟨fun _ => (List.pairwise_cons.1 h).1 b qac, zi9 (List.pairwise_cons.1 h).2⟩
theorem uW (L : List Int) {i j : Nat} (hij : i <= j) (hj : j <= L.length) : L = L.take i ++ ((L.take j).drop i ++ L.drop j) /\ (L.take i).length = i /\ ((L.take j).drop i).length = j - i := by
 refine ⟨?_, by rw [qi]; omega, by rw [qai, qi]; omega⟩;have h1 : L = L.take j ++ L.drop j := (qj j L).symm;have h2 : L.take j = (L.take j).take i ++ (L.take j).drop i := (qj i _).symm;rw [List.take_take, Nat.min_eq_left hij] at h2;rw [<- qg, <- h2]; exact h1
theorem zte (hk : ∀ x, 0 <= key x) {L : List Int} {i j : Nat} (hij : i <= j) (hj : j <= L.length) (hb : i = 0 ∨ key (L.getD (i - 1) 0) = 0) (hnz : ∀ k, i <= k -> k < j -> key (L.getD k 0) ≠ 0) (hend : j = L.length ∨ key (L.getD j 0) = 0)
 (hc : cU key (L.take i)) {S' : List Int} (hs : Srtd key S') (hst : Stab key ((L.take j).drop i) S') :
 Eqv key L (L.take i ++ (S' ++ L.drop j)) /\ cU key ((L.take i ++ (S' ++ L.drop j)).take (j + 1)) /\ (j < L.length -> key ((L.take i ++ (S' ++ L.drop j)).getD j 0) = 0) := by
 obtain ⟨c1, c2, c3⟩ := uW L hij hj;have hl : S'.length = j - i := by rw [<- hst.len]; exact c3
 refine ⟨?_, ?_, fun hlt => ?_⟩
 ·have hm : ∀ x ∈ (L.take j).drop i, key x ≠ 0 := fun x hx => by
   obtain ⟨k, hk1, hk2⟩ := qbe hx;have := hnz (i + k) (by omega) (by omega);rw [List.getElem_drop, qbw] at hk2;have hl2 : i + k < L.length := by omega
   simp only [qad, qag hl2, qca, hk2] at this;exact this
  have := (zi8 hst hm).app (L.take i) (L.drop j);rwa [<- c1] at this
 ·rw [qcb, c2, qd (by omega), qcb, hl, qd (by omega : S'.length <= j + 1 - i), show j + 1 - i - (j - i) = 1 by omega]
  have hR : ∀ x, ((L.drop j).take 1).head? = some x -> key x = 0 := fun x hx => by
   rcases hend with e | e
   ·rw [qbk (by omega)] at hx; cases hx
   ·rcases qaw j L.length with h' | h'
    ·rw [qae h'] at hx;simp only [List.take_succ_cons, List.head?_cons, Option.some.injEq] at hx;rw [<- hx];simpa [qad, qag h'] using e
    ·rw [qbk h'] at hx; cases hx
  refine nA.2 ⟨hc, nA.2 ⟨zi9 hs, ?_, fun z x _ hx h0 => absurd (hR x hx) h0⟩, fun z x hz hx h0 => ?_⟩
  ·cases L.drop j with
   | nil => trivial
   | cons a r => trivial
  ·have : key z = 0 := by
    rcases hb with rfl | hb
    ·simp at hz
    ·rw [List.getLast?_eq_getElem?, c2] at hz;by_cases h0 : i = 0
     ·subst h0; simp at hz
     ·rw [qbs, if_pos (by omega)] at hz;simpa [qad, hz] using hb
   rw [this]; exact hk x
 ·rcases hend with e | e
  ·omega
  ·rw [<- qg];simp only [qad] at e ⊢;rw [qn (by simp only [qb]; omega), qb, c2, hl, qaq, show j + (j - (i + (j - i))) = j by omega];exact e
theorem ztf {S : List Int} (h : S.length <= 1) : Srtd key S := by
 match S, h with
 | [], _ => exact List.Pairwise.nil
 | [a], _ => exact qbi _ _
end Go.Eng.Srt
namespace Go.Eng
open Go Go.Proofs Go.Eng.Rows Go.Eng.Srt
section
variable {Z : World -> (Nat -> Prop) -> (Nat -> Pl) -> Hp -> Prop} {key : Int -> Int} {nl : Bool} {T : PV} {l : Nat} {y : Value} {es : List (List PV)}
theorem eI0 (Q : Qt) : dF qa (fun _ => none) 5 39 lM (fun _ => none) (dP (cM Tryz.f132)) (fW [.pv (.raw y), .box 4 0, .box 3 0] 0) (aN nl T es) Q = Q .normal (eN y 0) (aN nl T es) := by kernel_rfl
theorem eI1 (i : Int) (Q : Qt) : dF qa (fun _ => none) 5 39 lM (fun _ => none) (dP (cL Tryz.f132)) (eN y i) (aN nl T es) Q =
 if decide (i < (es.length : Int)) = true then Q .normal [(0, .pv (.raw y)), (1, .box 4 0), (2, .box 3 0), (4, .pv (.int .i64 i)), (9, .pv (.bool (decide (i < (es.length : Int)))))] (aN nl T es)
 else Q (.exit 0) [(0, .pv (.raw y)), (1, .box 4 0), (2, .box 3 0), (4, .pv (.int .i64 i)), (9, .pv (.bool (decide (i < (es.length : Int)))))] (aN nl T es) := by kernel_rfl
theorem eI3 (i : Int) (Q : Qt) : dF qa (fun _ => none) 5 39 lM (fun _ => none) (dP (cB Tryz.f132)) (eN y i) (aN nl T es) Q = Q .normal (eM y i i) (aN nl T es) := by kernel_rfl
theorem eI2 (i : Int) (Q : Qt) : dF qa (fun _ => none) 5 39 lM (fun _ => none) (cX (cX (cL Tryz.f132))) (eN y i) (aN nl T es) Q = Q .normal (eN y (i64.wrap (i + 1))) (aN nl T es) := by kernel_rfl
def za4 (y : Value) (i f : Int) (b : Bool) : Env := [(0, .pv (.raw y)), (1, .box 4 0), (2, .box 3 0), (4, .pv (.int .i64 i)), (5, .pv (.int .i64 f)), (25, .pv (.bool b))]
theorem eI4 (i f : Int) (J : Int -> Prop) (μ : Int -> Nat) (Q : Qt) : dF qa (fun _ => none) 5 39 lM (fun zz_ => match zz_ with | 4 => some ⟨Int × Unit, fun s => (eM y s.1 f, aN nl T es), fun _ s => J s.1, fun s => μ s.1, fun e h => (gI e 4, ()), [], [0, 1, 2, 4, 5], [], fun p => ∀ (x4 : Int), p (x4, ()), fun p h s => h s.1⟩ | _ => none) (dP (cX (cB Tryz.f132))) (eM y i f) (aN nl T es) Q =
 ((SameSt (eM y i f, aN nl T es) (eM y i f, aN nl T es) /\ J i) /\ ∀ (x4 : Int), J x4 -> if decide (x4 < (es.length : Int)) = true then aI es x4 1 /\ ∃ (n : Int), (qc 0 (es.getD x4.toNat [])).head? = some (.int .i32 n) /\ PCall qa 71 [T, .int .i32 n] fun (v : PV) => ∃ (n1 : Int), v = .int .i64 n1 /\
  if (n1 != (0 : Int)) = true then SameSt (eM y (i64.wrap (x4 + 1)) f, aN nl T es) (eM y (i64.wrap (x4 + 1)) f, aN nl T es) /\ J (i64.wrap (x4 + 1)) /\ μ (i64.wrap (x4 + 1)) < μ x4
  else Q .normal (za4 y x4 f (n1 != (0 : Int))) (aN nl T es)
   else Q .normal (za4 y x4 f false) (aN nl T es)) := by kernel_rfl
theorem za5 : cM Tryz.f132 = .seq (dP (cM Tryz.f132)) (.block 0 (.loop (cL Tryz.f132))) /\
 cL Tryz.f132 = .seq (dP (cL Tryz.f132)) (.seq (.block 1 (cB Tryz.f132)) (cX (cX (cL Tryz.f132)))) /\
 cB Tryz.f132 = .seq (dP (cB Tryz.f132)) (.seq (dP (cX (cB Tryz.f132))) (.seq (dM Tryz.f132) (.cond (.tmp 38) .ret .skip))) := ⟨by kernel_rfl, by kernel_rfl, by kernel_rfl⟩
theorem CodeZ.le {P : Program} {N : Nat} {c : Code} {e e' : Env} {h : Hp} {Q : Qt} (hl : LeE e' e) (hK : CodeZ Z P N c e' h Q) : CodeZ Z P N c e h Q :=
 fun w I G a Qx hs hz hq => hK w I G a Qx (hs.le hl.le) hz hq
theorem ztg (hk : ∀ x, 0 <= key x) (hT : ∀ r : Int, (-2147483648 <= r /\ r <= 2147483647) -> PCall qa 71 [T, .int .i32 r] fun v => v = .int .i64 (key r)) 
 (hZ : ∀ w I G h w' I' G' h', Z w I G h -> HRel w I G h -> HRel w' I' G' h' -> TrN 5 w I G h w' I' G' h' -> Z w' I' G' h') (L0 : List Int) (hY : za1 Z key nl T l L0.length) (hr : R32 L0) (hL : L0.length < 1000000000000) :
 CodeZ Z qa 39 (cM Tryz.f132) (fW [.pv (.raw (.func (.yield l) #[] #[])), .box 4 0, .box 3 0] 0) (aN nl T (aA L0)) fun x e h => x = .normal /\ h = aN nl T (aA (cK key L0)) := by
 obtain ⟨y, hy⟩ : ∃ y : Value, y = .func (.yield l) #[] #[] := ⟨_, rfl⟩;rw [za5.1, <- hy];refine CodeZ.seq (CodeZ.of (n0 := 5) hZ (iI (Eq.mpr (eI0 _) ?_)));show CodeZ Z qa 39 (.block 0 (.loop (cL Tryz.f132))) (eN y 0) (aN nl T (aA L0)) _;refine CodeZ.block (CodeZ.loop (σ := Nat × List Int) (fun s => (eN y s.1, aN nl T (aA s.2))) (fun s => s.1 <= L0.length + 1 /\ Eqv key L0 s.2 /\ cU key (s.2.take s.1) /\ (s.1 = 0 ∨ L0.length < s.1 ∨ key (s.2.getD (s.1 - 1) 0) = 0)) (fun s => L0.length + 1 - s.1) (0, L0) (LeE.le ⟨rfl, rfl, rfl, rfl, trivial⟩) rfl ⟨by omega, .refl _, by simp [cU], .inl rfl⟩ ?_);rintro ⟨i, L⟩ ⟨hi, hq, hc, hb⟩;have hlen := hq.len;have hr' : R32 L := fun x hx => hr x (hq.mem.2 hx);dsimp only at hi hq hc hb hlen ⊢;rw [za5.2.1];refine CodeZ.seq (CodeZ.of (n0 := 5) hZ (iI (Eq.mpr (eI1 _ _) ?_)));by_cases hlt : i < L.length
 ·rw [if_pos (by simpa using hlt)]
  show CodeZ Z qa 39 (.seq (.block 1 (cB Tryz.f132)) (cX (cX (cL Tryz.f132)))) _ _ _;refine CodeZ.le (e' := eN y i) ⟨rfl, rfl, rfl, rfl, trivial⟩ (CodeZ.seq (CodeZ.block ?_));rw [za5.2.2];refine CodeZ.seq (CodeZ.of (n0 := 5) hZ (iI (Eq.mpr (eI3 _ _) ?_)));show CodeZ Z qa 39 (.seq (dP (cX (cB Tryz.f132))) (.seq (dM Tryz.f132) (.cond (.tmp 38) .ret .skip))) (eM y i i) _ _;refine CodeZ.seq (CodeZ.of (n0 := 5) hZ (iI (Eq.mpr (eI4 _ _ (fun x => ∃ j : Nat, x = j /\ i <= j /\ j <= L.length /\ ∀ k, i <= k -> k < j -> key (L.getD k 0) ≠ 0) (fun x => ((L.length : Int) - x).toNat) _) ?_)));refine ⟨⟨rfl, i, rfl, ql _, by omega, fun k h1 h2 => by omega⟩, ?_⟩;rintro _ ⟨j, rfl, hij, hj, hnz⟩
  -- what follows the row of marks
  have rest : ∀ b, (j = L.length ∨ key (L.getD j 0) = 0) -> CodeZ Z qa 39 (.seq (dM Tryz.f132) (.cond (.tmp 38) .ret .skip)) (za4 y j i b) (aN nl T (aA L)) fun x e h => match x with
   | .normal => CodeZ Z qa 39 (cX (cX (cL Tryz.f132))) e h fun x e h => match x with
     | .normal => ∃ s' : Nat × List Int, (∀ i v, get (eN y s'.1) i = some v -> get e i = some v) /\ h = aN nl T (aA s'.2) /\ (s'.1 <= L0.length + 1 /\ Eqv key L0 s'.2 /\ cU key (s'.2.take s'.1) /\ (s'.1 = 0 ∨ L0.length < s'.1 ∨ key (s'.2.getD (s'.1 - 1) 0) = 0)) /\ L0.length + 1 - s'.1 < L0.length + 1 - i
     | _ => False
   | _ => False := fun b hend => by
   refine CodeZ.le (e' := eM y j i) ⟨rfl, rfl, rfl, rfl, rfl, trivial⟩ (CodeZ.seq ?_);rw [hy];refine (zs9 hY hZ L i j hij hj hr' (by omega) hlen.symm).mono ?_;rintro _ _ _ ⟨L', rfl, hL', rfl, rfl⟩;refine CodeZ.cond (t := false) rfl ?_;simp only [qbt, if_false];refine CodeZ.skip ?_;rw [<- hy];refine CodeZ.le (e' := eN y j) ⟨rfl, rfl, rfl, rfl, trivial⟩ (CodeZ.of (n0 := 5) hZ (iI (Eq.mpr (eI2 _ _) ?_)));have wj : i64.wrap ((j : Int) + 1) = ((j + 1 : Nat) : Int) := by rw [aF (by omega) (by omega)]; omega
   rw [wj]
   have hb' : i = 0 ∨ key (L.getD (i - 1) 0) = 0 := by
    rcases hb with h | h | h
    ·exact .inl h
    ·omega
    ·exact .inr h
   obtain ⟨S', hs, hst, rfl⟩ : ∃ S', Srtd key S' /\ Stab key ((L.take j).drop i) S' /\ L' = L.take i ++ (S' ++ L.drop j) := by
    by_cases h1 : i + 1 < j
    ·rw [if_pos h1] at hL';obtain ⟨S', e, h2, h3⟩ := hL';exact ⟨S', h2, h3, e⟩
    ·rw [if_neg h1] at hL';obtain ⟨c1, c2, c3⟩ := uW L hij hj;exact ⟨_, ztf (by omega), Stab.refl _, hL'.trans c1⟩
   obtain ⟨g1, g2, g3⟩ := zte hk hij hj hb' hnz hend hc hs hst;refine ⟨(j + 1, _), LeE.le ⟨rfl, rfl, rfl, rfl, trivial⟩, rfl, ⟨by dsimp only; omega, hq.trans g1, g2, ?_⟩, by dsimp only; omega⟩;rcases qaw j L.length with h | h
   ·exact .inr (.inr (g3 h))
   ·exact .inr (.inl (by dsimp only; omega))
  by_cases hjl : j < L.length
  ·rw [if_pos (by simpa using hjl)]
   refine ⟨bT (enc := fun n => [PV.int .i32 n]) (l := L) (fun _ => rfl) (by omega) (by omega), L.getD j 0, by rw [qam, ze7 hjl]; rfl, (hT _ (hr' _ (qbl (rJ hjl)))).mono ?_⟩;rintro _ rfl;refine ⟨_, rfl, ?_⟩;by_cases hz : key (L.getD j 0) = 0
   ·rw [if_neg (by simpa using hz)]
    exact (rest _ (.inr hz)).mono fun x e h hx => by cases x <;> first | exact hx.elim | exact CodeZ.mono hx fun x e h hx => (by cases x <;> first | exact hx | exact hx.elim)
   ·rw [if_pos (by simpa using hz)]
    have wj : i64.wrap ((j : Int) + 1) = ((j + 1 : Nat) : Int) := by rw [aF (by omega) (by omega)]; omega
    rw [wj];refine ⟨rfl, ⟨j + 1, rfl, by omega, hjl, fun k h1 h2 => ?_⟩, by omega⟩;rcases qaw k j with h | h
    ·exact hnz k h1 h
    ·have : k = j := by omega
     subst this; exact hz
  ·rw [if_neg (by simpa using hjl)]
   exact (rest _ (.inl (by omega))).mono fun x e h hx => by cases x <;> first | exact hx.elim | exact CodeZ.mono hx fun x e h hx => (by cases x <;> first | exact hx | exact hx.elim)
 ·rw [if_neg (by simpa using hlt)]
  refine ⟨rfl, ?_⟩;rw [qd (by omega)] at hc;rw [ztb hq, ztd hc]
end
section
variable {w w' : World} {I I' : Nat -> Prop} {G G' : Nat -> Pl} {h h' : Hp}
theorem HRel.off (hh : HRel w I G h) {l : Nat} (o : Obj) (hI : ¬ I l) (ho : ¬ aY h G l) : HRel (w.putObj l o) I G h := by
 have hw : ∀ b, b ≠ l -> (w.putObj l o).heap[b]? = w.heap[b]? := fun b hb => World.putObj_heap_other hb;have hk : Keeps w I (w.putObj l o) I := ⟨fun b hb _ => hw b fun e => hI (e ▸ hb), fun b hb _ => hb⟩;have blk : ∀ (i : Nat) x, h[i]? = some x -> x.alive (G i) -> (G i).blk ≠ l := fun i x hx ha e => ho ⟨i, x, hx, ha, e⟩;refine ⟨fun i x hx => ?_, hh.sep, hh.nI, fun b hb => by rw [World.putObj_size]; exact hh.cl b hb⟩;have := hh.obs i x hx;cases x with
 | dead => trivial
 | box cs => obtain ⟨vs, ty, e1, e2, e3⟩ := this; exact ⟨vs, ty, by rw [hw _ (blk i _ hx trivial)]; exact e1, e2, fun k v hv => ⟨(e3 k v hv).1.mono hk (.refl _ _), (e3 k v hv).2⟩⟩
 | arr cs => obtain ⟨vs, ty, e1, e2, e3⟩ := this; exact ⟨vs, ty, by rw [hw _ (blk i _ hx trivial)]; exact e1, e2, fun k v hv => ⟨(e3 k v hv).1.mono hk.1 hk.2, (e3 k v hv).2⟩⟩
 | sl ty m n es =>
   cases n with
   | true => exact this
   | false =>
     obtain ⟨e1, e2, e3, e3', e4, e5⟩ := this;refine ⟨e1, e2, e3, e3', e4, fun hc => ?_⟩;obtain ⟨vs, f1, f2, f3⟩ := e5 hc;exact ⟨vs, by rw [hw _ (blk i _ hx ⟨rfl, hc⟩)]; exact f1, f2, fun i' e he k v hv => ⟨(f3 i' e he k v hv).1.mono hk.1 hk.2, (f3 i' e he k v hv).2⟩⟩
 | mp kvs => obtain ⟨es, ck, e1, e2, e3⟩ := this; exact ⟨es, ck, by rw [hw _ (blk i _ hx trivial)]; exact e1, e2, fun k kv hv => ⟨(e3 k kv hv).1.mono hk.1 hk.2, (e3 k kv hv).2.mono hk.1 hk.2⟩⟩
 | iter ty rem cur => exact IterRel.mono this (hw _ (blk i _ hx trivial)) hk
theorem kV (hh : HRel w I G h) {b : Nat} {o : Obj} (ho : w.heap[b]? = some o) (hn : (match o with | .cells .. => true | .map .. => true | .mapIter .. => true | _ => false) = false) : ¬ aY h G b := by
 rintro ⟨i, ob, hi, ha, rfl⟩;have := hh.obs i ob hi;cases ob with
 | dead => exact ha
 | box cs => obtain ⟨vs, ty, e1, _⟩ := this; rw [ho] at e1; cases e1; cases hn
 | arr cs => obtain ⟨vs, ty, e1, _⟩ := this; rw [ho] at e1; cases e1; cases hn
 | sl ty m n es =>
   cases n with
   | true => exact absurd ha.1 (by simp)
   | false => obtain ⟨vs, e1, _⟩ := this.2.2.2.2.2 ha.2; rw [ho] at e1; cases e1; cases hn
 | mp kvs => obtain ⟨es, ck, e1, _⟩ := this; rw [ho] at e1; cases e1; cases hn
 | iter ty rem cur => obtain ⟨_, _, _, _, _, _, e1, _⟩ := this; rw [ho] at e1; cases e1; cases hn
theorem Tr.off {own own' : Nat -> Prop} (t : Tr w I own w' I' own') {l : Nat} (hl : w.heap.size <= l) (o : Obj) : Tr w I own (w'.putObj l o) I' own' :=
 ⟨t.os, t.tape, t.output, by rw [World.putObj_size]; exact t.size, fun b hb hn => (World.putObj_heap_other (by omega)).trans (t.keep b hb hn), t.i1, t.i2, t.own2,
  fun a ha => (World.frozen?_of_block (World.putObj_heap_other (by omega))).trans (t.frz a ha), t.drawn⟩
theorem TrN.off {n0 : Nat} (t : TrN n0 w I G h w' I' G' h') {l : Nat} (hl : w.heap.size <= l) (o : Obj) : TrN n0 w I G h (w'.putObj l o) I' G' h' := ⟨t.t.off hl o, t.len, t.stay⟩
theorem rM (hh : HRel w I G h) (t : Tr w I (aY h G) w' I' (aY h' G')) : Keeps w I w' I' :=
 ⟨fun b hb hlt => t.keep b hlt fun ⟨o, ob, h1, h2, e⟩ => hh.nI o ob h1 h2 (e ▸ hb), fun b hb _ => t.i1 b hb⟩
theorem Keeps.trans {w1 w2 : World} {I1 I2 : Nat -> Prop} (h : Keeps w I w1 I1) (hs : w.heap.size <= w1.heap.size) (k : Keeps w1 I1 w2 I2) : Keeps w I w2 I2 :=
 ⟨fun b hb hlt => (k.1 b (h.2 b hb hlt) (qbu hlt hs)).trans (h.1 b hb hlt), fun b hb hlt => k.2 b (h.2 b hb hlt) (qbu hlt hs)⟩
theorem Keeps.off {l : Nat} (hI : ¬ I l) (o : Obj) : Keeps w I (w.putObj l o) I := ⟨fun b hb _ => World.putObj_heap_other fun e => hI (e ▸ hb), fun b hb _ => hb⟩
structure ZR (W0 : World) (I0 : Nat -> Prop) (G0 : Nat -> Pl) (h0 : Hp) (l D : Nat) (rec : Loop) (W : World) (I : Nat -> Prop) (G : Nat -> Pl) (h : Hp) : Prop where
 t : TrN 5 W0 I0 G0 h0 W I G h
 hl : W.heap[l]? = some (.loop rec)
 hD : W.heap[D]? = some (.deferred (some []))
 nl : ¬ I l
 nD : ¬ I D
theorem ZR.step {W0 : World} {I0 : Nat -> Prop} {G0 : Nat -> Pl} {h0 : Hp} {l D : Nat} {rec : Loop} (z : ZR W0 I0 G0 h0 l D rec w I G h) (hh : HRel w I G h) (t : TrN 5 w I G h w' I' G' h') : ZR W0 I0 G0 h0 l D rec w' I' G' h' := by
 have l1 := (Array.getElem?_eq_some_iff.1 z.hl).1;have l2 := (Array.getElem?_eq_some_iff.1 z.hD).1;have n1 := kV hh z.hl rfl;have n2 := kV hh z.hD rfl;exact ⟨z.t.trans t, (t.t.keep l l1 n1).trans z.hl, (t.t.keep D l2 n2).trans z.hD, fun x => (t.t.i2 l x).elim z.nl (fun x => x.elim n1 fun x => by omega), fun x => (t.t.i2 D x).elim z.nD (fun x => x.elim n2 fun x => by omega)⟩
end
section
variable {key : Int -> Int} {nl : Bool} {T : PV}
theorem za6 {G G' : Nat -> Pl} {es es' : List (List PV)} (hl : es.length = es'.length) (hG : ∀ o, o < 5 -> G' o = G o) : Like G G' (aN nl T es) (aN nl T es') := by
 intro o ob ho;have hlt : o < 5 := (List.getElem?_eq_some_iff.1 ho).1;refine ⟨?_, fun _ => hG o hlt⟩
 match o, ho with
 | 0, ho => cases ho; exact ⟨_, rfl, trivial⟩
 | 1, ho => cases ho; exact ⟨_, rfl, rfl, rfl, hl⟩
 | 2, ho => cases ho; exact ⟨_, rfl, trivial⟩
 | 3, ho => cases ho; exact ⟨_, rfl, trivial⟩
 | 4, ho => cases ho; exact ⟨_, rfl, trivial⟩
theorem uX {w w' : World} {I I' : Nat -> Prop} {G G' : Nat -> Pl} {es es' : List (List PV)} (t : TrN 5 w I G (aN nl T es) w' I' G' (aN nl T es')) : ∀ o, o < 5 -> G' o = G o := by
 intro o ho;have hs := t.stay (ql _)
 match o, ho with
 | 0, _ => exact (hs 0 _ (by omega) rfl rfl).1
 | 1, _ => exact (hs 1 _ (by omega) rfl rfl).1
 | 2, _ => exact (hs 2 _ (by omega) rfl rfl).1
 | 3, _ => exact (hs 3 _ (by omega) rfl rfl).1
 | 4, _ => exact (hs 4 _ (by omega) rfl rfl).1
theorem eA3 (es : List (List PV)) (i f : Int) (K : Env -> Hp -> Prop) : cD qa (fun _ => none) 22 (cN (dP (gM (cY Tryz.f82)))).toList (cN (dP (gM (cY Tryz.f82)))).toList (eO f i) (aN nl T es) K = K ((6, .pv (.int .i64 f)) :: eO f i) (aN nl T es) := by kernel_rfl
theorem eA4 (es : List (List PV)) (i f : Int) (K : Env -> Hp -> Prop) : cD qa (fun _ => none) 22 (cN (cX (gM (cY Tryz.f82)))).toList (cN (cX (gM (cY Tryz.f82)))).toList ((6, .pv (.int .i64 f)) :: eO f i) (aN nl T es) K = K ((7, .pv (.int .i64 i)) :: (6, .pv (.int .i64 f)) :: eO f i) (aN nl T es) := by kernel_rfl
theorem eA5 (es : List (List PV)) (i f : Int) (K : Env -> Hp -> Prop) : cD qa yE 22 (cN (iZ (gO (cY Tryz.f82)))).toList (cN (iZ (gO (cY Tryz.f82)))).toList ((7, .pv (.int .i64 i)) :: (6, .pv (.int .i64 f)) :: eO f i) (aN nl T es) K =
 (eU es.length (some f) (some i) none /\ ACall qa 110 [.sub 0 f.toNat i.toNat, .fn 111 [.box 1 0]] [.sl (21, 1) false nl es, .box [.pv T]] fun (r : LV) (h' : Hp) => ∃ (t : List (List PV)), (r = .tup [] /\ h' = [.sl (21, 1) false nl t, .box [.pv T]]) /\
  (True /\ (((21, 1) : Nat × Nat) = (21, 1) /\ nl = nl /\ es.length = t.length) /\ True) /\ K ((20, .tup []) :: (19, .fn 111 [.box 0 0]) :: (18, .sub 1 f.toNat i.toNat) :: (17, .pv (.int .i64 i)) :: (16, .pv (.int .i64 f)) :: (15, .own 1) :: (7, .pv (.int .i64 i)) :: (6, .pv (.int .i64 f)) :: eO f i) (aN nl T t)) := by kernel_rfl
theorem zja : gM (cY Tryz.f82) = .seq (.region 3 (cN (dP (gM (cY Tryz.f82)))) false) (.region 4 (cN (cX (gM (cY Tryz.f82)))) false) /\ gO (cY Tryz.f82) = .block 1 (.region 5 (cN (iZ (gO (cY Tryz.f82)))) false) /\
 cY Tryz.f82 = .rangeFunc (.tmp 12) #[13, 14] (gM (cY Tryz.f82)) (gO (cY Tryz.f82)) /\ jN (cN (dP (gM (cY Tryz.f82)))).toList = true /\ jN (cN (cX (gM (cY Tryz.f82)))).toList = true /\ jN (cN (iZ (gO (cY Tryz.f82)))).toList = true :=
 ⟨by kernel_rfl, by kernel_rfl, by kernel_rfl, by kernel_rfl, by kernel_rfl, by kernel_rfl⟩
theorem zth (hc : jS T key) {W0 : World} {I0 : Nat -> Prop} {G0 : Nat -> Pl} {L0 : List Int} {a : Act} {v12 : LV} (hs0 : SRel W0 I0 G0 [(2, .box 0 0), (5, .box 2 0), (12, v12)] (aN nl T (aA L0)) 22 a) (rec : Loop)
 (r1 : rec.state = .ready) (r2 : rec.pending = none) (r3 : rec.tmps = a.tmps) (r4 : rec.params = #[13, 14]) (r5 : rec.assign = gM (cY Tryz.f82)) (r6 : rec.body = gO (cY Tryz.f82)) :
 za1 (ZR W0 I0 G0 (aN nl T (aA L0)) (W0.heap.size + 1) W0.heap.size rec) key nl T (W0.heap.size + 1) L0.length := by
 intro w I G L f i hh hz hfi hil hr hLn hN;obtain ⟨l, hl⟩ : ∃ l, l = W0.heap.size + 1 := ⟨_, rfl⟩;have hWl : W0.heap.size <= l := by omega
 rw [<- hl] at hz ⊢;refine ⟨_, _, _, _, run_yield (P := qa) hz.hl (by rw [r4]; rfl), roundIn_of_wpIn trivial ?_⟩;have hlt := (Array.getElem?_eq_some_iff.1 hz.hl).1;have hel : ∀ L' : List Int, L'.length = L.length -> (aA L0).length = (aA L').length := fun L' h => by simp [hN, h]
 have hs : SRel w I G (eO f i) (aN nl T (aA L)) 22 { tmps := (a.tmps.setIfInBounds 13 (.int .i64 f)).setIfInBounds 14 (.int .i64 i), defers := [] } := by
  have h1 := hs0.he.mono (rM hs0.hh hz.t.t) (za6 (hel L rfl) (uX hz.t));have h2 := h1.set (d := 13) (v := .pv (.int .i64 f)) (by rw [hs0.hn]; omega) (.pv _ _ (.int .i64 f)) (fun _ _ _ e => by cases e);have h3 := h2.set (d := 14) (v := .pv (.int .i64 i)) (by simp [hs0.hn]) (.pv _ _ (.int .i64 i)) (fun _ _ _ e => by cases e);exact ⟨hh, fun k v hk => h3 k v ((LeE.le (e' := eO f i) ⟨rfl, rfl, rfl, rfl, trivial⟩) k v hk), by simp [hs0.hn]⟩
 obtain ⟨q1, q2, q3, q4, q5, q6⟩ := zja;rw [r5, q1, r4, r3];have hfold : ∀ x y : Value, (((#[13, 14] : Array Tmp).zip #[x, y]).foldl (fun tmps (t, a) => tmps.setIfInBounds t a) a.tmps) = (a.tmps.setIfInBounds 13 x).setIfInBounds 14 y := fun x y => by simp
 rw [hfold];refine wpIn_seq ?_;show Code.wpIn (wd (some l)) 0 qa _ (Exit.then (Code.wpIn (wd (some l)) 0 qa _ _) _) { tmps := (a.tmps.setIfInBounds 13 (.int .i64 f)).setIfInBounds 14 (.int .i64 i), defers := [] } w;refine yF q4 (by rw [eA3]; exact ⟨rfl, rfl⟩ : cD qa (fun _ => none) 22 _ _ _ _ (fun e' h' => e' = _ /\ h' = _)) hs ?_ ?_
 ·exact fun a w h => h
 rintro _ _ w1 I1 G1 a1 ⟨rfl, rfl⟩ hs1 hd1 ht1;refine yF q5 (by rw [eA4]; exact ⟨rfl, rfl⟩ : cD qa (fun _ => none) 22 _ _ _ _ (fun e' h' => e' = _ /\ h' = _)) hs1 ?_ ?_
 ·exact fun a w h => h
 rintro _ _ w2 I2 G2 a2 ⟨rfl, rfl⟩ hs2 hd2 ht2;have z1 := hz.step hh ht1.toN;have z2 := z1.step hs1.hh ht2.toN;refine ⟨_, run_beginRound z2.hl r1, ?_⟩;have n2 := kV hs2.hh z2.hl rfl;have l2 := (Array.getElem?_eq_some_iff.1 z2.hl).1;have hs3 : SRel (w2.putObj l (.loop { rec with state := .busy })) I2 G2 _ _ 22 a2 := ⟨hs2.hh.off _ z2.nl n2, hs2.he.mono (Keeps.off z2.nl _) (.refl _ _), hs2.hn⟩;have hp3 : (w2.putObj l (.loop { rec with state := .busy })).heap[l]? = some (.loop { rec with state := .busy }) := World.putObj_heap_same l2;have hb : ∀ {c : Code} {Q a w}, c = gO (cY Tryz.f82) -> Code.wpIn (wd (some l)) 0 qa (.block 1 (.region 5 (cN (iZ (gO (cY Tryz.f82)))) false)) Q a w -> Code.wpIn (wd (some l)) 0 qa c Q a w := fun e h => by rw [e, q2]; exact h
 refine hb r6 ?_
 have h5 : cD qa yE 22 (cN (iZ (gO (cY Tryz.f82)))).toList (cN (iZ (gO (cY Tryz.f82)))).toList ((7, .pv (.int .i64 i)) :: (6, .pv (.int .i64 f)) :: eO f i) (aN nl T (aA L)) (fun _ h' => ∃ L', YQ key L f i L' /\ h' = aN nl T (aA L')) := by
  rw [eA5, qam, qam];obtain ⟨c1, c2, c3⟩ := uW L (show f <= i by omega) hil;have e : aA L = aA (L.take f ++ ((L.take i).drop f ++ L.drop i)) := congrArg aA c1;refine ⟨⟨by simp, by simp; omega, by simp; omega, trivial⟩, ?_⟩;rw [e];refine (zs4 hc f i nl (L.take f) ((L.take i).drop f) (L.drop i) c2 (by omega) (by rw [<- c1]; exact hr) (by omega)).mono ?_;rintro r h' ⟨S', rfl, rfl, s1, k1⟩;refine ⟨_, ⟨rfl, rfl⟩, ⟨trivial, ⟨rfl, rfl, ?_⟩, trivial⟩, _, ⟨S', rfl, s1, k1⟩, rfl⟩;have := k1.len;simp only [bG, qb]; omega
 refine wpIn_block ?_;show Code.wpIn (wd (some l)) 0 qa _ _ _ _;refine yF (H := yE) (ro := some l) (n := 0) (id := 5) q6 h5 hs3 ?_ ?_
 ·exact fun a w h => h
 rintro e4 _ w4 I4 G4 a4 ⟨L', hYQ, rfl⟩ hs4 hd4 ht4;have n3 := kV hs3.hh hp3 rfl;have hl4 : w4.heap[l]? = some (.loop { rec with state := .busy }) := (ht4.t.keep l (by rw [World.putObj_size]; exact l2) n3).trans hp3;have l4 := (Array.getElem?_eq_some_iff.1 hl4).1;have nI4 : ∀ b, ¬ I2 b -> ¬ aY (aN nl T (aA L)) G2 b -> b < w2.heap.size -> ¬ I4 b := fun b x y z h => (ht4.t.i2 b h).elim x fun h => h.elim y fun h => by rw [World.putObj_size] at h; omega
 have nl4 := nI4 l z2.nl n2 l2;have hDne : W0.heap.size ≠ l := by omega
 have nD2 := kV hs2.hh z2.hD rfl;have lD := (Array.getElem?_eq_some_iff.1 z2.hD).1
 have hrec : ({ { rec with state := .busy } with state := if (none : Option Code).isNone then .ready else .done, pending := none } : Loop) = rec := by
  cases rec; simp only at r1 r2; subst r1; subst r2; rfl
 have hrun := run_endRound (P := qa) none hl4;rw [hrec] at hrun
 have hLL : L'.length = L.length := by
  obtain ⟨S', rfl, s1, k1⟩ := hYQ;obtain ⟨c1, c2, c3⟩ := uW L (show f <= i by omega) hil;have := k1.len;rw [qb, qb, c2, <- this, c3, qai]; omega
 have tB : TrN 5 W0 I0 G0 (aN nl T (aA L0)) (w4.putObj l (.loop rec)) I4 G4 (aN nl T (aA L')) := ((z2.t.off hWl _).trans ht4.toN).off hWl _;refine ⟨_, _, hrun, rfl, L', I4, G4, hYQ, hs4.hh.off _ nl4 (kV hs4.hh hl4 rfl), ?_, za6 (by simp [hLL]) (fun o ho => (uX tB o ho).trans (uX hz.t o ho).symm), ⟨tB, World.putObj_heap_same l4, ?_, nl4, nI4 _ z2.nD nD2 lD⟩⟩
 ·have k1 := (rM hh ht1.t).trans ht1.t.size (rM hs1.hh ht2.t);have s2 := Nat.le_trans ht1.t.size ht2.t.size;have k2 := (k1.trans s2 (Keeps.off z2.nl (.loop { rec with state := .busy }))).trans (by rw [World.putObj_size]; exact s2) (rM hs3.hh ht4.t);exact k2.trans (by have := ht4.t.size; rw [World.putObj_size] at this; omega) (Keeps.off nl4 _)
 ·rw [World.putObj_heap_other hDne];exact (ht4.t.keep _ (by rw [World.putObj_size]; exact lD) (kV hs3.hh ((World.putObj_heap_other hDne).trans z2.hD) rfl)).trans ((World.putObj_heap_other hDne).trans z2.hD)
end
end Go.Eng
namespace Go.Eng
open Go Go.Proofs
section
variable (nl fl : Bool) (es : LL)
def zjb (R : LV -> Hp -> Prop) : Prop :=
 if (bif true then nl else !nl) = true then R (LV.pv (PV.sl true true [])) [] else lF true [] es 1 4 /\ R (LV.own 0) [Ob.sl (21, 1) false false ([] ++ es)]
theorem zti {R : LV -> Hp -> Prop} (h : zjb nl es R) : ACall qa 47 [.pv (.sl nl fl es)] [] R :=
 ACall.wA Tryz.func47 aP [0, 2, 4] aZ h
end
section
variable (nl : Bool) (ts : List PV) (es : LL)
def ztj (R : LV -> Hp -> Prop) : Prop :=
 R (LV.fn 132 [LV.box 2 0, LV.box 1 0]) [Ob.sl (21, 1) false nl es, Ob.box [LV.pv (PV.ptr ts)], Ob.box [LV.own 0]]
theorem ztk {R : LV -> Hp -> Prop} (h : ztj nl ts es R) : ACall qa 109 [.pv (.ptr ts), .own 0] [.sl (21, 1) false nl es] R :=
 ACall.wz Tryz.func109 aP [0, 1, 2, 3, 4] aZ [0, 1, 2] h
end
end Go.Eng
namespace Go.Eng
open Go Go.Proofs Go.Eng.Rows Go.Eng.Srt
theorem ACall.nilOwn {P : Program} {f : Nat} {args : List LV} {Q Q' : LV -> Hp -> Prop} {ty : Nat × Nat} (hc : ACall P f args [] Q) (hq : ∀ r h', Q r h' -> Q' r h' ∨ ∃ fl, r = .pv (.sl true fl []) /\ h' = [] /\ Q' (.own 0) [.sl ty false true []]) : ACall P f args [] Q' :=
 ⟨hc.1, fun w I G cargs h1 h2 h3 => (hc.2 w I G cargs h1 h2 h3).mono fun e w' ⟨cv, r, h', I', G', e1, e2, e3, e4, e5⟩ => (hq r h' e2).elim (fun q => ⟨cv, r, h', I', G', e1, q, e3, e4, e5⟩) fun ⟨fl, hr, hh, q⟩ => by
  subst hr; subst hh;have hcv : cv = .slice none 0 0 := by cases e4 with | pv _ _ h => cases h; rfl
  subst hcv
  have one : ∀ {o : Nat} {ob : Ob}, [Ob.sl ty false true []][o]? = some ob -> ob = .sl ty false true [] := fun {o ob} h => by
   cases o with
   | zero => cases h; rfl
   | succ o => simp at h
  have dead : ∀ {p : Pl}, ¬ (Ob.sl ty false true []).alive p := fun h => by cases h.1
  have noB : ∀ b, ¬ aY [Ob.sl ty false true []] G' b := fun b ⟨o, ob, ho, ha, _⟩ => by rw [one ho] at ha; exact dead ha
  refine ⟨_, .own 0, [.sl ty false true []], I', G', e1, q, ⟨fun o ob ho => by rw [one ho]; rfl, fun o o' ob ob' ho ha => by rw [one ho] at ha; exact (dead ha).elim, fun o ob ho ha => by rw [one ho] at ha; exact (dead ha).elim, e3.cl⟩, .ownNil 0 ty false [] rfl, ?_, by simp, fun o ob' ho => by simp at ho⟩;have t := e5.t
  exact ⟨t.os, t.tape, t.output, t.size, t.keep, t.i1, t.i2, fun b hb => (noB b hb).elim, t.frz, t.drawn⟩⟩
theorem zjc (nl fl : Bool) (es : List (List PV)) (hn : nl = true -> es = []) (ha : lF true [] es 1 4) : ACall qa 47 [.pv (.sl nl fl es)] [] fun r h' => r = .own 0 /\ h' = [.sl (21, 1) false nl es] := by
 refine ACall.nilOwn (ty := (21, 1)) (Q := fun r h' => (nl = true /\ r = .pv (.sl true true []) /\ h' = []) ∨ (nl = false /\ r = .own 0 /\ h' = [.sl (21, 1) false nl es])) (zti nl fl es ?_) ?_
 ·unfold zjb;cases nl with
  | true => exact .inl ⟨rfl, rfl, rfl⟩
  | false => exact ⟨ha, .inr ⟨rfl, rfl, by simp⟩⟩
 ·rintro r h' (⟨rfl, rfl, rfl⟩ | ⟨rfl, rfl, rfl⟩)
  ·rw [hn rfl]; exact .inr ⟨true, rfl, rfl, rfl, rfl⟩
  ·exact .inl ⟨rfl, rfl⟩
theorem uY {P : Program} {n0 N : Nat} {c : Code} {e E : Env} {h Hh : Hp} (hS : CodeS P n0 N c e h fun x e' h' => x = .normal /\ e' = E /\ h' = Hh) {w : World} {I : Nat -> Prop} {G : Nat -> Pl} {a : Act} (hs : SRel w I G e h N a) {Q : Exit -> Act -> World -> Prop}
 (hq : ∀ w' I' G' a', SRel w' I' G' E Hh N a' -> a'.defers = a.defers -> TrN n0 w I G h w' I' G' Hh -> Q .normal a' w') : c.wp P Q a w :=
 hS w I G a Q hs fun x e' h' w' I' G' a' hk hs' hd ht => by obtain ⟨rfl, rfl, rfl⟩ := hk; exact hq w' I' G' a' hs' hd ht
section
variable {nl fl : Bool} {ts : List PV} {es : List (List PV)}
theorem eB0 (Q : Qt) : dF qa (fun _ => none) 0 22 [1, 2, 4] (fun _ => none) (cO0 Tryz.f82) (fW [.pv (.ptr ts), .pv (.sl nl fl es)] 0) [] Q = Q .normal [(1, .pv (.sl nl fl es)), (2, .box 0 0), (4, .pv (.sl true true []))] [.box [.pv (.ptr ts)]] := by kernel_rfl
theorem eB1 (Q : Qt) : dF qa zfk 0 22 [2, 5] (fun _ => none) (cO1 Tryz.f82) [(1, .pv (.sl nl fl es)), (2, .box 0 0)] [.box [.pv (.ptr ts)]] Q =
 ACall qa 47 [.pv (.sl nl fl es)] [] fun (r : LV) (h' : Hp) => ∃ (_ : Unit), (r = .own 0 /\ h' = [.sl (21, 1) false nl es]) /\ True /\ Q .normal [(2, .box 0 0), (5, .box 2 0)] [.box [.pv (.ptr ts)], .sl (21, 1) false nl es, .box [.own 1]] := by kernel_rfl
theorem eB2 (Q : Qt) : dF qa zfk 0 22 [2, 5, 12] (fun _ => none) (cO2 Tryz.f82) [(2, .box 0 0), (5, .box 2 0)] [.box [.pv (.ptr ts)], .sl (21, 1) false nl es, .box [.own 1]] Q =
 ACall qa 109 [.pv (.ptr ts), .own 0] [.sl (21, 1) false nl es] fun (r : LV) (h' : Hp) => ∃ (_ : Unit), (r = .fn 132 [.box 2 0, .box 1 0] /\ h' = [.sl (21, 1) false nl es, .box [.pv (.ptr ts)], .box [.own 0]]) /\
  ((((21, 1) : Nat × Nat) = (21, 1) /\ nl = nl /\ es.length = es.length) /\ True) /\ Q .normal [(2, .box 0 0), (5, .box 2 0), (12, .fn 132 [.box 4 0, .box 3 0])] (aN nl (.ptr ts) es) := by kernel_rfl
theorem eB6 (Q : Qt) : dF qa (fun _ => none) 5 22 [4] (fun _ => none) (cO6 Tryz.f82) [(2, .box 0 0), (5, .box 2 0)] (aN nl (.ptr ts) es) Q = Q .normal [(4, .own 1)] (aN nl (.ptr ts) es) := by kernel_rfl
theorem za7 : cM Tryz.f82 = .seq (cO0 Tryz.f82) (.seq (cO1 Tryz.f82) (.seq (.seq (cO2 Tryz.f82) (.block 0 (cY Tryz.f82))) (.seq (cO6 Tryz.f82) .ret))) /\ Tryz.f82.body = some (cM Tryz.f82) /\ Tryz.f82.ntmps = 22 /\
 Tryz.f132.body = some (cM Tryz.f132) /\ Tryz.f132.ntmps = 39 /\ Tryz.f82.results = #[.tmp 4] /\ Tryz.f132.results = #[] /\ Tryz.f82.body.isNone = false /\ (Tryz.f82.name == "runtime.NumGoroutine") = false /\ Tryz.f132.body.isNone = false /\ (Tryz.f132.name == "runtime.NumGoroutine") = false :=
 ⟨by kernel_rfl, by kernel_rfl, by kernel_rfl, by kernel_rfl, by kernel_rfl, by kernel_rfl, by kernel_rfl, by kernel_rfl, by kernel_rfl, by kernel_rfl, by kernel_rfl⟩
variable {key : Int -> Int}
theorem Tr.alloc0 {w : World} {I own : Nat -> Prop} (o : Obj) : Tr w I own (w.alloc o) I own :=
 ⟨rfl, rfl, rfl, by simp, fun b hb _ => c7 w o hb, fun _ h => h, fun _ h => .inl h, fun _ h => .inl h, fun a ha => World.frozen?_of_block (c7 w o ha), ql _⟩
theorem KA.alloc0 (w : World) (o : Obj) : KA w (w.alloc o) := ⟨by simp, fun b hb => c7 w o hb⟩
theorem ztl (hk : ∀ x, 0 <= key x) (hT : ∀ r : Int, (-2147483648 <= r /\ r <= 2147483647) -> PCall qa 71 [.ptr ts, .int .i32 r] fun v => v = .int .i64 (key r)) (hc : jS (.ptr ts) key) (L : List Int) (hr : R32 L) (hL : L.length < 1000000000000)
 {w3 : World} {I3 : Nat -> Prop} {G3 : Nat -> Pl} {a3 : Act} {v12 : LV} (hs3 : SRel w3 I3 G3 [(2, .box 0 0), (5, .box 2 0), (12, v12)] (aN nl (.ptr ts) (aA L)) 22 a3) (rec : Loop) (r1 : rec.state = .ready) (r2 : rec.pending = none) (r3 : rec.tmps = a3.tmps) (r4 : rec.params = #[13, 14])
 (r5 : rec.assign = gM (cY Tryz.f82)) (r6 : rec.body = gO (cY Tryz.f82)) (vs : Array Value) (hvsz : vs.size = 2) (hvs : ∀ (k : Nat) v, [LV.box 4 0, LV.box 3 0][k]? = some v -> LRel w3 I3 G3 (aN nl (.ptr ts) (aA L)) v (vs.getD k undef)) :
 Calls qa 132 (#[Value.func (.yield (w3.heap.size + 1)) #[] #[]] ++ vs) ((w3.alloc (.deferred (some []))).alloc (.loop rec)) fun e w4 => (∃ v, e = .returned v) /\ ∃ I4 G4, HRel w4 I4 G4 (aN nl (.ptr ts) (aA (cK key L))) /\
  ZR w3 I3 G3 (aN nl (.ptr ts) (aA L)) (w3.heap.size + 1) w3.heap.size rec w4 I4 G4 (aN nl (.ptr ts) (aA (cK key L))) := by
 obtain ⟨k1, k2, k3, k4, k5, k6, k7, k8, k9, k10, k11⟩ := za7;obtain ⟨W1, hW1⟩ : ∃ W1, W1 = (w3.alloc (.deferred (some []))).alloc (.loop rec) := ⟨_, rfl⟩;rw [<- hW1];have tA : Tr w3 I3 (aY (aN nl (.ptr ts) (aA L)) G3) W1 I3 (aY (aN nl (.ptr ts) (aA L)) G3) := by rw [hW1]; exact (Tr.alloc0 _).trans (Tr.alloc0 _)
 have ka : KA w3 W1 := by rw [hW1]; exact (KA.alloc0 _ _).trans (KA.alloc0 _ _)
 have hl1 : W1.heap[w3.heap.size + 1]? = some (.loop rec) := by rw [hW1]; have := World.alloc_heap_new (w3.alloc (.deferred (some []))) (.loop rec); rwa [World.size_alloc] at this
 have hD1 : W1.heap[w3.heap.size]? = some (.deferred (some [])) := by rw [hW1]; exact (c7 _ _ (by simp)).trans (World.alloc_heap_new w3 _)
 have z1 : ZR w3 I3 G3 (aN nl (.ptr ts) (aA L)) (w3.heap.size + 1) w3.heap.size rec W1 I3 G3 (aN nl (.ptr ts) (aA L)) := ⟨(TrH.same tA).toN, hl1, hD1, fun h => by have := hs3.hh.cl _ h; omega, fun h => by have := hs3.hh.cl _ h; omega⟩;have hRd := zth hc hs3 rec r1 r2 r3 r4 r5 r6;have hwalk := ztg hk hT (fun w I G h w' I' G' h' z hh _ t => z.step hh t) L hRd hr hL
 have hsW : SRel W1 I3 G3 (fW [.pv (.raw (Value.func (.yield (w3.heap.size + 1)) #[] #[])), .box 4 0, .box 3 0] 0) (aN nl (.ptr ts) (aA L)) 39 { tmps := (#[Value.func (.yield (w3.heap.size + 1)) #[] #[]] ++ vs) ++ qbd (39 - (#[Value.func (.yield (w3.heap.size + 1)) #[] #[]] ++ vs).size) undef, defers := [] } := by
  obtain ⟨y, hy⟩ : ∃ y, y = Value.func (.yield (w3.heap.size + 1)) #[] #[] := ⟨_, rfl⟩;rw [<- hy]
  obtain ⟨x0, x1, rfl⟩ : ∃ x0 x1, vs = #[x0, x1] := by
   obtain ⟨l⟩ := vs
   match l, hvsz with
   | [a, b], _ => exact ⟨a, b, rfl⟩
  have hk : Keeps w3 I3 W1 I3 := ⟨fun b _ hb => ka.2 b hb, fun b hb _ => hb⟩;have h1 := (hvs 0 _ rfl).mono hk (.refl _ _);have h2 := (hvs 1 _ rfl).mono hk (.refl _ _);have e0 : ∀ r : Array Value, (#[y] ++ #[x0, x1] ++ r).getD 0 undef = y := fun r => by rw [qu, qal (by simp)]; rfl
  have e1 : ∀ r : Array Value, (#[y] ++ #[x0, x1] ++ r).getD 1 undef = x0 := fun r => by rw [qu, qal (by simp)]; rfl
  have e2 : ∀ r : Array Value, (#[y] ++ #[x0, x1] ++ r).getD 2 undef = x1 := fun r => by rw [qu, qal (by simp)]; rfl
  refine ⟨hs3.hh.ka ka, ?_, by simp⟩
  have he : ERel W1 I3 G3 (aN nl (.ptr ts) (aA L)) [(0, .pv (.raw y)), (1, .box 4 0), (2, .box 3 0)] (#[y] ++ #[x0, x1] ++ qbd (39 - (#[y] ++ #[x0, x1]).size) undef) :=
   ((ERel.nil _ _ _ _ _).cons (s := 2) (v := .box 3 0) (by rw [e2]; exact h2)).cons (s := 1) (v := .box 4 0) (by rw [e1]; exact h1) |>.cons (s := 0) (v := .pv (.raw y)) (by rw [e0]; exact .pv _ _ (.raw _))
  exact he
 refine calls_of_wp Tryz.func132 k4 ?_;rw [k5];refine hwalk W1 I3 G3 _ _ hsW z1 ?_;rintro x e' _ w4 I4 G4 a4 ⟨rfl, rfl⟩ hs4 hd4 z4;exact ⟨hd4, _, results_none k7 _ _ _, ⟨_, rfl⟩, I4, G4, hs4.hh, z4⟩
theorem ztm (hk : ∀ x, 0 <= key x) (L : List Int) {w w3 w4 : World} {I I3 I4 : Nat -> Prop} {G G3 G4 : Nat -> Pl} {a3 : Act} {v12 : LV} (hs3 : SRel w3 I3 G3 [(2, .box 0 0), (5, .box 2 0), (12, v12)] (aN nl (.ptr ts) (aA L)) 22 a3) (hd30 : a3.defers = []) {rec : Loop}
 (ht3 : Tr w I (aY [] G) w3 I3 (aY (aN nl (.ptr ts) (aA L)) G3)) (hh4 : HRel w4 I4 G4 (aN nl (.ptr ts) (aA (cK key L)))) (z4 : ZR w3 I3 G3 (aN nl (.ptr ts) (aA L)) (w3.heap.size + 1) w3.heap.size rec w4 I4 G4 (aN nl (.ptr ts) (aA (cK key L)))) :
 (Code.seq (cO6 Tryz.f82) .ret).wp qa (bodyPostM Fence.wide 0 qa Tryz.f82 fun e w' => ∃ cv r h' I' G', e = .returned cv /\ (r = .own 0 /\ h' = [.sl (21, 1) false nl (aA (cK key L))]) /\ HRel w' I' G' h' /\ LRel w' I' G' h' r cv /\ TrH w I G [] w' I' G' h')
  { tmps := a3.tmps, defers := [{ target := .collected w3.heap.size, args := #[] }] ++ a3.defers } (w4.putObj (w3.heap.size + 1) (.loop { rec with state := .exhausted })) := by
 obtain ⟨k1, k2, k3, k4, k5, k6, k7, k8, k9, k10, k11⟩ := za7;have hll := (uV (key := key) hk L).len;have n4 := kV hh4 z4.hl rfl;have l4 := (Array.getElem?_eq_some_iff.1 z4.hl).1
 have z5 : ZR w3 I3 G3 (aN nl (.ptr ts) (aA L)) (w3.heap.size + 1) w3.heap.size { rec with state := .exhausted } (w4.putObj (w3.heap.size + 1) (.loop { rec with state := .exhausted })) I4 G4 (aN nl (.ptr ts) (aA (cK key L))) :=
  ⟨z4.t.off (by omega) _, World.putObj_heap_same l4, (World.putObj_heap_other (by omega)).trans z4.hD, z4.nl, z4.nD⟩
 have hs5 : SRel (w4.putObj (w3.heap.size + 1) (.loop { rec with state := .exhausted })) I4 G4 [(2, .box 0 0), (5, .box 2 0)] (aN nl (.ptr ts) (aA (cK key L))) 22 { tmps := a3.tmps, defers := [{ target := .collected w3.heap.size, args := #[] }] ++ a3.defers } :=
  ⟨hh4.off _ z4.nl n4, fun i v hi => ((hs3.he.mono (rM hs3.hh z4.t.t) (za6 (by simp [hll]) (uX z4.t))).mono (Keeps.off z4.nl _) (.refl _ _)) i v ((LeE.le (e' := [(2, .box 0 0), (5, .box 2 0)]) ⟨rfl, rfl, trivial⟩) i v hi), hs3.hn⟩
 refine wp_seq (uY (E := [(4, .own 1)]) (Hh := aN nl (.ptr ts) (aA (cK key L))) (iI (Eq.mpr (eB6 _) ⟨rfl, rfl, rfl⟩)) hs5 fun w6 I6 G6 a6 hs6 hd6 ht6 => ?_);have z6 := z5.step hs5.hh ht6;refine wp_ret ?_;show LeavesInM Fence.wide 0 qa _ a6.tmps _ a6.defers .returning w6;rw [hd6, hd30];refine ⟨by simp, .inl ⟨_, _, rfl, run_takeDeferred z6.hD, ?_⟩⟩;refine ⟨_, results_tmp k6 _ _ _, ?_⟩;have hh7 := hs6.hh.off (.deferred none) z6.nD (kV hs6.hh z6.hD rfl);have hv7 : LRel (w6.putObj w3.heap.size (.deferred none)) I6 G6 (aN nl (.ptr ts) (aA (cK key L))) (.own 1) (a6.tmps.getD 4 undef) := LRel.mono (hs6.he 4 _ rfl) (Keeps.off z6.nD (.deferred none)) (.refl _ _);have hs7 : SRel (w6.putObj w3.heap.size (.deferred none)) I6 G6 [(4, .own 1)] (aN nl (.ptr ts) (aA (cK key L))) 22 a6 := ⟨hh7, (ERel.nil _ _ _ _ _).cons (s := 4) (v := .own 1) hv7, hs6.hn⟩;obtain ⟨s1, s2⟩ := hs7.sub [1] [] rfl;have g2 := LRel.mapV (qK (os := [1])) (Keeps.refl _ _) hv7;have ht := (ht3.trans z6.t.t).off (l := w3.heap.size) ht3.size (.deferred none);exact ⟨_, .own 0, _, I6, _, rfl, ⟨rfl, rfl⟩, s1.hh, g2, ⟨ht.trans (Tr.less s2), Nat.zero_le _, fun o ob ho => by simp at ho⟩⟩
theorem ztn (hk : ∀ x, 0 <= key x) (hT : ∀ r : Int, (-2147483648 <= r /\ r <= 2147483647) -> PCall qa 71 [.ptr ts, .int .i32 r] fun v => v = .int .i64 (key r)) (hc : jS (.ptr ts) key) (L : List Int) (hr : R32 L) (hL : L.length < 1000000000000) :
 ACall qa 82 [.pv (.ptr ts), .pv (.sl nl fl (aA L))] [] fun r h' => r = .own 0 /\ h' = [.sl (21, 1) false nl (aA (cK key L))] := by
 obtain ⟨k1, k2, k3, k4, k5, k6, k7, k8, k9, k10, k11⟩ := za7;refine ⟨⟨_, Tryz.func82, k8, k9⟩, fun w I G cargs hh hsz hrel => ?_⟩;simp only [qbj, qr, qt] at hsz
 have hn : nl = true -> L = [] := fun hn => by
  subst hn;have h1 := hrel 1 _ rfl;generalize cargs.getD 1 undef = c1 at h1;cases h1 with
  | pv _ _ h1 =>
    generalize hes : aA L = es at h1;cases h1 with
    | slnil => exact List.map_eq_nil_iff.1 hes
 refine (callsIn_wide (n := 0)).1 (callsIn_of_wp_marks Tryz.func82 k2 trivial (wpIn_wide.2 ?_));rw [k3]
 have hs : SRel w I G (fW [.pv (.ptr ts), .pv (.sl nl fl (aA L))] 0) [] 22 { tmps := cargs ++ qbd (22 - cargs.size) undef, defers := [] } := by
  refine ⟨hh, fun i v hi => ?_, by simp; omega⟩;obtain ⟨_, h2⟩ := qU hi;rw [Nat.sub_zero] at h2;have hlt : i < cargs.size := by have := (List.getElem?_eq_some_iff.1 h2).1; simp at this; omega
  have := hrel i v h2
  have e1 : (cargs ++ qbd (22 - cargs.size) undef).getD i undef = cargs.getD i undef := by
   rw [qu, qu, qal hlt]
  simp only [e1];exact VRel.of_plain this
 rw [k1]
 -- what begins it
 refine wp_seq (uY (E := [(1, .pv (.sl nl fl (aA L))), (2, .box 0 0), (4, .pv (.sl true true []))]) (Hh := [.box [.pv (.ptr ts)]]) (iI (Eq.mpr (eB0 _) ⟨rfl, rfl, rfl⟩)) hs fun w1 I1 G1 a1 hs1 hd1 ht1 => ?_);have hs1' := hs1.le (LeE.le (e' := [(1, .pv (.sl nl fl (aA L))), (2, .box 0 0)]) ⟨rfl, rfl, trivial⟩);refine wp_seq (uY (E := [(2, .box 0 0), (5, .box 2 0)]) (Hh := [.box [.pv (.ptr ts)], .sl (21, 1) false nl (aA L), .box [.own 1]]) (iI (Eq.mpr (eB1 _) ((zjc nl fl (aA L) (fun h => by rw [hn h]; rfl) ?_).mono fun r h' hq => ⟨(), hq, trivial, rfl, rfl, rfl⟩))) hs1' fun w2 I2 G2 a2 hs2 hd2 ht2 => ?_)
 ·exact ⟨rfl, .inl rfl, fun e he => (by cases he), fun e he => by obtain ⟨x, _, rfl⟩ := List.mem_map.1 (List.mem_of_mem_head? he); rfl, by simp; omega⟩
 refine wp_seq (wp_seq (uY (E := [(2, .box 0 0), (5, .box 2 0), (12, .fn 132 [.box 4 0, .box 3 0])]) (Hh := aN nl (.ptr ts) (aA L)) (iI (Eq.mpr (eB2 _) (ztk nl ts (aA L) ?_))) hs2 fun w3 I3 G3 a3 hs3 hd3 ht3 => ?_))
 ·exact ⟨(), ⟨rfl, rfl⟩, ⟨⟨rfl, rfl, rfl⟩, trivial⟩, rfl, rfl, rfl⟩
 -- the loop
 have hd30 : a3.defers = [] := hd3.trans (hd2.trans hd1);obtain ⟨q1, q2, q3, _, _, _⟩ := zja;refine wp_block ?_;rw [q3]
 obtain ⟨vs, hv12, hvsz, hvs⟩ : ∃ vs : Array Value, a3.tmps.getD 12 undef = .func (.func 132) #[] vs /\ vs.size = 2 /\ ∀ (k : Nat) v, [LV.box 4 0, LV.box 3 0][k]? = some v -> LRel w3 I3 G3 (aN nl (.ptr ts) (aA L)) v (vs.getD k undef) := by
  have := hs3.he 12 _ rfl;generalize a3.tmps.getD 12 undef = cv at this;cases this with
  | fn f cs vs h1 h6 => exact ⟨vs, rfl, h1, h6⟩
 refine (wpIn_wide (n := 0)).1 (wpIn_rangeFunc (F := Fence.wide) fun fn _ => ?_);obtain ⟨rec, hrec⟩ : ∃ rec : Loop, rec = { state := .ready, pending := none, fn := fn, tmps := a3.tmps, params := #[13, 14], assign := gM (cY Tryz.f82), body := gO (cY Tryz.f82), defers := w3.heap.size } := ⟨_, rfl⟩
 refine ⟨w3.heap.size + 1, [{ target := .collected w3.heap.size, args := #[] }], (w3.alloc (.deferred (some []))).alloc (.loop rec), { target := .fn (.func 132) vs, args := #[.func (.yield (w3.heap.size + 1)) #[] #[]] }, (w3.alloc (.deferred (some []))).alloc (.loop rec), 132,
  #[.func (.yield (w3.heap.size + 1)) #[] #[]] ++ vs, (w3.alloc (.deferred (some []))).alloc (.loop rec), ?_, ?_, fun _ _ => trivial, ?_, fun x => (by cases x), ?_⟩
 ·rw [hrec]; exact run_enterLoop_outer _ _ _ _ _
 ·have he : a3.eval (.tmp 12) = .func (.func 132) #[] vs := hv12;simp only [resolve, he];simp [go_sem]
 ·simp only [invoke];exact wF ⟨_, Tryz.func132, k10, k11⟩
 refine (callsIn_wide).2 (Calls.mono (ztl hk hT hc L hr hL hs3 rec (by rw [hrec]) (by rw [hrec]) (by rw [hrec]) (by rw [hrec]) (by rw [hrec]) (by rw [hrec]) vs hvsz hvs) ?_);rintro e w4 ⟨⟨v, rfl⟩, I4, G4, hh4, z4⟩;have hp : rec.pending = none := by rw [hrec]
 refine ⟨none, _, (run_endLoop z4.hl (by rw [hrec]; simp)).trans (congrArg (fun j => Result.ok j _) hp), ?_⟩;exact ztm hk L hs3 hd30 ((ht1.t.trans ht2.t).trans ht3.t) hh4 z4
end
end Go.Eng
namespace Go.Eng
open Go Go.Proofs
section
variable (n f : Bool) (es : LL) (k : Int)
def zjd (R : PV -> Prop) : Prop :=
 if decide ((↑es.length : Int) > k) = true then (eU es.length none (some k) none /\ aQ es 1) /\ R (PV.sl n (f && decide (k = (↑es.length : Int))) (qc 0 (qz k.toNat es))) else R (PV.sl n f es)
theorem zto {R : PV -> Prop} (h : zjd n f es k R) : PCall qa 7 [.sl n f es, .int .i64 k] R :=
 PCall.wz Tryz.func7 aP [0, 1, 4, 8] aZ h
end
def za8 (n f : Bool) (es : LL) (n2 f2 : Bool) (es2 : LL) (x5 : Int) : Env × Hp := ([(0, LV.pv (PV.sl n f es)), (1, LV.pv (PV.sl n2 f2 es2)), (5, Y6 x5)], [])
section
variable (n f : Bool) (es : LL) (n2 f2 : Bool) (es2 : LL) (J : Int -> Prop) (μ : Int -> Nat)
def za9 (R : PV -> Prop) : Prop :=
 if ((↑es.length : Int) != (↑es2.length : Int)) = true then R (Zb false) else (aH (za8 n f es n2 f2 es2 (0 : Int)) /\ J (0 : Int)) /\ ∀ (x5 : Int), J x5 -> if decide (x5 < (↑es.length : Int)) = true then aI es x5 1 /\ ∃ n1, (es.getD x5.toNat []).head? = some (Z3 n1) /\ aI es2 x5 1 /\ ∃ n3, (es2.getD x5.toNat []).head? = some (Z3 n3) /\ if (n1 != n3) = true then R (Zb false) else aH (za8 n f es n2 f2 es2 (i64.wrap (x5 + 1))) /\ J (i64.wrap (x5 + 1)) /\ μ (i64.wrap (x5 + 1)) < μ x5 else R (Zb true)
theorem ztp {R : PV -> Prop} (h : za9 n f es n2 f2 es2 J μ R) : PCall qa 21 [.sl n f es, .sl n2 f2 es2] R :=
 PCall.wz Tryz.func21 aP [0, 1, 4, 5, 10, 14, 25] (cA 4 (bC cz1 (za8 n f es n2 f2 es2) J μ (fun e h => (((gI e 5), ()))) [] [0, 1, 5] [])) h
end
def zba (n f : Bool) (es : LL) (n2 f2 : Bool) (ss : LL) (x7 : Int) (n_0 : Bool) (s_0 : LL) (n_1 : Bool) (s_1 : LL) : Env × Hp := ([(0, LV.pv (PV.sl n f es)), (1, LV.pv (PV.sl n2 f2 ss)), (5, LV.own 0), (6, LV.own 1), (7, Y6 x7)], [.sl (21, 1) true n_0 s_0, .sl (3, 1) true n_1 s_1])
def zbb (n f : Bool) (es : LL) (n2 f2 : Bool) (ss : LL) (x7 x8 x9 : Int) (n_0 : Bool) (s_0 : LL) (n_1 : Bool) (s_1 : LL) : Env × Hp := ([(0, LV.pv (PV.sl n f es)), (1, LV.pv (PV.sl n2 f2 ss)), (5, LV.own 0), (6, LV.own 1), (7, Y6 x7), (8, Y6 x8), (9, Y6 x9)], [.sl (21, 1) true n_0 s_0, .sl (3, 1) true n_1 s_1])
section
variable (n f : Bool) (es : LL) (n2 f2 : Bool) (ss : LL) (J : Int -> Bool -> LL -> Bool -> LL -> Prop) (μ : Int -> Bool -> LL -> Bool -> LL -> Nat) (J2 : Int -> Int -> Int -> Bool -> LL -> Bool -> LL -> Int -> Int -> Int -> Bool -> LL -> Bool -> LL -> Prop) (μ2 : Int -> Int -> Int -> Bool -> LL -> Bool -> LL -> Nat)
def zje (R : PV -> Prop) : Prop :=
 (aH (zba n f es n2 f2 ss (0 : Int) true [] true []) /\ J (0 : Int) true [] true []) /\ ∀ (x7 : Int) (n_0 : Bool) (s_0 : LL) (n_1 : Bool) (s_1 : LL), J x7 n_0 s_0 n_1 s_1 -> if decide (x7 < (↑ss.length : Int)) = true then aI ss x7 1 /\ ∃ n1, (ss.getD x7.toNat []).head? = some (Z3 n1) /\ PCall qa 96 [PV.sl n f es, Z3 n1] fun v => ∃ n3, v = Z6 n3 /\ aI ss x7 1 /\ ∃ n4, (ss.getD x7.toNat []).head? = some (Z3 n4) /\ (aQ [[Z3 n4]] 1 /\ (s_0.length + 1) * 4 <= 140737488355328) /\ (aQ [[Z6 n3]] 1 /\ (s_1.length + 1) * 8 <= 140737488355328) /\ (aH (zbb n f es n2 f2 ss x7 n3 (↑s_0.length : Int) (n_0 && false) (s_0 ++ [[Z3 n4]]) (n_1 && false) (s_1 ++ [[Z6 n3]])) /\ J2 x7 n3 (↑s_0.length : Int) (n_0 && false) (s_0 ++ [[Z3 n4]]) (n_1 && false) (s_1 ++ [[Z6 n3]]) x7 n3 (↑s_0.length : Int) (n_0 && false) (s_0 ++ [[Z3 n4]]) (n_1 && false) (s_1 ++ [[Z6 n3]])) /\ ∀ (x71 x8 x9 : Int) (n_01 : Bool) (s_01 : LL) (n_11 : Bool) (s_11 : LL), J2 x7 n3 (↑s_0.length : Int) (n_0 && false) (s_0 ++ [[Z3 n4]]) (n_1 && false) (s_1 ++ [[Z6 n3]]) x71 x8 x9 n_01 s_01 n_11 s_11 ->
 let V1 := aH (zba n f es n2 f2 ss (i64.wrap (x71 + 1)) n_01 s_01 n_11 s_11) /\ J (i64.wrap (x71 + 1)) n_01 s_01 n_11 s_11 /\ μ (i64.wrap (x71 + 1)) n_01 s_01 n_11 s_11 < μ x7 n_0 s_0 n_1 s_1; if (decide (x9 > 0) && x8 != 0) = true then aI s_11 (i64.wrap (x9 - 1)) 1 /\ ∃ n5, (qc 0 (s_11.getD (i64.wrap (x9 - 1)).toNat [])).head? = some (Z6 n5) /\ if decide (n5 > x8) = true then aI s_01 (i64.wrap (x9 - 1)) 1 /\ ∃ n6, (qc 0 (s_01.getD (i64.wrap (x9 - 1)).toNat [])).head? = some (Z3 n6) /\ aI s_01 x9 1 /\ (1 = 1 /\ 1 <= (s_01.getD x9.toNat []).length) /\ aI s_11 (i64.wrap (x9 - 1)) 1 /\ ∃ n7, (qc 0 (s_11.getD (i64.wrap (x9 - 1)).toNat [])).head? = some (Z6 n7) /\ aI s_11 x9 1 /\ (1 = 1 /\ 1 <= (s_11.getD x9.toNat []).length) /\ aI ss x71 1 /\ ∃ n8, (ss.getD x71.toNat []).head? = some (Z3 n8) /\ aI (s_01.set x9.toNat (Z3 n6 :: zq (qc 1 (s_01.getD x9.toNat [])))) (i64.wrap (x9 - 1)) 1 /\ (1 = 1 /\ 1 <= ((s_01.set x9.toNat (Z3 n6 :: zq (qc 1 (s_01.getD x9.toNat [])))).getD (i64.wrap (x9 - 1)).toNat []).length) /\ aI (s_11.set x9.toNat (Z6 n7 :: zq (qc 1 (s_11.getD x9.toNat [])))) (i64.wrap (x9 - 1)) 1 /\ (1 = 1 /\ 1 <= ((s_11.set x9.toNat (Z6 n7 :: zq (qc 1 (s_11.getD x9.toNat [])))).getD (i64.wrap (x9 - 1)).toNat []).length) /\ aH (zbb n f es n2 f2 ss x71 x8 (i64.wrap (x9 - 1)) n_01 ((s_01.set x9.toNat (Z3 n6 :: zq (qc 1 (s_01.getD x9.toNat [])))).set (i64.wrap (x9 - 1)).toNat (Z3 n8 :: zq (qc 1 ((s_01.set x9.toNat (Z3 n6 :: zq (qc 1 (s_01.getD x9.toNat [])))).getD (i64.wrap (x9 - 1)).toNat [])))) n_11 ((s_11.set x9.toNat (Z6 n7 :: zq (qc 1 (s_11.getD x9.toNat [])))).set (i64.wrap (x9 - 1)).toNat (Z6 x8 :: zq (qc 1 ((s_11.set x9.toNat (Z6 n7 :: zq (qc 1 (s_11.getD x9.toNat [])))).getD (i64.wrap (x9 - 1)).toNat []))))) /\ J2 x7 n3 (↑s_0.length : Int) (n_0 && false) (s_0 ++ [[Z3 n4]]) (n_1 && false) (s_1 ++ [[Z6 n3]]) x71 x8 (i64.wrap (x9 - 1)) n_01 ((s_01.set x9.toNat (Z3 n6 :: zq (qc 1 (s_01.getD x9.toNat [])))).set (i64.wrap (x9 - 1)).toNat (Z3 n8 :: zq (qc 1 ((s_01.set x9.toNat (Z3 n6 :: zq (qc 1 (s_01.getD x9.toNat [])))).getD (i64.wrap (x9 - 1)).toNat [])))) n_11 ((s_11.set x9.toNat (Z6 n7 :: zq (qc 1 (s_11.getD x9.toNat [])))).set (i64.wrap (x9 - 1)).toNat (Z6 x8 :: zq (qc 1 ((s_11.set x9.toNat (Z6 n7 :: zq (qc 1 (s_11.getD x9.toNat [])))).getD (i64.wrap (x9 - 1)).toNat [])))) /\ μ2 x71 x8 (i64.wrap (x9 - 1)) n_01 ((s_01.set x9.toNat (Z3 n6 :: zq (qc 1 (s_01.getD x9.toNat [])))).set (i64.wrap (x9 - 1)).toNat (Z3 n8 :: zq (qc 1 ((s_01.set x9.toNat (Z3 n6 :: zq (qc 1 (s_01.getD x9.toNat [])))).getD (i64.wrap (x9 - 1)).toNat [])))) n_11 ((s_11.set x9.toNat (Z6 n7 :: zq (qc 1 (s_11.getD x9.toNat [])))).set (i64.wrap (x9 - 1)).toNat (Z6 x8 :: zq (qc 1 ((s_11.set x9.toNat (Z6 n7 :: zq (qc 1 (s_11.getD x9.toNat [])))).getD (i64.wrap (x9 - 1)).toNat [])))) < μ2 x71 x8 x9 n_01 s_01 n_11 s_11 else V1 else V1 else R (PV.sl n_0 false s_0)
theorem ztq {R : PV -> Prop} (h : zje n f es n2 f2 ss J μ J2 μ2 R) : PCall qa 78 [.sl n f es, .sl n2 f2 ss] R :=
 PCall.wz Tryz.func78 aP [0, 1, 4, 5, 6, 7, 8, 9, 13, 49] (gK [(4, (bC cz5 (zba n f es n2 f2 ss) J μ (fun e h => (gI e 7, oN h 0, oS h 0, oN h 1, oS h 1)) [(5, 21, 1), (6, 3, 1)] [0, 1, 5, 6, 7] [])), (10, (gL lR (zbb n f es n2 f2 ss) J2 μ2 (fun e h => (gI e 7, gI e 8, gI e 9, oN h 0, oS h 0, oN h 1, oS h 1)) [] [0, 1, 5, 6, 7, 8, 9] []))]) h
end
def zbc (tc tg tj tf tp : PV) (M S : List (PV × PV)) (n f : Bool) (es : LL) (x12 : Int) (h0_0 : PV) (n_1 : Bool) (s_1 : LL) : Env × Hp := ([(0, LV.pv (PV.ptr [tc, tg, tj, tf, tp, PV.mp M, PV.mp S])), (5, LV.box 0 0), (10, LV.pv (PV.sl n f es)), (11, LV.pv (PV.int i64 (es.length : Int))), (12, Y6 x12)], [.box [.pv h0_0, LV.own 1], .sl (21, 1) true n_1 s_1])
section
variable (tc tg tj tf tp : PV) (M S : List (PV × PV)) (n f : Bool) (es : LL) (J : Int -> PV -> Bool -> LL -> Prop) (μ : Int -> PV -> Bool -> LL -> Nat)
def zjf (R : PV -> Prop) : Prop :=
 fG (PV.ptr [tc, tg, tj, tf, tp, PV.mp M, PV.mp S]) = true /\ (aH (zbc tc tg tj tf tp M S n f es (0 : Int) (PV.ptr [tc, tg, tj, tf, tp, PV.mp M, PV.mp S]) true []) /\ J (0 : Int) (PV.ptr [tc, tg, tj, tf, tp, PV.mp M, PV.mp S]) true []) /\ ∀ (x12 : Int) (h0_0 : PV) (n_1 : Bool) (s_1 : LL), J x12 h0_0 n_1 s_1 -> if decide (x12 < (↑es.length : Int)) = true then aI es x12 1 /\ ∃ n1, (es.getD x12.toNat []).head? = some (Z3 n1) /\ ACall qa 81 [LV.box 0 0, LV.pv (Z3 n1), Y6 8] [Ob.box [LV.pv h0_0, LV.own 1], Ob.sl (21, 1) false n_1 s_1] fun (r : LV) (h' : Hp) => ∃ (t : Bool × LL), (r = LV.tup [] /\ h' = [Ob.box [LV.pv h0_0, LV.own 1], Ob.sl (21, 1) true t.fst t.snd]) /\ (True /\ True /\ True) /\ aH (zbc tc tg tj tf tp M S n f es (i64.wrap (x12 + 1)) h0_0 t.fst t.snd) /\ J (i64.wrap (x12 + 1)) h0_0 t.fst t.snd /\ μ (i64.wrap (x12 + 1)) h0_0 t.fst t.snd < μ x12 h0_0 n_1 s_1 else PCall qa 82 [PV.ptr [tc, tg, tj, tf, tp, PV.mp M, PV.mp S], PV.sl n_1 false s_1] fun v => ∃ n1 f1 es1, v = PV.sl n1 f1 es1 /\ R (PV.sl n1 f1 es1)
theorem ztr {R : PV -> Prop} (h : zjf tc tg tj tf tp M S n f es J μ R) : PCall qa 55 [.ptr [tc, tg, tj, tf, tp, .mp M, .mp S], .sl n f es] R :=
 PCall.wz Tryz.func55 (fun zz_ => match zz_ with | 81 => some ⟨Bool × LL, fun _ hs t => (.tup [], match hs with | [.box (x :: _), .sl ty _ _ _] => [.box [x, .own 1], .sl ty true t.1 t.2] | [.box (x :: _)] => [.box [x, .own 1], .sl (21, 1) true t.1 t.2] | h => h), none⟩ | _ => none) [0, 1, 4, 5, 7, 10, 11, 12, 13] (cA 3 (bC iY (zbc tc tg tj tf tp M S n f es) J μ (fun e h => (gI e 12, hP h 0 0, oN h 1, oS h 1)) [(1000001, 21, 1)] [0, 5, 10, 11, 12] [])) h
end
def zbd (n f : Bool) (es : LL) (n2 f2 : Bool) (ss : LL) (x6 : Int) (n_0 : Bool) (s_0 : LL) : Env × Hp := ([(0, LV.pv (PV.sl n f es)), (1, LV.pv (PV.sl n2 f2 ss)), (5, LV.own 0), (6, Y6 x6)], [.sl (21, 1) true n_0 s_0])
section
variable (n f : Bool) (es : LL) (n2 f2 : Bool) (ss : LL) (J : Int -> Bool -> LL -> Prop) (μ : Int -> Bool -> LL -> Nat)
def zjg (R : PV -> Prop) : Prop :=
 (aH (zbd n f es n2 f2 ss (0 : Int) true []) /\ J (0 : Int) true []) /\ ∀ (x6 : Int) (n_0 : Bool) (s_0 : LL), J x6 n_0 s_0 ->
 let K3 := fun (y0_ : Int) (y1_ : Bool) (y2_ : LL) => aH (zbd n f es n2 f2 ss y0_ y1_ y2_) /\ J y0_ y1_ y2_ /\ μ y0_ y1_ y2_ < μ x6 n_0 s_0; if decide (x6 < (↑ss.length : Int)) = true then aI ss x6 1 /\ ∃ n1, (ss.getD x6.toNat []).head? = some (Z3 n1) /\ ACall qa 77 [LV.pv (PV.sl n f es), LV.pv (Z3 n1), Y6 8] [] fun (r : LV) (h' : Hp) => (∃ (t : Bool × LL), (r = LV.own 0 /\ h' = [Ob.sl (21, 1) true t.fst t.snd]) /\ True /\ (aQ t.snd 1 /\ (s_0.length + t.snd.length) * 4 <= 140737488355328) /\ K3 (i64.wrap (x6 + 1)) (n_0 && t.snd.isEmpty) (s_0 ++ t.snd)) ∨ ∃ (t : LL), (r = LV.pv (PV.sl false true t) /\ h' = []) /\ True /\ (aQ t 1 /\ (s_0.length + t.length) * 4 <= 140737488355328) /\ K3 (i64.wrap (x6 + 1)) (n_0 && t.isEmpty) (s_0 ++ t) else PCall qa 78 [PV.sl n f es, PV.sl n_0 false s_0] fun v => ∃ n1 f1 es1, v = PV.sl n1 f1 es1 /\ R (PV.sl n1 f1 es1)
theorem zts {R : PV -> Prop} (h : zjg n f es n2 f2 ss J μ R) : PCall qa 52 [.sl n f es, .sl n2 f2 ss] R :=
 PCall.wz Tryz.func52 (fun zz_ => match zz_ with | 77 => some ⟨Bool × LL, fun _ hs t => (.own hs.length, hs ++ [.sl (21, 1) true t.1 t.2]), some ⟨LL, fun _ hs t => (.pv (.sl false true t), hs)⟩⟩ | _ => none) [0, 1, 4, 5, 6, 10] (cA 3 (bC dU (zbd n f es n2 f2 ss) J μ (fun e h => (gI e 6, oN h 0, oS h 0)) [(5, 21, 1)] [0, 1, 5, 6] [])) h
end
def zbe (n f : Bool) (es : LL) (n2 f2 : Bool) (ss : LL) (x13 : Int) : Env × Hp := ([(0, LV.pv (PV.sl n f es)), (1, LV.pv (PV.sl n2 f2 ss)), (12, LV.pv (PV.int i64 (es.length : Int))), (13, Y6 x13)], [])
section
variable (n f : Bool) (es : LL) (n2 f2 : Bool) (ss : LL) (J : Int -> Prop) (μ : Int -> Nat)
def zbf (R : PV -> Prop) : Prop :=
 if ((↑es.length : Int) != (↑ss.length : Int)) = true then R (Zb false) else (aH (zbe n f es n2 f2 ss (0 : Int)) /\ J (0 : Int)) /\ ∀ (x13 : Int), J x13 -> if decide (x13 < (↑es.length : Int)) = true then aI es x13 1 /\ ∃ n1, (es.getD x13.toNat []).head? = some (Z3 n1) /\ aI ss x13 1 /\ ∃ n3, (ss.getD x13.toNat []).head? = some (Z3 n3) /\ if (n1 != n3) = true then R (Zb false) else aH (zbe n f es n2 f2 ss (i64.wrap (x13 + 1))) /\ J (i64.wrap (x13 + 1)) /\ μ (i64.wrap (x13 + 1)) < μ x13 else R (Zb true)
theorem ztt {R : PV -> Prop} (h : zbf n f es n2 f2 ss J μ R) : PCall qa 36 [.sl n f es, .sl n2 f2 ss] R :=
 PCall.wz Tryz.func36 aP [0, 1, 4, 5, 10, 12, 13, 14, 24] (cA 4 (bC cz1 (zbe n f es n2 f2 ss) J μ (fun e h => (((gI e 13), ()))) [] [0, 1, 12, 13] [])) h
end
end Go.Eng
namespace Go.Eng.Rows
open Go Go.Eng Go.Eng.Trie
def rN (rows : List Row) : Bool -> Int -> List Int -> Int
 | m, _, [] => if m then 2 else 0
 | m, last, r :: l => if (decide (ofQ rows r = 1) || (!decide (aD rows 1 r = 0) && decide (aD rows 1 r < last))) then 1 else rN rows (m || decide (ofQ rows r = 2)) (aD rows 1 r) l
def ztu (rows : List Row) : Bool := rows.all fun x => !decide (x.kind = 2) || ((decide (1 <= x.a) && decide (x.a <= 1114111)) && (decide (0 <= x.b) && decide (x.b <= 1114111)))
theorem ztv {rows : List Row} (h : ztu rows = true) : cT rows := fun x hx hk => by
 have := List.all_eq_true.1 h x hx;simpa [hk] using this
def ztw (rows : List Row) : Bool := rows.all fun x => !decide (x.kind = 2) || (decide (x.fr = x.to) && ((decide (0 <= x.fr) && decide (x.fr <= 1114111)) && decide (first rows 2 x.fr = some (x.a, x.b))))
theorem ztx {rows : List Row} (h : ztw rows = true) : dG rows := fun x hx hk => by
 have := List.all_eq_true.1 h x hx;simpa [hk] using this
def zty (rows : List Row) : Bool := rows.all fun x => !decide (x.kind = 1) || decide (0 <= x.a)
def dY (rows : List Row) : Prop := ∀ r, 0 <= aD rows 1 r
theorem ztz {rows : List Row} (h : zty rows = true) : dY rows := fun r => by
 unfold aD;cases hf : bY rows 1 r with
 | none => exact qe _
 | some p =>
   obtain ⟨x, hx, hk, ha, _⟩ := jR hf;have := List.all_eq_true.1 h x hx;simp only [hk, decide_true, qcf, qce, aB] at this;simp only; omega
end Go.Eng.Rows
namespace Go.Eng
open Go Go.Proofs Go.Eng.Rows Go.Eng.Trie
theorem uZ : cT tab := ztv (by kernel_rfl)
theorem u4 : dG tab := ztx (by kernel_rfl)
theorem zbg : dY tab := ztz (by kernel_rfl)
theorem q1 : rN tab false 0 [101, 769] = 2 := by kernel_rfl
theorem q2 : rN tab false 0 [233] = 0 := by kernel_rfl
theorem q3 : rN tab false 0 [769, 807] = 1 := by kernel_rfl
theorem q4 : rN tab false 0 [8491] = 1 := by kernel_rfl
theorem q5 : zat tab 101 = true := by kernel_rfl
theorem q6 : zat tab 769 = false := by kernel_rfl
theorem q7 : zat tab 4449 = false := by kernel_rfl
end Go.Eng
namespace Go.Eng.Rows
open Go Go.Eng Go.Eng.Trie Go.Eng.Srt
def jV (rows : List Row) (l : List Int) : List Int := cK (aD rows 1) (l.flatMap (aV rows 8))
def dN (rows : List Row) (x : Int) : Bool := !bO x && decide (aJ rows x = (0, 0))
def zt0 (rows : List Row) : Prop := ∀ r, ∀ x ∈ aV rows 8 r, dN rows x = true
theorem zt1 {rows : List Row} {r : Int} {p : Int × Int} (h : bY rows 2 r = some p) : ∃ x ∈ rows, x.kind = 2 /\ x.fr <= r /\ r <= x.to := by
 obtain ⟨x, h1, h2, _, _, h3, h4, _⟩ := jR h;exact ⟨x, h1, h2, h3, h4⟩
theorem u5 {rows : List Row} {x : Int} (h : dN rows x = true) (d : Nat) : aV rows d x = [x] := by
 simp only [dN, qh, qp, aB] at h;exact rH h.1 h.2
theorem zjh {rows : List Row} : ∀ {l : List Int}, (∀ x ∈ l, dN rows x = true) -> l.flatMap (aV rows 8) = l
 | [], _ => rfl
 | x :: l, h => by
   rw [qbx, u5 (h x qac), zjh fun y hy => h y (qau _ hy)]; rfl
section
variable {rows : List Row} (hk : dY rows)
include hk
theorem zt2 {l : List Int} {x : Int} : x ∈ jV rows l ↔ ∃ r ∈ l, x ∈ aV rows 8 r := by
 unfold jV;rw [<- (uV hk _).mem, qbz]
theorem zbh (hp : cT rows) {l : List Int} (h : ∀ x ∈ l, -2147483648 <= x /\ x <= 2147483647) : ∀ x ∈ jV rows l, -2147483648 <= x /\ x <= 2147483647 := fun x hx => by
 obtain ⟨r, hr, h2⟩ := (zt2 hk).1 hx;rcases uN hp 8 r x h2 with rfl | h3
 ·exact h x hr
 ·omega
theorem zji (l : List Int) : (jV rows l).length <= 768 * l.length := by
 unfold jV;rw [<- (uV hk _).len]
 induction l with
 | nil => simp
 | cons x l ih =>
   have := lZ rows 8 x;rw [qbx, qb, qr]; omega
end
end Go.Eng.Rows
namespace Go.Eng
open Go Go.Proofs Go.Eng.Rows Go.Eng.Trie
open Go Go.Proofs Go.Eng.Rows Go.Eng.Trie
end Go.Eng
namespace Go.Eng
open Go Go.Proofs Go.Eng.Rows Go.Eng.Trie Go.Eng.Srt
theorem PCall.ofA {P : Program} {f : Nat} {args : List PV} {Q : LV -> Hp -> Prop} {R : PV -> Prop} (hc : ACall P f (args.map .pv) [] Q) (hq : ∀ r h', Q r h' -> ∃ p, kE h' r = some p /\ R p) : PCall P f args R :=
 ⟨hc.1, fun w I G cargs h1 h2 h3 => (hc.2 w I G cargs h1 h2 h3).mono fun e w' ⟨cv, r, h', I', G', e1, e2, e3, e4, e5⟩ => by
  obtain ⟨p, hp, hR⟩ := hq r h' e2;have ht := e5.t;have hno : ∀ b, ¬ aY [] G b := fun b ⟨o, ob, ho, _⟩ => by simp at ho
  exact ⟨cv, .pv p, [], AllB I' h' G', G', e1, ⟨p, rfl, hR⟩, HRel.nil G' (fun b hb => hb.elim (e3.cl b) e3.blk_lt), .pv _ _ (sY e3 e4 hp),
   ⟨⟨ht.os, ht.tape, ht.output, ht.size, ht.keep, fun b hb => .inl (ht.i1 b hb), fun b hb => hb.elim (ht.i2 b) (fun ho => (ht.own2 b ho).elim (fun x => absurd x (hno b)) (fun x => .inr (.inr x))), fun b hb => absurd hb (fun ⟨o, ob, ho, _⟩ => by simp at ho), ht.frz, ht.drawn⟩, ql _, fun o ob ho => by simp at ho⟩⟩⟩
theorem zt3 (n f : Bool) (l : List Int) (k : Nat) (hk : k < 1000) : PCall qa 7 [.sl n f (aA l), .int .i64 k] fun v => ∃ n f, v = .sl n f (aA (l.take k)) := by
 refine zto _ _ _ _ ?_; unfold zjd;refine aC (fun hc => ?_) (fun hc => ?_)
 ·simp only [aB, bG] at hc;refine ⟨⟨by unfold eU; simp; omega, dL _⟩, n, _, by rw [show ((k : Int)).toNat = k by omega]; simp only [aA, List.map_take, qab]; rfl⟩
 ·simp only [aB, bG] at hc;rw [qd (by omega)];exact ⟨_, _, rfl⟩
theorem zt4 (n f n2 f2 : Bool) (l m : List Int) (hl : l.length < 1000000000000) : za9 n f (aA l) n2 f2 (aA m) (fun i => 0 <= i /\ i <= l.length /\ l.take i.toNat = m.take i.toNat) (fun i => l.length - i.toNat) fun v => v = .bool (decide (l = m)) := by
 unfold za9;refine aC (fun hc => ?_) (fun hc => ?_)
 ·simp only [bG, bne_iff_ne, ne_eq] at hc;have : l ≠ m := fun e => hc (by rw [e]);simp [this]
 ·simp only [bG, bne_iff_ne, ne_eq, qk] at hc;have hlm : l.length = m.length := by omega
  refine ⟨⟨rfl, qe _, by omega, rfl⟩, ?_⟩;rintro i ⟨i0, i1, he⟩;refine aC (fun h => ?_) (fun h => ?_)
  ·simp only [aB, bG] at h;have hi : i.toNat < l.length := by omega
   have hj : i.toNat < m.length := by omega
   obtain ⟨g1, g2⟩ := fX i0 hi;obtain ⟨k1, k2⟩ := fX i0 hj;have hw : i64.wrap (i + 1) = i + 1 := aF (by omega) (by omega);refine ⟨g1, l[i.toNat], by rw [g2]; rfl, k1, m[i.toNat], by rw [k2]; rfl, aC (fun hc2 => ?_) (fun hc2 => ?_)⟩
   ·simp only [bne_iff_ne, ne_eq] at hc2;have : l ≠ m := fun e => hc2 (by subst e; rfl);simp [this]
   ·simp only [bne_iff_ne, ne_eq, qk] at hc2;rw [hw];exact ⟨rfl, ⟨by omega, by omega, by rw [show (i + 1).toNat = i.toNat + 1 by omega, cZ hi, cZ hj, he, hc2]⟩, by dsimp only; omega⟩
  ·simp only [aB, bG] at h;rw [qd (by omega), qd (by omega)] at he;simp [he]
theorem zt5 (n f n2 f2 : Bool) (l m : List Int) (hl : l.length < 1000000000000) : zbf n f (aA l) n2 f2 (aA m) (fun i => 0 <= i /\ i <= l.length /\ l.take i.toNat = m.take i.toNat) (fun i => l.length - i.toNat) fun v => v = .bool (decide (l = m)) := by
 unfold zbf;refine aC (fun hc => ?_) (fun hc => ?_)
 ·simp only [bG, bne_iff_ne, ne_eq] at hc;have : l ≠ m := fun e => hc (by rw [e]);simp [this]
 ·simp only [bG, bne_iff_ne, ne_eq, qk] at hc;have hlm : l.length = m.length := by omega
  refine ⟨⟨rfl, qe _, by omega, rfl⟩, ?_⟩;rintro i ⟨i0, i1, he⟩;refine aC (fun h => ?_) (fun h => ?_)
  ·simp only [aB, bG] at h;have hi : i.toNat < l.length := by omega
   have hj : i.toNat < m.length := by omega
   obtain ⟨g1, g2⟩ := fX i0 hi;obtain ⟨k1, k2⟩ := fX i0 hj;have hw : i64.wrap (i + 1) = i + 1 := aF (by omega) (by omega);refine ⟨g1, l[i.toNat], by rw [g2]; rfl, k1, m[i.toNat], by rw [k2]; rfl, aC (fun hc2 => ?_) (fun hc2 => ?_)⟩
   ·simp only [bne_iff_ne, ne_eq] at hc2;have : l ≠ m := fun e => hc2 (by subst e; rfl);simp [this]
   ·simp only [bne_iff_ne, ne_eq, qk] at hc2;rw [hw];exact ⟨rfl, ⟨by omega, by omega, by rw [show (i + 1).toNat = i.toNat + 1 by omega, cZ hi, cZ hj, he, hc2]⟩, by dsimp only; omega⟩
  ·simp only [aB, bG] at h;rw [qd (by omega), qd (by omega)] at he;simp [he]
theorem zt6 (n f n2 f2 : Bool) (l m : List Int) (hl : l.length < 1000000000000) : PCall qa 21 [.sl n f (aA l), .sl n2 f2 (aA m)] fun v => v = .bool (decide (l = m)) :=
 ztp _ _ _ _ _ _ _ _ (zt4 n f n2 f2 l m hl)
theorem zt7 (n f n2 f2 : Bool) (l m : List Int) (hl : l.length < 1000000000000) : PCall qa 36 [.sl n f (aA l), .sl n2 f2 (aA m)] fun v => v = .bool (decide (l = m)) :=
 ztt _ _ _ _ _ _ (fun i => 0 <= i /\ i <= l.length /\ l.take i.toNat = m.take i.toNat) (fun i => l.length - i.toNat) (zt5 n f n2 f2 l m hl)
section
variable {rows : List Row}
end
section
variable {rows : List Row}
theorem set1 {es : List (List PV)} {k : Nat} {v x : PV} (h : es.getD k [] = [x]) : es.set k (v :: zq (qc 1 (es.getD k []))) = es.set k [v] := by rw [h]; rfl
theorem zbi (A : List Int) (x : Int) (B : List Int) : (aA (A ++ x :: B)).getD A.length [] = [.int .i32 x] := by
 rw [ze7 (by simp)]; simp
theorem zbj (A : List Int) (x : Int) (B : List Int) : (aW (A ++ x :: B)).getD A.length [] = [.int .i64 x] := by
 simp [aW]
theorem zt8 (hk : dY rows) (n f n2 f2 : Bool) (L : List Int) (hrl : rows.length < 1000000) (hL : L.length < 1000000000) (hr : R32 L) :
 PCall qa 78 [.sl n f (bB rows), .sl n2 f2 (aA L)] fun v => ∃ n f, v = .sl n f (aA (cK (aD rows 1) L)) := by
 have olen : ∀ l, (cK (aD rows 1) l).length = l.length := fun l => ((uV (key := aD rows 1) hk l).len).symm
 refine ztq _ _ _ _ _ _
  (fun i _ s0 _ s1 => 0 <= i /\ i <= L.length /\ s0 = aA (cK (aD rows 1) (L.take i.toNat)) /\ s1 = aW ((cK (aD rows 1) (L.take i.toNat)).map (aD rows 1))) (fun i _ _ _ _ => L.length - i.toNat)
  (fun i0 _ _ _ _ _ _ i c k _ s0 _ s1 => i = i0 /\ 0 <= i /\ i.toNat < L.length /\ ∃ x A B, L[i.toNat]? = some x /\ c = aD rows 1 x /\ k = (A.length : Nat) /\ cK (aD rows 1) (L.take i.toNat) = A ++ B /\ (∀ y ∈ B, eQ (aD rows 1) x y = true) /\ s0 = aA (A ++ x :: B) /\ s1 = aW ((A ++ x :: B).map (aD rows 1))) (fun _ _ k _ _ _ _ => k.toNat) ?_
 unfold zje;refine ⟨⟨rfl, qe _, by omega, by simp [cK, aA], by simp [cK, aW]⟩, ?_⟩;rintro i n0 _ n1 _ ⟨i0, i1, rfl, rfl⟩;refine aC (fun hc => ?_) (fun hc => ?_)
 ·simp only [aB, bG] at hc;have hi : i.toNat < L.length := by omega
  obtain ⟨g1, g2⟩ := fX i0 hi;have hx := hr _ (qq hi);have hw : i64.wrap (i + 1) = i + 1 := aF (by omega) (by omega);have hol := olen (L.take i.toNat);rw [qi] at hol;refine ⟨g1, L[i.toNat], by rw [g2]; rfl, ?_⟩;refine (uO n f _ hrl hx).mono ?_;rintro _ rfl;refine ⟨_, rfl, g1, L[i.toNat], by rw [g2]; rfl, ⟨dL [_], by rw [bG]; omega⟩, ⟨mP (enc := fun n => [PV.int .i64 n]) (fun _ => rfl) [_], by rw [jQ, qbj]; omega⟩, ⟨rfl, ?_⟩, ?_⟩
  ·refine ⟨rfl, i0, hi, L[i.toNat], cK (aD rows 1) (L.take i.toNat), [], qag hi, rfl, by simp, by simp, fun y hy => (by cases hy), by simp [aA], by simp [aW]⟩
  ·rintro i' c k n01 _ n11 _ ⟨rfl, _, _, x, A, B, hxi, rfl, rfl, hord, hB, rfl, rfl⟩;have hwi : i64.wrap (i' + 1) = i' + 1 := aF (by omega) (by omega);have hAB : A.length + B.length = min i'.toNat L.length := by rw [<- hol, hord, qb]
   have hxe : L[i'.toNat] = x := (List.getElem?_eq_some_iff.1 hxi).2
   -- the end of the walk back
   have done : (A = [] ∨ ∃ A' z, A = A' ++ [z] /\ eQ (aD rows 1) x z = false) -> 0 <= i' + 1 /\ i' + 1 <= L.length /\ aA (A ++ x :: B) = aA (cK (aD rows 1) (L.take (i' + 1).toNat)) /\ aW ((A ++ x :: B).map (aD rows 1)) = aW ((cK (aD rows 1) (L.take (i' + 1).toNat)).map (aD rows 1)) := fun h => by
    have : cK (aD rows 1) (L.take (i' + 1).toNat) = A ++ x :: B := by
     rw [show (i' + 1).toNat = i'.toNat + 1 by omega, cZ hi, za3, hord, hxe, m9 hB h]
    rw [this];exact ⟨by omega, by omega, rfl, rfl⟩
   have hmu : L.length - (i' + 1).toNat < L.length - i'.toNat := by omega
   refine aC (fun h1 => ?_) (fun h1 => ?_)
   ·simp only [qh, aB, bne_iff_ne, ne_eq] at h1
    obtain ⟨A', z, rfl⟩ : ∃ A' z, A = A' ++ [z] := by
     rcases A.eq_nil_or_concat with rfl | ⟨D, z, rfl⟩
     ·simp at h1
     ·exact ⟨D, z, by simp⟩
    have lA : (A' ++ [z]).length = A'.length + 1 := by simp
    rw [lA] at hAB;have hwk : i64.wrap ((((A' ++ [z]).length : Nat) : Int) - 1) = (A'.length : Nat) := by rw [lA, aF (by omega) (by omega)]; omega
    have e0 : (A' ++ [z]) ++ x :: B = A' ++ z :: (x :: B) := by simp
    rw [hwk, e0];simp only [qaf, qbo, qam];rw [lA];generalize hk2 : aD rows 1 = key at *;have i1 : aI (aA (A' ++ z :: x :: B)) ((A'.length : Nat) : Int) 1 := bT (enc := fun n => [PV.int .i32 n]) (fun _ => rfl) (by omega) (by simp; omega);have i2 : aI (aA (A' ++ z :: x :: B)) ((A'.length + 1 : Nat) : Int) 1 := bT (enc := fun n => [PV.int .i32 n]) (fun _ => rfl) (by omega) (by simp; omega);have j1 : aI (aW (A'.map key ++ key z :: key x :: B.map key)) ((A'.length : Nat) : Int) 1 := bT mW (by omega) (by simp; omega);have j2 : aI (aW (A'.map key ++ key z :: key x :: B.map key)) ((A'.length + 1 : Nat) : Int) 1 := bT mW (by omega) (by simp; omega);have i3 : aI (aA (A' ++ z :: z :: B)) ((A'.length : Nat) : Int) 1 := bT (enc := fun n => [PV.int .i32 n]) (fun _ => rfl) (by omega) (by simp; omega);have j3 : aI (aW (A'.map key ++ key z :: key z :: B.map key)) ((A'.length : Nat) : Int) 1 := bT mW (by omega) (by simp; omega);have gz := zbi A' z (x :: B);have gx : (aA (A' ++ z :: x :: B)).getD (A'.length + 1) [] = [.int .i32 x] := by have := zbi (A' ++ [z]) x B; simpa using this
    have hz : (aW (A'.map key ++ key z :: key x :: B.map key)).getD A'.length [] = [.int .i64 (key z)] := by have := zbj (A'.map key) (key z) (key x :: B.map key); simpa using this
    have hx2 : (aW (A'.map key ++ key z :: key x :: B.map key)).getD (A'.length + 1) [] = [.int .i64 (key x)] := by have := zbj (A'.map key ++ [key z]) (key x) (B.map key); simpa using this
    have gz2 := zbi A' z (z :: B);have hz2 : (aW (A'.map key ++ key z :: key z :: B.map key)).getD A'.length [] = [.int .i64 (key z)] := by have := zbj (A'.map key) (key z) (key z :: B.map key); simpa using this
    have s1 : (aA (A' ++ z :: x :: B)).set (A'.length + 1) [.int .i32 z] = aA (A' ++ z :: z :: B) := by
     have := rI (A' ++ [z]) B x z;have e : (aA (A' ++ z :: x :: B)).set (A'.length + 1) [.int .i32 z] = aA ((A' ++ z :: x :: B).set (A'.length + 1) z) := by simp [aA, List.map_set]
     rw [e]; simp at this ⊢
    have s2 : (aA (A' ++ z :: z :: B)).set A'.length [.int .i32 x] = aA (A' ++ x :: z :: B) := by simp [aA]
    have t1 : (aW (A'.map key ++ key z :: key x :: B.map key)).set (A'.length + 1) [.int .i64 (key z)] = aW (A'.map key ++ key z :: key z :: B.map key) := by simp [aW]
    have t2 : (aW (A'.map key ++ key z :: key z :: B.map key)).set A'.length [.int .i64 (key x)] = aW (A'.map key ++ key x :: key z :: B.map key) := by simp [aW]
    refine ⟨j1, key z, by rw [hz]; rfl, aC (fun h2 => ?_) (fun h2 => ?_)⟩
    ·simp only [aB] at h2;refine ⟨i1, z, by rw [gz]; rfl, i2, ⟨trivial, by rw [gx]; exact ql _⟩, j1, key z, by rw [hz]; rfl, j2, ⟨trivial, by rw [hx2]; exact ql _⟩, g1, x, by rw [g2, hxe]; rfl, ?_⟩;rw [set1 gx, set1 hx2, s1, t1, set1 gz2, set1 hz2, s2, t2];refine ⟨i3, ⟨trivial, by rw [gz2]; exact ql _⟩, j3, ⟨trivial, by rw [hz2]; exact ql _⟩, rfl, ⟨trivial, i0, hi, x, A', z :: B, hxi, rfl, rfl, by rw [hord]; simp, fun y hy => ?_, rfl, by simp⟩, by simp⟩;rcases List.mem_cons.1 hy with rfl | hy
     ·exact oX.2 ⟨h1.2, h2⟩
     ·exact hB y hy
    ·simp only [aB] at h2;rw [hwi];obtain ⟨d1, d2, d3, d4⟩ := done (.inr ⟨A', z, rfl, uU.2 (.inr (by omega))⟩);refine ⟨rfl, ⟨d1, d2, ?_, ?_⟩, hmu⟩
     ·rw [<- d3, e0]
     ·rw [<- d4]; simp
   ·have hA : A = [] ∨ aD rows 1 x = 0 := by
     simp only [qh, aB, bne_iff_ne, ne_eq, not_and, qk] at h1;by_cases hA : A = []
     ·exact .inl hA
     ·exact .inr (h1 (by have := List.length_pos_iff.2 hA; omega))
    rw [hwi];refine ⟨rfl, done ?_, hmu⟩;rcases hA with h | h
    ·exact .inl h
    ·rcases A.eq_nil_or_concat with rfl | ⟨D, z, rfl⟩
     ·exact .inl rfl
     ·exact .inr ⟨D, z, by simp, uU.2 (.inl h)⟩
 ·simp only [aB, bG] at hc;rw [qd (by omega)];exact ⟨_, _, rfl⟩
end
end Go.Eng
