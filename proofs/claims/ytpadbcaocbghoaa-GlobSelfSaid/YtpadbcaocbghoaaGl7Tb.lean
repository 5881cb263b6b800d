/- States run over the code: what each function gives, and what follows. -/
import Derived.Test.YtpadbcaocbghoaaGl7Ta
open Go.IntKind (i64 i32)
open Go.Proofs.Try renaming prog → qa
open List renaming length_append → qb, take_of_length_le → qc, append_assoc → qf, replicate → qg, drop → qh, length_take → qi, take_append_drop → qk, length_cons → ql, cons_append → qm, getElem?_append_right → qn, flatten_cons → qo, mem_cons_self → qp, getElem_mem → qq, length_nil → qr, append_nil → qt, nil_append → qv, flatten_nil → qx, mem_cons_of_mem → qz, take → qaa, drop_zero → qab, getD → qac, drop_eq_getElem_cons → qad, mem_append → qae, filter_cons → qaf, length_drop → qag, filter_append → qah, map_append → qai, mem_cons → qal, getElem?_append_left → qan, getElem?_eq_getElem → qao, getElem?_replicate → qap, mem_singleton → qaq, getElem?_drop → qar, drop_of_length_le → qas, getElem?_eq_none → qau, not_mem_nil → qaw, flatten_append → qax, flatMap_append → qay, getElem?_take_of_lt → qba, getElem?_set → qbb, flatMap_singleton → qbc, mem_of_mem_take → qbg, dropLast_append_of_ne_nil → qbi, getElem_of_mem → qbj, flatMap_cons → qbo, exists_mem_of_ne_nil → qbp, pairwise_singleton → qbq, find?_cons → qbr, drop_eq_nil_of_le → qbs, length_singleton → qbt, mem_of_getElem? → qbu, mem_of_mem_drop → qbv, reverse_reverse → qbw, reverse_append → qbx, map_nil → qby, getElem?_take → qca, ext_getElem? → qcc, getElem_take → qcd, foldl_append → qce, reverse_cons → qcf, range' → qcg, mem_flatMap → qch, take_append → qcj, length_map → qcl, foldl_cons → qcm, perm_cons → qcn, take_take → qco, map_cons → qcp
open Int renaming le_refl → qd, tdiv_eq_ediv_of_nonneg → qaj, tmod_eq_emod_of_nonneg → qak, toNat_natCast → qat, le_of_lt → qav
open Bool renaming and_eq_true → qe, not_eq_true' → qj, and_true → qbd, not_eq_true → qbe, false_eq_true → qbl, eq_iff_iff → qck, false_or → qcq, not_true → qcr
open Nat renaming le_refl → qu, lt_or_ge → qaz, zero_add → qbf, eq_zero_or_pos → qbk, reduceAdd → qbm, one_le_two_pow → qbz, lt_of_lt_of_le → qcb
open Array renaming getD_eq_getD_getElem? → qw, getElem?_append_left → qam, replicate → qbh
open Decidable renaming not_not → qy
open Option renaming toList → qbn, getD_some → qci
set_option linter.unusedVariables false
set_option linter.unusedSimpArgs false
set_option maxRecDepth 100000
set_option linter.constructorNameAsVariable false
namespace Go.Eng
open Go Go.Proofs Go.Eng.Trie
def encF (v : (Bool × Bool × Bool × Bool)) : List PV := [.bool v.1, .bool v.2.1, .bool v.2.2.1, .bool v.2.2.2]
theorem EF : Enc qa [4, 4, 4, 4] encF := ⟨fun a => by
 simp only [encF, aX, qbd];rw [show Try.prog.underlying 4 = some (.bool) by kernel_rfl];rfl, fun a b => by
 obtain ⟨a0, a1, a2, a3⟩ := a;obtain ⟨b0, b1, b2, b3⟩ := b;simp only [encF, bK, dY, qbd];rw [qck]
 simp⟩
def pcF (p : Pc (Bool × Bool × Bool × Bool)) : List PV := [.int .i64 p.fr, .int .i64 p.to] ++ encF p.v
def kG (l : List (Pc (Bool × Bool × Bool × Bool))) : List (List PV) := l.map pcF
theorem zov (p : Pc (Bool × Bool × Bool × Bool)) : (pcF p).length = 6 := rfl
theorem zf4 (l : List (Pc (Bool × Bool × Bool × Bool))) : (kG l).length = l.length := by simp [kG]
theorem yY (n f : Bool) (l : List (Pc (Bool × Bool × Bool × Bool))) (z : (Bool × Bool × Bool × Bool)) (i last : Int) (hl : l.length < 4611686018427387904) (hok : ∀ p ∈ l, -9223372036854775808 <= p.fr - 1 /\ p.fr - 1 <= 9223372036854775807) :
 PCall qa 66 [.sl n f (kG l), .agg (encF z), .int .i64 i, .int .i64 last] fun v => v = .tup [.agg (encF (findL l z i last).1), .int .i64 (findL l z i last).2] := by
 refine zoq _ _ _ z.1 z.2.1 z.2.2.1 z.2.2.2 _ _ (fun a k _ _ _ _ => 0 <= k /\ k <= l.length /\ findL l z i last = findL (l.drop k.toNat) z i a) (fun _ k _ _ _ _ => l.length - k.toNat) ?_;unfold zfz;refine ⟨⟨rfl, qd _, by omega, rfl⟩, ?_⟩;rintro a k _ _ _ _ ⟨k0, k1, he⟩;refine aG (fun hc => ?_) (fun hc => ?_)
 ·simp only [aB, zf4] at hc;have hk : k.toNat < l.length := by omega
  have hw : i64.wrap (k + 1) = k + 1 := aD (by omega) (by omega);have hn : (k + 1).toNat = k.toNat + 1 := by omega
  have hg : (kG l).getD k.toNat [] = pcF l[k.toNat] := cC hk;have hix : aR (kG l) k 6 := cD zov k0 (by omega);have hm := hok _ (qq hk);rw [drop_cons hk] at he;rw [hw];dsimp only;rw [hn];have hmu : l.length - (k.toNat + 1) < l.length - k.toNat := by omega
  refine ⟨hix, l[k.toNat].fr, by rw [hg]; rfl, l[k.toNat].to, by rw [hg]; rfl, l[k.toNat].v.1, by rw [hg]; rfl, l[k.toNat].v.2.1, by rw [hg]; rfl, l[k.toNat].v.2.2.1, by rw [hg]; rfl, l[k.toNat].v.2.2.2, by rw [hg]; rfl, ?_⟩;generalize l[k.toNat] = p at *;have hw2 : i64.wrap (p.fr - 1) = p.fr - 1 := aD hm.1 hm.2;rw [hw2];rw [yH] at he;by_cases h1 : p.fr <= i
  ·refine bG (by simpa using h1) ?_
   by_cases h2 : i <= p.to
   ·refine bG (by simpa using h2) ?_
    rw [if_pos ⟨h1, h2⟩] at he;rw [he]
    repeat' (first | rfl | apply And.intro)
   ·refine bI (by simpa using h2) ?_
    rw [if_neg (by omega), if_neg (by omega)] at he;refine bI (by simp; omega) ?_;exact ⟨rfl, ⟨by omega, by omega, he⟩, hmu⟩
  ·refine bI (by simpa using h1) ?_
   rw [if_neg (by omega)] at he;refine bG (by simp; omega) ?_;by_cases h3 : p.fr <= a
   ·refine bG (by simpa using h3) ?_
    rw [if_pos (by omega)] at he;exact ⟨rfl, ⟨by omega, by omega, he⟩, hmu⟩
   ·refine bI (by simpa using h3) ?_
    rw [if_neg (by omega)] at he;exact ⟨rfl, ⟨by omega, by omega, he⟩, hmu⟩
 ·simp only [aB, zf4] at hc;rw [qas (by omega)] at he;rw [he]; rfl
def TrieF (sz : Int) (F : Int -> (Bool × Bool × Bool × Bool)) (v : PV) : Prop := ∃ n f n2 f2 idx blk, v = .ptr [.int .i64 sz, .sl n f (bJ idx), .sl n2 f2 (aY encF blk)] /\ TOK sz F idx blk
theorem zf5 {sz : Int} {F : Int -> (Bool × Bool × Bool × Bool)} {t : PV} (ht : TrieF sz F t) (i : Int) (h1 : sz <= 1114112) : PCall qa 55 [t, .int .i64 i] fun v => v = .agg (encF (if 0 <= i /\ i < sz then F i else (false, false, false, false))) := by
 obtain ⟨n, f, n2, f2, idx, blk, rfl, ht⟩ := ht;refine zor _ _ _ _ _ _ _ _ ?_;unfold zf0;refine aG (fun hc => ?_) (fun hc => ?_)
 ·simp only [aB] at hc;rw [if_neg (by omega)]; rfl
 ·simp only [aB] at hc;refine ⟨_, rfl, ?_⟩;refine aG (fun hc2 => ?_) (fun hc2 => ?_)
  ·simp only [aB, ge_iff_le] at hc2;rw [if_neg (by omega)]; rfl
  ·simp only [aB, ge_iff_le] at hc2;rw [if_pos (by omega)];obtain ⟨hq, g0, hk, hj, he⟩ := ht.get (i := i) (by omega) (by omega);have hw : i64.wrap (i.tdiv 128) = i / 128 := by rw [qaj (by omega)]; exact aD (by omega) (by omega)
   have hm : i.tmod 128 = i % 128 := qak (by omega);have hg : (bJ idx).getD (i / 128).toNat [] = [.int .i64 idx[(i / 128).toNat]] := cC hq;have hg2 : (aY encF blk).getD idx[(i / 128).toNat].toNat [] = cells encF blk[idx[(i / 128).toNat].toNat] := cC hk;refine ⟨_, _, _, rfl, _, _, _, rfl, ?_⟩;rw [hw];have := EF.at _ _ hj;simp only [ql, qr, qbf, qbm] at this
   have hcell : qh ((i % 128).toNat * 4) ((aY encF blk).getD idx[(i / 128).toNat].toNat []) = encF (F i) ++ (qh ((i % 128).toNat + 1) (blk[idx[(i / 128).toNat].toNat]).1).flatMap encF := by
    rw [hg2]; unfold cells; rw [this, he]
   refine ⟨cD tH (by omega) (by omega), idx[(i / 128).toNat], by rw [hg]; rfl, cD (EF.cells_len) g0 (by omega), by rw [hm]; omega, ?_⟩;rw [hm, hcell];exact ⟨(F i).1, rfl, (F i).2.1, rfl, (F i).2.2.1, rfl, (F i).2.2.2, rfl, rfl⟩
def cF (b : aN (Bool × Bool × Bool × Bool)) : List PV := cells encF b
def kvF (k : Int) : PV := .int .i64 k
def eZ (kn : List (aN (Bool × Bool × Bool × Bool) × Int)) : List (PV × PV) := bS (fun b => .agg (cF b)) kvF kn
def fU (ev : List ((Bool × Bool × Bool × Bool) × Int)) : List (PV × PV) := bS (fun v => .agg (encF v)) kvF ev
def lI (sz : Int) (kn : List (aN (Bool × Bool × Bool × Bool) × Int)) (ev : List ((Bool × Bool × Bool × Bool) × Int)) (ixm ixn bkm bkn : Bool) (idx : List Int) (blk : List (aN (Bool × Bool × Bool × Bool))) : Hp :=
 [.box [.box 1 0, .mp 2, .mp 3], .box [.pv (.int .i64 sz), .own 4, .own 5], .mp (eZ kn), .mp (fU ev), .sl (3, 1) ixm ixn (bJ idx), .sl (159, 512) bkm bkn (aY encF blk)]
theorem mE (b : aN (Bool × Bool × Bool × Bool)) : (cF b).length = 512 := EF.cells_len b
theorem yZ (b : aN (Bool × Bool × Bool × Bool)) : qaa 512 (qh 0 (cF b)) = cF b := by rw [qab, qc (by rw [mE]; omega)]
theorem zf6 : eB qa 159 = true := by kernel_rfl
theorem zf7 : fG qa 159 = (qg 128 [4, 4, 4, 4]).flatten := by kernel_rfl
theorem zf8 : eB qa 96 = true := by kernel_rfl
theorem zf9 : fG qa 96 = [4, 4, 4, 4] := by kernel_rfl
theorem zow (b : aN (Bool × Bool × Bool × Bool)) (kn : List (aN (Bool × Bool × Bool × Bool) × Int)) : bO (.agg (cF b)) (eZ kn) = (bM b kn).map kvF := l8 (ek := fun b => PV.agg (cF b)) (ev := kvF) EF.blkEq b kn
theorem zox (b : aN (Bool × Bool × Bool × Bool)) (k : Int) (kn : List (aN (Bool × Bool × Bool × Bool) × Int)) : bA (.agg (cF b)) (kvF k) (eZ kn) = eZ (bQ b k kn) := jE (ek := fun b => PV.agg (cF b)) (ev := kvF) EF.blkEq b k kn
theorem zga (b : aN (Bool × Bool × Bool × Bool)) : aV qa 159 (.agg (cF b)) = true := EF.blkOk zf6 zf7 b
theorem zgb (kn : List (aN (Bool × Bool × Bool × Bool) × Int)) : bV qa 159 (eZ kn) := EF.blksOk zf6 zf7 kn
theorem zgc {sz : Int} {F : Int -> (Bool × Bool × Bool × Bool)} {idx : List Int} {blk : List (aN (Bool × Bool × Bool × Bool))} {kn : List (aN (Bool × Bool × Bool × Bool) × Int)} {ev : List ((Bool × Bool × Bool × Bool) × Int)} (hk : TInv sz F idx blk kn ev) (hb : blk.length <= 10000000) (ixn bkn : Bool) (b : aN (Bool × Bool × Bool × Bool)) :
 ACall qa 68 [.box 0 0, .pv (.agg (cF b))] (lI sz kn ev false ixn false bkn idx blk) fun r h' => ∃ k kn' bn' blk', r = .pv (kvF k) /\ h' = lI sz kn' ev false ixn true bn' idx blk' /\ TInv sz F idx blk' kn' ev /\ 0 <= k /\ blk'[k.toNat]? = some b /\ blk'.length <= blk.length + 1 := by
 refine ACall.mark 1000 [5] (R := fun r h' => ∃ k kn' bm' bn' blk', r = .pv (kvF k) /\ h' = lI sz kn' ev false ixn bm' bn' idx blk' /\ TInv sz F idx blk' kn' ev /\ 0 <= k /\ blk'[k.toNat]? = some b /\ blk'.length <= blk.length + 1) ?_ ?_
 ·refine zos _ _ _ _ _ _ _ _ _ _ ?_;unfold zf1;rw [yZ, zow];have h128 : 512 <= (qh 0 (cF b)).length := by rw [qab, mE]; omega
  refine ⟨h128, zgb kn, zga b, fun v hv => ?_, fun hv => ?_⟩
  ·cases hg : bM b kn with
   | none => rw [hg] at hv; cases hv
   | some k =>
     rw [hg] at hv; cases hv;obtain ⟨k0, k1⟩ := hk.kn_ok b k hg;exact ⟨k, rfl, k, kn, false, bkn, blk, rfl, rfl, hk, k0, k1, by omega⟩
  ·have hsz : aS [cF b] 512 /\ ((aY encF blk).length + 1) * 512 <= 140737488355328 := ⟨fun e he => by simp at he; subst he; exact mE b, by rw [kE]; omega⟩
   have fin : ∃ k kn' bm' bn' blk', LV.pv (.int .i64 ((aY encF blk).length : Int)) = .pv (kvF k) /\
    [Ob.box [.box 1 0, .mp 2, .mp 3], .box [.pv (.int .i64 sz), .own 4, .own 5], .mp (bA (.agg (cF b)) (.int .i64 ((aY encF blk).length : Int)) (eZ kn)), .mp (fU ev), .sl (3, 1) false ixn (bJ idx), .sl (159, 512) true (bkn && false) (aY encF blk ++ [cF b])] = lI sz kn' ev false ixn bm' bn' idx blk' /\ TInv sz F idx blk' kn' ev /\ 0 <= k /\ blk'[k.toNat]? = some b /\ blk'.length <= blk.length + 1 := by
    refine ⟨blk.length, bQ b (blk.length : Int) kn, true, bkn && false, blk ++ [b], by rw [kE]; rfl, ?_, hk.place b, by omega, by simp, by simp⟩;have := zox b (blk.length : Int) kn;unfold kvF at this;rw [kE, this];simp [lI, aY, cF]
   exact ⟨h128, zgb kn, zga b, h128, ⟨mE b, hsz, fin⟩, mE b, ⟨hsz, fin⟩, hsz, fin⟩
 ·rintro r h' ⟨k, kn', bm', bn', blk', rfl, rfl, h1, h2, h3, h4⟩;exact ⟨k, kn', bn', blk', rfl, rfl, h1, h2, h3, h4⟩
theorem zoy (v : (Bool × Bool × Bool × Bool)) (ev : List ((Bool × Bool × Bool × Bool) × Int)) : bO (.agg (encF v)) (fU ev) = (bM v ev).map kvF := l8 (ek := fun v => PV.agg (encF v)) (ev := kvF) EF.valEq v ev
theorem zoz (v : (Bool × Bool × Bool × Bool)) (k : Int) (ev : List ((Bool × Bool × Bool × Bool) × Int)) : bA (.agg (encF v)) (kvF k) (fU ev) = fU (bQ v k ev) := jE (ek := fun v => PV.agg (encF v)) (ev := kvF) EF.valEq v k ev
theorem zgd (v : (Bool × Bool × Bool × Bool)) : aV qa 96 (.agg (encF v)) = true := EF.valOk zf8 zf9 v
theorem zge (ev : List ((Bool × Bool × Bool × Bool) × Int)) : bV qa 96 (fU ev) := EF.valsOk zf8 zf9 ev
theorem y0 (l : List (Bool × Bool × Bool × Bool)) (j : Nat) (hj : j < l.length) (v : (Bool × Bool × Bool × Bool)) : aO (l.flatMap encF) (0 + j * 4) (encF v) = (l.set j v).flatMap encF := by
 have := EF.put l j hj v;simp only [ql, qr, qbf, qbm] at this ⊢;exact this
theorem y6 (l : List (Bool × Bool × Bool × Bool)) : (l.flatMap encF).length = l.length * 4 := EF.flen l
theorem zgf : qg 512 (PV.bool false) = (qg 128 ((false, false, false, false) : (Bool × Bool × Bool × Bool))).flatMap encF := by rfl
theorem zo0 {l : List (Bool × Bool × Bool × Bool)} {v : (Bool × Bool × Bool × Bool)} (hl : l.length = 128) (h : ∀ q, q < 128 -> l[q]? = some v) : l = qg 128 v := by
 refine qcc fun q => ?_;rcases qaz q 128 with hq | hq
 ·rw [h q hq, qap, if_pos hq]
 ·rw [qau (by omega), qau (by simp; omega)]
theorem zo1 {sz : Int} {F : Int -> (Bool × Bool × Bool × Bool)} {idx : List Int} {blk : List (aN (Bool × Bool × Bool × Bool))} {kn : List (aN (Bool × Bool × Bool × Bool) × Int)} {ev : List ((Bool × Bool × Bool × Bool) × Int)} (hk : TInv sz F idx blk kn ev) (hb : blk.length <= 10000000) (ixn bkn : Bool) (v : (Bool × Bool × Bool × Bool)) :
 ACall qa 67 [.box 0 0, .pv (.agg (encF v))] (lI sz kn ev false ixn false bkn idx blk) fun r h' => ∃ k kn' ev' bn' blk', r = .pv (kvF k) /\ h' = lI sz kn' ev' false ixn true bn' idx blk' /\ TInv sz F idx blk' kn' ev' /\ 0 <= k /\ blk'[k.toNat]? = some (rep v) /\ blk'.length <= blk.length + 1 := by
 refine ACall.mark 1000 [5] (R := fun r h' => ∃ k kn' ev' bm' bn' blk', r = .pv (kvF k) /\ h' = lI sz kn' ev' false ixn bm' bn' idx blk' /\ TInv sz F idx blk' kn' ev' /\ 0 <= k /\ blk'[k.toNat]? = some (rep v) /\ blk'.length <= blk.length + 1) ?_ ?_
 ·refine zot _ _ _ _ _ _ _ _ _ v.1 v.2.1 v.2.2.1 v.2.2.2 (fun x m2 m3 c => 0 <= x /\ x <= 128 /\ m2 = eZ kn /\ m3 = fU ev /\ ∃ l : List (Bool × Bool × Bool × Bool), l.length = 128 /\ c = l.flatMap encF /\ ∀ q, q < x.toNat -> l[q]? = some v) (fun x _ _ _ => 128 - x.toNat) ?_;unfold zf2;rw [show [.bool v.1, .bool v.2.1, .bool v.2.2.1, .bool v.2.2.2] = encF v from rfl, zoy];refine ⟨zge ev, zgd v, fun u hu => ?_, fun hu => ⟨⟨rfl, qd _, by omega, rfl, rfl, qg 128 (false, false, false, false), by simp, zgf, fun q hq => by simp at hq⟩, ?_⟩⟩
  ·cases hg : bM v ev with
   | none => rw [hg] at hu; cases hu
   | some k =>
     rw [hg] at hu; cases hu;obtain ⟨k0, k1⟩ := hk.ev_ok v k hg;exact ⟨k, rfl, k, kn, ev, false, bkn, blk, rfl, rfl, hk, k0, k1, by omega⟩
  ·rintro x _ _ _ ⟨x0, x1, rfl, rfl, l, hl, rfl, hq⟩;refine aG (fun hc => ?_) (fun hc => ?_)
   ·simp only [aB] at hc;have hw : i64.wrap (x + 1) = x + 1 := aD (by omega) (by omega);have hn : (x + 1).toNat = x.toNat + 1 := by omega
    rw [y0 l x.toNat (by omega) v, hw, y6];refine ⟨⟨x0, hc⟩, ⟨rfl, by omega⟩, rfl, ⟨by omega, by omega, rfl, rfl, l.set x.toNat v, by simpa using hl, rfl, fun q hq' => ?_⟩, by dsimp only; omega⟩
    rw [hn] at hq';rw [qbb];by_cases e : x.toNat = q
    ·rw [if_pos e, if_pos (by omega)]
    ·rw [if_neg e]; exact hq q (by omega)
   ·simp only [aB] at hc;have hx : x = 128 := by omega
    subst hx;have hrep := zo0 hl hq;subst hrep;have hcI : (qg 128 v).flatMap encF = cF (rep v) := rfl;rw [hcI, yZ];refine ⟨by rw [qab, mE]; omega, ?_⟩;refine (zgc hk hb ixn bkn (rep v)).mono ?_;rintro _ _ ⟨k, kn', bn', blk', rfl, rfl, h1, h2, h3, h4⟩;refine ⟨(k, eZ kn', bn', aY encF blk'), ⟨rfl, rfl⟩, ⟨trivial, ⟨rfl, rfl, rfl⟩, trivial, trivial, trivial, trivial, trivial⟩, zge ev, zgd v, ?_⟩;have := zoz v k ev;unfold kvF at this;simp only [this];exact ⟨k, kn', bQ v k ev, _, bn', blk', rfl, rfl, h1.even h2 h3, h2, h3, h4⟩
 ·rintro r h' ⟨k, kn', ev', bm', bn', blk', rfl, rfl, h1, h2, h3, h4⟩;exact ⟨k, kn', ev', bn', blk', rfl, rfl, h1, h2, h3, h4⟩
theorem zo2 {v : (Bool × Bool × Bool × Bool)} {j : Nat} {u : (Bool × Bool × Bool × Bool)} (h : (Trie.rep v).1[j]? = some u) : u = v /\ j < 128 := by
 simp only [Trie.rep, qap] at h;split at h
 ·rename_i hj; cases h; exact ⟨rfl, hj⟩
 ·cases h
theorem zo3 (sz : Int) (z : (Bool × Bool × Bool × Bool)) (n f : Bool) (l : List (Pc (Bool × Bool × Bool × Bool))) (hl : l.length < 4611686018427387904) (hok : ∀ p ∈ l, -9223372036854775808 <= p.fr - 1 /\ p.fr - 1 <= 9223372036854775807) (hs1 : 1 <= sz) (hs2 : sz <= 1114112) :
 PCall qa 45 [.int .i64 sz, .agg (encF z), .sl n f (kG l)] fun v => TrieF sz (eV l z) v := by
 have hF := fun i => p7 l z i (sz - 1);generalize hFF : eV l z = F at *
 refine zou _ z.1 z.2.1 z.2.2.1 z.2.2.2 _ _ _
  (fun x10 x11 va vb vc vd _ s2 _ s3 m4 m5 => ∃ idx blk kn ev, s2 = bJ idx /\ s3 = aY encF blk /\ m4 = eZ kn /\ m5 = fU ev /\ TInv sz F idx blk kn ev /\ x11 = 128 * idx.length /\ blk.length <= idx.length /\ x11 < sz + 128 /\ (∀ j, x11 <= j -> j <= x10 -> F j = (va, vb, vc, vd)) /\ x10 <= sz - 1)
  (fun _ x11 _ _ _ _ _ _ _ _ _ _ => (sz + 128 - x11).toNat)
  (fun _ y11 _ _ _ _ _ _ _ _ _ _ _ x10 x11 x13 va vb vc vd _ s2 _ s3 m4 m5 => ∃ idx blk kn ev, s2 = bJ idx /\ s3 = aY encF blk /\ m4 = eZ kn /\ m5 = fU ev /\ TInv sz F idx blk kn ev /\ x11 = 128 * idx.length /\ x11 < sz + 128 /\ (∀ j, x11 <= j -> j <= x10 -> F j = (va, vb, vc, vd)) /\ x10 <= sz - 1 /\ 0 <= x13 /\ blk[x13.toNat]? = some (rep (va, vb, vc, vd)) /\
   ((x11 = y11 /\ x11 < sz /\ (x11 + 127 <= x10 ∨ sz - 1 <= x10) /\ blk.length <= idx.length + 1) ∨ (y11 + 128 <= x11 /\ blk.length <= idx.length)))
  (fun _ x11 _ _ _ _ _ _ _ _ _ _ _ => (sz + 128 - x11).toNat)
  (fun _ y11 _ _ _ _ _ _ _ _ _ _ _ _ x10 x11 x va vb vc vd c _ s3 _ s4 m5 m6 => ∃ idx blk kn ev, s3 = bJ idx /\ s4 = aY encF blk /\ m5 = eZ kn /\ m6 = fU ev /\ TInv sz F idx blk kn ev /\ x11 = 128 * idx.length /\ blk.length <= idx.length /\ x11 = y11 /\ x11 < sz /\ 0 <= x /\ x <= 128 /\ x10 <= sz - 1 /\ (∀ j, x11 + x <= j -> j <= x10 -> F j = (va, vb, vc, vd)) /\
   ∃ b : List (Bool × Bool × Bool × Bool), b.length = 128 /\ c = b.flatMap encF /\ ∀ (q : Nat) u, b[q]? = some u -> q < x.toNat -> x11 + q < sz -> u = F (x11 + q))
  (fun _ _ x _ _ _ _ _ _ _ _ _ _ _ => (128 - x).toNat) ?_
 unfold zf3;have hw1 : i64.wrap (sz - 1) = sz - 1 := aD (by omega) (by omega);rw [hw1];refine bI (by simp; omega) ?_;refine (yY n f l z 0 (sz - 1) hl hok).mono ?_;rintro _ rfl;obtain ⟨_, f2, f3, f4⟩ := hF 0 (by omega);refine ⟨_, rfl, rfl, _, rfl, _, rfl, rfl, _, rfl, _, rfl, _, rfl, _, rfl, _, rfl, _, rfl, ⟨rfl, [], [], [], [], rfl, rfl, rfl, rfl, TInv.nil, rfl, qu _, by omega, f4, f3⟩, ?_⟩;clear f2 f3 f4;rintro u0 x v0a v0b v0c v0d _ _ _ _ _ _ ⟨idx, blk, kn, ev, rfl, rfl, rfl, rfl, hk, hx, hb, hx2, hv0, hu0⟩;refine aG (fun hc => ?_) (fun hc => ?_)
 ·simp only [aB] at hc;have hw2 : i64.wrap (x + 128) = x + 128 := aD (by omega) (by omega);rw [hw2]
  have hmin : ∀ a : Int, i64.wrap ((if sz < a + 128 then sz else a + 128) - 1) = (if sz < a + 128 then sz else a + 128) - 1 ∨ ¬ (0 <= a /\ a <= 1114112) := fun a => by
   by_cases ha : 0 <= a /\ a <= 1114112
   ·left; split <;> exact aD (by omega) (by omega)
   ·exact .inr ha
  have hmx := (hmin x).resolve_right (by omega);rw [hmx];refine aG (fun hgt => ?ga) (fun hgt => ?gb)
  case' ga =>
   refine (yY n f l z x (sz - 1) hl hok).mono ?_;rintro _ rfl;obtain ⟨_, hux, hu, hv⟩ := hF x (by omega);refine ⟨_, rfl, rfl, _, rfl, _, rfl, rfl, _, rfl, _, rfl, _, rfl, _, rfl, _, rfl, _, rfl, ?_⟩
   revert hv hu
   generalize (findL l z x (sz - 1)).1 = v;generalize (findL l z x (sz - 1)).2 = u;clear hv0 hu0 hux;intro hu hv
  case' gb =>
   obtain ⟨v, rfl, rfl, rfl, rfl⟩ : ∃ v : (Bool × Bool × Bool × Bool), v.1 = v0a /\ v.2.1 = v0b /\ v.2.2.1 = v0c /\ v.2.2.2 = v0d := ⟨(v0a, v0b, v0c, v0d), rfl, rfl, rfl, rfl⟩
   revert hv0 hu0 hgt
   generalize u0 = u;intro hu hgt hv
  all_goals
   clear hgt;refine aG (fun hc2 => ?_) (fun hc2 => ?_)
   ·simp only [aB, ge_iff_le] at hc2;have hc3 : x + 127 <= u ∨ sz - 1 <= u := by split at hc2 <;> omega
    refine (zo1 hk (by omega) _ _ v).mono ?_;rintro _ _ ⟨k, kn', ev', bn', blk', rfl, rfl, g1, g2, g3, g4⟩;refine ⟨(k, eZ kn', fU ev', bn', aY encF blk'), ⟨rfl, rfl⟩, ⟨trivial, ⟨rfl, rfl, rfl⟩, trivial, trivial, trivial, trivial, trivial⟩, ⟨rfl, idx, blk', kn', ev', rfl, rfl, rfl, rfl, g1, hx, hx2, hv, hu, g2, g3, .inl ⟨rfl, hc, hc3, by omega⟩⟩, ?_⟩;rintro t y k' wa wb wc wd _ _ _ _ _ _ ⟨idx2, blk2, kn2, ev2, rfl, rfl, rfl, rfl, hk2, hy, hy2, hw, ht, hk0, hkb, hor⟩;have hwy : i64.wrap (y + 128) = y + 128 := aD (by omega) (by omega);rw [hwy, (hmin y).resolve_right (by omega)];refine aG (fun hc4 => ?_) (fun hc4 => ?_)
    ·simp only [qe, aB, ge_iff_le] at hc4;have hc5 : y + 127 <= t ∨ sz - 1 <= t := by have := hc4.2; split at this <;> omega
     refine ⟨⟨fun e he => by simp at he; subst he; rfl, by rw [kD]; omega⟩, rfl, ⟨idx2 ++ [k'], blk2, kn2, ev2, by simp [bJ], rfl, rfl, rfl, hk2.push hk0 hkb fun j u' hj hlt => ?_, by simp; omega, by omega, fun j h1 h2 => hw j (by omega) h2, ht, hk0, hkb, .inr ⟨by omega, by simp; omega⟩⟩, by dsimp only; omega⟩;obtain ⟨rfl, hj2⟩ := zo2 hj;exact (hw _ (by omega) (by omega)).symm
    ·have hw128 : i64.wrap (y - 128) = y - 128 := aD (by omega) (by omega);have hback : i64.wrap (y - 128 + 128) = y := by rw [aD (by omega) (by omega)]; omega
     rw [hw128, hback];simp only [qe, aB, ge_iff_le, not_and] at hc4
     have hor2 : x + 128 <= y /\ blk2.length <= idx2.length := by
      rcases hor with ⟨h1, h2, h3, h4⟩ | h
      ·exfalso;have := hc4 h2;split at this <;> omega
      ·exact h
     exact ⟨rfl, ⟨idx2, blk2, kn2, ev2, rfl, rfl, rfl, rfl, hk2, hy, hor2.2, hy2, hw, ht⟩, by dsimp only; omega⟩
   ·clear hc2;refine ⟨⟨rfl, idx, blk, kn, ev, rfl, rfl, rfl, rfl, hk, hx, hb, rfl, hc, qd _, by omega, hu, fun j h1 h2 => hv j (by omega) h2, qg 128 (false, false, false, false), by simp, zgf, fun q u' _ hq _ => by simp at hq⟩, ?_⟩;rintro t y i wa wb wc wd _ _ _ _ _ _ _ ⟨idx2, blk2, kn2, ev2, rfl, rfl, rfl, rfl, hk2, hy, hb2, hyx, hy2, i0, i1, ht, hw, b, hbl, rfl, hbq⟩;obtain ⟨w, rfl, rfl, rfl, rfl⟩ : ∃ v : (Bool × Bool × Bool × Bool), v.1 = wa /\ v.2.1 = wb /\ v.2.2.1 = wc /\ v.2.2.2 = wd := ⟨(wa, wb, wc, wd), rfl, rfl, rfl, rfl⟩;have hwyi : i64.wrap (y + i) = y + i := aD (by omega) (by omega);have hwi : i64.wrap (i + 1) = i + 1 := aD (by omega) (by omega);have hwy : i64.wrap (y + 128) = y + 128 := aD (by omega) (by omega);rw [hwyi, hwi, hwy]
    have step : ∀ (v' : (Bool × Bool × Bool × Bool)) (u' : Int), (∀ j, y + i <= j -> j <= u' -> F j = v') -> u' <= sz - 1 -> (y + i < sz -> F (y + i) = v') -> i < 128 ->
     ∃ idx blk kn ev, bJ idx2 = bJ idx /\ aY encF blk2 = aY encF blk /\ eZ kn2 = eZ kn /\ fU ev2 = fU ev /\ TInv sz F idx blk kn ev /\ y = 128 * idx.length /\ blk.length <= idx.length /\ y = x /\ y < sz /\ 0 <= i + 1 /\ i + 1 <= 128 /\ u' <= sz - 1 /\ (∀ j, y + (i + 1) <= j -> j <= u' -> F j = v') /\
      ∃ c : List (Bool × Bool × Bool × Bool), c.length = 128 /\ (b.set i.toNat v').flatMap encF = c.flatMap encF /\ ∀ (q : Nat) u, c[q]? = some u -> q < (i + 1).toNat -> y + q < sz -> u = F (y + q) := fun v' u' h1 h2 h3 h4 => by
     refine ⟨idx2, blk2, kn2, ev2, rfl, rfl, rfl, rfl, hk2, hy, hb2, hyx, hy2, by omega, by omega, h2, fun j a1 a2 => h1 j (by omega) a2, b.set i.toNat v', by simpa using hbl, rfl, fun q u hq hq2 hq3 => ?_⟩
     rw [qbb] at hq;by_cases e : i.toNat = q
     ·rw [if_pos e, if_pos (by omega)] at hq;cases hq;have e2 : y + (q : Int) = y + i := by omega
      rw [e2];exact (h3 (by omega)).symm
     ·rw [if_neg e] at hq;exact hbq q u hq (by omega) hq3
    refine aG (fun hc5 => ?_) (fun hc5 => ?_)
    ·simp only [aB] at hc5;refine aG (fun hc6 => ?_) (fun hc6 => ?_)
     ·simp only [qe, aB, gt_iff_lt] at hc6;refine (yY n f l z (y + i) (sz - 1) hl hok).mono ?_;rintro _ rfl;obtain ⟨q1, q2, q3, q4⟩ := hF (y + i) (by omega);refine ⟨_, rfl, rfl, _, rfl, _, rfl, rfl, _, rfl, _, rfl, _, rfl, _, rfl, _, rfl, _, rfl, ⟨i0, hc5⟩, ⟨rfl, by rw [y6]; omega⟩, rfl, ?_, by dsimp only; omega⟩;have hput := y0 b i.toNat (by omega) (findL l z (y + i) (sz - 1)).1;unfold encF at hput ⊢;rw [hput];exact step _ _ q4 q3 (fun _ => q1.symm) hc5
     ·simp only [qe, aB, gt_iff_lt, not_and] at hc6;refine ⟨⟨i0, hc5⟩, ⟨rfl, by rw [y6]; omega⟩, rfl, ?_, by dsimp only; omega⟩;have hput := y0 b i.toNat (by omega) w;unfold encF at hput ⊢;rw [hput];exact step _ _ hw ht (fun h => hw _ (qd _) ((Int.lt_or_le t (y + i)).elim (fun h2 => absurd h (hc6 h2)) id)) hc5
    ·simp only [aB] at hc5;have hi : i = 128 := by omega
     subst hi;obtain ⟨B, hB⟩ : ∃ B : aN (Bool × Bool × Bool × Bool), B.1 = b := ⟨⟨b, hbl⟩, rfl⟩;subst hB;have hcI : B.1.flatMap encF = cF B := rfl;rw [hcI, yZ];refine ⟨by rw [qab, mE]; omega, (fun h => ⟨h, h⟩) ?_⟩;refine (zgc hk2 (by omega) _ _ B).mono ?_;rintro _ _ ⟨k, kn', bn', blk', rfl, rfl, h1, h2, h3, h4⟩;refine ⟨(k, eZ kn', bn', aY encF blk'), ⟨rfl, rfl⟩, ⟨trivial, ⟨rfl, rfl, rfl⟩, trivial, trivial, trivial, trivial, trivial⟩, ⟨fun e he => by simp at he; subst he; rfl, by rw [kD]; omega⟩, rfl, ⟨idx2 ++ [k], blk', kn', ev2, by simp [bJ, kvF], rfl, rfl, rfl, h1.push h2 h3 fun j u' hj hlt => ?_, by simp; omega, by simp; omega, by omega, fun j a1 a2 => hw j (by omega) a2, ht⟩, by dsimp only; omega⟩;have hj2 : j < 128 := by have := (List.getElem?_eq_some_iff.1 hj).1; simp only [hbl] at this; exact this
     rw [<- hy];exact hbq j u' hj (by omega) (by omega)
 ·simp only [aB] at hc;exact ⟨_, _, _, _, idx, blk, rfl, by omega, hk.idx_ok⟩
end Go.Eng
namespace Go.Eng
open Go Go.Proofs
def y7 (n f : Bool) (es : LL) (za zb : Int) (i x3 x14 h1_0 h1_1 : Int) : Env × Hp := ([(2, Y6 i), (3, Y6 x3), (5, LV.box 0 0), (8, LV.box 1 0), (12, LV.pv (PV.sl n f es)), (13, LV.pv (PV.int i64 (es.length : Int))), (14, Y6 x14)], [.box [LV.pv (PV.int i32 za), LV.pv (PV.int i32 zb)], .box [.pv (.int i32 h1_0), .pv (.int i32 h1_1)]])
section
variable (n f : Bool) (es : LL) (za zb : Int) (i last : Int) (J : Int -> Int -> Int -> Int -> Prop) (μ : Int -> Int -> Int -> Int -> Nat)
def zgg (R : PV -> Prop) : Prop :=
 (aF (y7 n f es za zb i last (0 : Int) (0 : Int) (0 : Int)) /\ J last (0 : Int) (0 : Int) (0 : Int)) /\ ∀ (x3 x14 h1_0 h1_1 : Int), J x3 x14 h1_0 h1_1 ->
 let K2 := fun (y0_ y1_ y2_ y3_ : Int) => aF (y7 n f es za zb i y0_ y1_ y2_ y3_) /\ J y0_ y1_ y2_ y3_ /\ μ y0_ y1_ y2_ y3_ < μ x3 x14 h1_0 h1_1; if decide (x14 < (↑es.length : Int)) = true then aR es x14 4 /\ ∃
  (n1 : Int), (es.getD x14.toNat []).head? = some (Z6 n1) /\ ∃ n2, (es.getD x14.toNat []).tail.head? = some (Z6 n2) /\ ∃ n3, (es.getD x14.toNat []).tail.tail.head? = some (Z3 n3) /\ ∃ n4, (es.getD x14.toNat
  []).tail.tail.tail.head? = some (Z3 n4) /\
 let V1 :=
 let V2 := K2 x3 (i64.wrap (x14 + 1)) h1_0 h1_1; if decide (i < n1) = true then if decide (n1 <= x3) = true then K2 (i64.wrap (n1 - 1)) (i64.wrap (x14 + 1)) h1_0 h1_1 else V2 else V2; if decide (n1 <= i) = true then if
  decide (i <= n2) = true then (R (PV.tup [PV.agg [Z3 n3, Z3 n4], Z6 (if x3 < n2 then x3 else n2)]) /\ R (PV.tup [PV.agg [Z3 n3, Z3 n4], Z6 (if x3 < n2 then x3 else n2)])) /\ R (PV.tup [PV.agg [Z3 n3, Z3 n4], Z6 (if x3 < n2 then x3 else n2)])
  else V1 else V1 else R (PV.tup [PV.agg [Z3 za, Z3 zb], Z6 x3])
theorem zo4 {R : PV -> Prop} (h : zgg n f es za zb i last J μ R) : PCall qa 51 [.sl n f es, .agg [.int .i32 za, .int .i32 zb], .int .i64 i, .int .i64 last] R :=
 PCall.wz Try.func51 aT [0, 1, 2, 3, 5, 8, 9, 11, 12, 13, 14, 15, 18, 35] (dB 2 (bF iO (y7 n f es za zb i) J μ (fun e h => (gI e 3, gI e 14, hI h 1 0, hI h 1 1)) [] [2, 3, 5, 8, 12, 13, 14] [])) h
end
section
variable (sz : Int) (n f n2 f2 : Bool) (es bs : LL) (i : Int)
def zgh (R : PV -> Prop) : Prop :=
 if decide (i < 0) = true then R (PV.agg [Z3 0, Z3 0]) else ∃ n1, some (Z6 sz) = some (Z6 n1) /\ if decide (i >= n1) = true then R (PV.agg [Z3 0, Z3 0]) else ∃ n3 f1 es1, some (PV.sl n2 f2 bs) = some (PV.sl n3 f1 es1) /\ ∃ n4 f3 es2, some (PV.sl n f es) = some (PV.sl n4 f3 es2) /\ aR es2 (i64.wrap (i.tdiv (128 : Int))) 1 /\ ∃ n5, (es2.getD (i64.wrap (i.tdiv (128 : Int))).toNat []).head? = some (Z6 n5) /\ aR es1 n5 256 /\ ((0 : Int) <= i.tmod (128 : Int) /\ i.tmod (128 : Int) < (↑128 : Int)) /\ ∃ n6, (qh ((i.tmod (128 : Int)).toNat * 2) (es1.getD n5.toNat [])).head? = some (Z3 n6) /\ ∃ n7, (qh ((i.tmod (128 : Int)).toNat * 2) (es1.getD n5.toNat [])).tail.head? = some (Z3 n7) /\ R (PV.agg [Z3 n6, Z3 n7])
theorem zo5 {R : PV -> Prop} (h : zgh sz n f n2 f2 es bs i R) : PCall qa 25 [.ptr [.int .i64 sz, .sl n f es, .sl n2 f2 bs], .int .i64 i] R :=
 PCall.wz Try.func25 aT [0, 1, 4, 5, 19] bE h
end
section
variable (sz : Int) (kn ev : List (PV × PV)) (ixm ixn bkm bkn : Bool) (ix bk : LL) (b : List PV)
def zgi (R : LV -> Hp -> Prop) : Prop :=
 256 <= (qh 0 b).length /\ bV qa 117 kn /\ aV qa 117 (PV.agg (qaa 256 (qh 0 b))) = true /\ (∀ (v : PV), bO (PV.agg (qaa 256 (qh 0 b))) kn = some v -> ∃ n, v = Z6 n /\ R (Y6 n)
  [Ob.box [LV.box 1 0, LV.mp 2, LV.mp 3], Ob.box [Y6 sz, LV.own 4, LV.own 5], Ob.mp kn, Ob.mp ev, Ob.sl (3, 1) ixm ixn ix, Ob.sl (117, 256) bkm bkn bk]) /\ (bO (PV.agg (qaa 256 (qh 0 b))) kn = none -> 256 <= (qh 0
  b).length /\ bV qa 117 kn /\ aV qa 117 (PV.agg (qaa 256 (qh 0 b))) = true /\ 256 <= (qh 0 b).length /\
 let V1 := (aS [qaa 256 (qh 0 b)] 256 /\ (bk.length + 1) * 1024 <= 140737488355328) /\ R (Y6 (↑bk.length : Int)) [Ob.box [LV.box 1 0, LV.mp 2, LV.mp 3], Ob.box [Y6 sz, LV.own 4, LV.own 5], Ob.mp (bA (PV.agg (qaa 256
  (qh 0 b))) (Z6 (↑bk.length : Int)) kn), Ob.mp ev, Ob.sl (3, 1) ixm ixn ix, Ob.sl (117, 256) true (bkn && false) (bk ++ [qaa 256 (qh 0 b)])]; ((qaa 256 (qh 0 b)).length = 256 /\ V1) /\ (qaa 256
  (qh 0 b)).length = 256 /\ V1 /\ V1)
theorem zo6 {R : LV -> Hp -> Prop} (h : zgi sz kn ev ixm ixn bkm bkn ix bk b R) : ACall qa 53 [.box 0 0, .pv (.agg b)] [.box [.box 1 0, .mp 2, .mp 3], .box [.pv (.int .i64 sz), .own 4, .own 5], .mp kn, .mp ev, .sl (3, 1) ixm ixn ix, .sl (117, 256) bkm bkn bk] R :=
 ACall.wz Try.func53 aT [0, 1, 3, 4, 5, 6, 17] bE [0,1,2,3,4,5] h
end
def y8 (sz : Int) (ixm ixn bkm bkn : Bool) (ix bk : LL) (va vb : Int) (x20 : Int) (m_2 : List (PV × PV)) (m_3 : List (PV × PV)) (c_7 : List PV) : Env × Hp := ([(0, LV.box 0 0), (3, LV.box 6 0), (7, LV.box 7 0), (20, Y6 x20)], [.box [LV.box 1 0, LV.mp 2, LV.mp 3], .box [Y6 sz, LV.own 4, LV.own 5], .mp m_2, .mp m_3, .sl (3, 1) ixm ixn ix, .sl (117, 256) bkm bkn bk, .box [LV.pv (PV.int i32 va), LV.pv (PV.int i32 vb)], .arr c_7])
section
variable (sz : Int) (kn ev : List (PV × PV)) (ixm ixn bkm bkn : Bool) (ix bk : LL) (va vb : Int) (J : Int -> (List (PV × PV)) -> (List (PV × PV)) -> (List PV) -> Prop) (μ : Int -> (List (PV × PV)) -> (List (PV × PV)) -> (List PV) -> Nat)
def zgj (R : LV -> Hp -> Prop) : Prop :=
 bV qa 70 ev /\ aV qa 70 (PV.agg [Z3 va, Z3 vb]) = true /\ (∀ (v : PV), bO (PV.agg [Z3 va, Z3 vb]) ev = some v -> ∃ n, v = Z6 n /\ R (Y6 n) [Ob.box [LV.box 1 0, LV.mp 2, LV.mp 3], Ob.box [Y6 sz, LV.own 4, LV.own 5], Ob.mp kn, Ob.mp ev, Ob.sl (3, 1) ixm ixn ix, Ob.sl (117, 256) bkm bkn bk]) /\ (bO (PV.agg [Z3 va, Z3 vb]) ev = none -> (SameSt ([(0, LV.box 0 0), (3, LV.box 6 0), (7, LV.box 7 0), (20, Y6 0)], [Ob.box [LV.box 1 0, LV.mp 2, LV.mp 3], Ob.box [Y6 sz, LV.own 4, LV.own 5], Ob.mp kn, Ob.mp ev, Ob.sl (3, 1) (bif false then true else ixm) ixn ix, Ob.sl (117, 256) (bif false then true else bkm) bkn bk, Ob.box [LV.pv (Z3 va), LV.pv (Z3 vb)], Ob.arr (qg 256 (Z3 0))]) (y8 sz ixm ixn bkm bkn ix bk va vb (0 : Int) kn ev (qg 256 (Z3 0))) /\ J (0 : Int) kn ev (qg 256 (Z3 0))) /\ ∀ (x20 : Int) (m_2 m_3 : List (PV × PV)) (c_7 : List PV), J x20 m_2 m_3 c_7 -> if decide (x20 < 128) = true then ((0 : Int) <= x20 /\ x20 < (↑128 : Int)) /\ (2 = (2 : Nat) /\ 0 + x20.toNat * 2 + 2 <= c_7.length) /\ SameSt ([(0, LV.box 0 0), (3, LV.box 6 0), (7, LV.box 7 0), (20, LV.pv (Z6 (i64.wrap (x20 + 1))))], [Ob.box [LV.box 1 0, LV.mp 2, LV.mp 3], Ob.box [Y6 sz, LV.own 4, LV.own 5], Ob.mp m_2, Ob.mp m_3, Ob.sl (3, 1) (bif false then true else ixm) ixn ix, Ob.sl (117, 256) (bif false then true else bkm) bkn bk, Ob.box [LV.pv (Z3 va), LV.pv (Z3 vb)], Ob.arr (aO c_7 (0 + x20.toNat * 2) [Z3 va, Z3 vb])]) (y8 sz ixm ixn bkm bkn ix bk va vb (i64.wrap (x20 + 1)) m_2 m_3 (aO c_7 ((0 : Nat) + x20.toNat * 2) [Z3 va, Z3 vb])) /\ J (i64.wrap (x20 + 1)) m_2 m_3 (aO c_7 ((0 : Nat) + x20.toNat * 2) [Z3 va, Z3 vb]) /\ μ (i64.wrap (x20 + 1)) m_2 m_3 (aO c_7 (0 + x20.toNat * 2) [Z3 va, Z3 vb]) < μ x20 m_2 m_3 c_7 else 256 <= (qh 0 c_7).length /\ ACall qa 53 [LV.box 0 0, LV.pv (PV.agg (qaa 256 (qh 0 c_7)))] [Ob.box [LV.box 1 0, LV.mp 2, LV.mp 3], Ob.box [Y6 sz, LV.own 4, LV.own 5], Ob.mp m_2, Ob.mp m_3, Ob.sl (3, 1) false ixn ix, Ob.sl (117, 256) false bkn bk] fun (r : LV) (h' : Hp) => ∃ (t : Int × List (PV × PV) × Bool × LL), (r = Y6 t.1 /\ h' = [Ob.box [LV.box 1 0, LV.mp 2, LV.mp 3], Ob.box [Y6 sz, LV.own 4, LV.own 5], Ob.mp t.snd.fst, Ob.mp m_3, Ob.sl (3, 1) false ixn ix, Ob.sl (117, 256) true t.snd.snd.fst t.snd.snd.snd]) /\ (True /\ ((3, 1) = (3, 1) /\ ixn = ixn /\ ix.length = ix.length) /\ True /\ True /\ True /\ True /\ True) /\ bV qa 70 m_3 /\ aV qa 70 (PV.agg [Z3 va, Z3 vb]) = true /\ R (Y6 t.1) [Ob.box [LV.box 1 0, LV.mp 2, LV.mp 3], Ob.box [Y6 sz, LV.own 4, LV.own 5], Ob.mp t.snd.fst, Ob.mp (bA (PV.agg [Z3 va, Z3 vb]) (Z6 t.1) m_3), Ob.sl (3, 1) (ixm || false) ixn ix, Ob.sl (117, 256) (bkm || true) t.snd.snd.fst t.snd.snd.snd])
theorem zo7 {R : LV -> Hp -> Prop} (h : zgj sz kn ev ixm ixn bkm bkn ix bk va vb J μ R) : ACall qa 52 [.box 0 0, .pv (.agg [.int .i32 va, .int .i32 vb])] [.box [.box 1 0, .mp 2, .mp 3], .box [.pv (.int .i64 sz), .own 4, .own 5], .mp kn, .mp ev, .sl (3, 1) ixm ixn ix, .sl (117, 256) bkm bkn bk] R :=
 ACall.wz Try.func52 (fun zz_ => match zz_ with | 53 => some ⟨Int × List (PV × PV) × Bool × LL, fun _ hs t => (.pv (.int .i64 t.1), match hs with | [m, r, .mp _, ev, ix, .sl a _ _ _] => [m, r, .mp t.2.1, ev, ix, .sl a true t.2.2.1 t.2.2.2] | h => h), none⟩ | _ => none) [0, 1, 3, 4, 5, 6, 7, 8, 19, 20, 21] (dB 5 (bF iO (y8 sz ixm ixn bkm bkn ix bk va vb) J μ (fun e h => (gI e 20, oM h 2, oM h 3, oA h 7)) [] [0, 3, 7, 20] [])) [0,1,2,3,4,5] h
end
def y9 (sz : Int) (za zb : Int) (n f : Bool) (es : LL) (x10 x11 h3_0 h3_1 : Int) (n_4 : Bool) (s_4 : LL) (n_5 : Bool) (s_5 : LL) (m_6 : List (PV × PV)) (m_7 : List (PV × PV)) : Env × Hp := ([(0, Y6 sz), (2, LV.pv (PV.sl n f es)), (4, LV.box 0 0), (7, LV.box 1 0), (8, LV.box 2 0), (9, LV.box 3 0), (10, Y6 x10), (11, Y6 x11)], [.box [LV.pv (PV.int i32 za), LV.pv (PV.int i32 zb)], .box [Y6 sz, LV.own 4, LV.own 5], .box [LV.box 1 0, LV.mp 6, LV.mp 7], .box [.pv (.int i32 h3_0), .pv (.int i32 h3_1)], .sl (3, 1) true n_4 s_4, .sl (117, 256) true n_5 s_5, .mp m_6, .mp m_7])
def qC (sz : Int) (za zb : Int) (n f : Bool) (es : LL) (x10 x11 x13 h3_0 h3_1 : Int) (n_4 : Bool) (s_4 : LL) (n_5 : Bool) (s_5 : LL) (m_6 : List (PV × PV)) (m_7 : List (PV × PV)) : Env × Hp := ([(0, Y6 sz), (2, LV.pv (PV.sl n f es)), (4, LV.box 0 0), (7, LV.box 1 0), (8, LV.box 2 0), (9, LV.box 3 0), (10, Y6 x10), (11, Y6 x11), (13, Y6 x13)], [.box [LV.pv (PV.int i32 za), LV.pv (PV.int i32 zb)], .box [Y6 sz, LV.own 4, LV.own 5], .box [LV.box 1 0, LV.mp 6, LV.mp 7], .box [.pv (.int i32 h3_0), .pv (.int i32 h3_1)], .sl (3, 1) true n_4 s_4, .sl (117, 256) true n_5 s_5, .mp m_6, .mp m_7])
def qD (sz : Int) (za zb : Int) (n f : Bool) (es : LL) (x10 x11 x88 h3_0 h3_1 : Int) (c_4 : List PV) (n_5 : Bool) (s_5 : LL) (n_6 : Bool) (s_6 : LL) (m_7 : List (PV × PV)) (m_8 : List (PV × PV)) : Env × Hp := ([(0, Y6 sz), (2, LV.pv (PV.sl n f es)), (4, LV.box 0 0), (7, LV.box 1 0), (8, LV.box 2 0), (9, LV.box 3 0), (10, Y6 x10), (11, Y6 x11), (14, LV.box 4 0), (88, Y6 x88)], [.box [LV.pv (PV.int i32 za), LV.pv (PV.int i32 zb)], .box [Y6 sz, LV.own 5, LV.own 6], .box [LV.box 1 0, LV.mp 7, LV.mp 8], .box [.pv (.int i32 h3_0), .pv (.int i32 h3_1)], .arr c_4, .sl (3, 1) true n_5 s_5, .sl (117, 256) true n_6 s_6, .mp m_7, .mp m_8])
section
variable (sz : Int) (za zb : Int) (n f : Bool) (es : LL) (J : Int -> Int -> Int -> Int -> Bool -> LL -> Bool -> LL -> (List (PV × PV)) -> (List (PV × PV)) -> Prop) (μ : Int -> Int -> Int -> Int -> Bool -> LL -> Bool -> LL -> (List (PV × PV)) -> (List (PV × PV)) -> Nat) (J2 : Int -> Int -> Int -> Int -> Int -> Bool -> LL -> Bool -> LL -> (List (PV × PV)) -> (List (PV × PV)) -> Int -> Int -> Int -> Int -> Int -> Bool -> LL -> Bool -> LL -> (List (PV × PV)) -> (List (PV × PV)) -> Prop) (μ2 : Int -> Int -> Int -> Int -> Int -> Bool -> LL -> Bool -> LL -> (List (PV × PV)) -> (List (PV × PV)) -> Nat) (J3 : Int -> Int -> Int -> Int -> Int -> (List PV) -> Bool -> LL -> Bool -> LL -> (List (PV × PV)) -> (List (PV × PV)) -> Int -> Int -> Int -> Int -> Int -> (List PV) -> Bool -> LL -> Bool -> LL -> (List (PV × PV)) -> (List (PV × PV)) -> Prop) (μ3 : Int -> Int -> Int -> Int -> Int -> (List PV) -> Bool -> LL -> Bool -> LL -> (List (PV × PV)) -> (List (PV × PV)) -> Nat)
def zgk (R : PV -> Prop) : Prop :=
 if decide (sz < 1) = true then R PV.nilp else PCall qa 51 [PV.sl n f es, PV.agg [Z3 za, Z3 zb], Z6 0, Z6 (i64.wrap (sz - 1))] fun v => ∃ vs, v = PV.tup vs /\ vs.length = 2 /\ ∃ x, vs.head? = some x /\ ∃
  (cs : List PV), x = PV.agg cs /\ cs.length = 2 /\ ∃ n1, cs.head? = some (Z3 n1) /\ ∃ n2, cs.tail.head? = some (Z3 n2) /\ ∃ x1, vs.tail.head? = some x1 /\ ∃ n3, x1 = Z6 n3 /\ (aF (y9 sz za zb n f es n3 (0 :
  Int) n1 n2 true [] true [] [] []) /\ J n3 (0 : Int) n1 n2 true [] true [] [] []) /\ ∀ (x10 x11 h3_0 h3_1 : Int) (n_4 : Bool) (s_4 : LL) (n_5 : Bool) (s_5 : LL) (m_6 m_7 : List (PV × PV)), J x10 x11 h3_0 h3_1 n_4 s_4 n_5 s_5 m_6 m_7 ->
 let K7 := fun (y0_ y1_ y2_ y3_ : Int) (y4_ : Bool) (y5_ : LL) (y6_ : Bool) (y7_ : LL) (y8_ : List (PV × PV)) (y9_ : List (PV × PV)) => aF (y9 sz za zb n f es y0_ y1_ y2_ y3_ y4_ y5_ y6_ y7_ y8_ y9_) /\ J y0_
  y1_ y2_ y3_ y4_ y5_ y6_ y7_ y8_ y9_ /\ μ y0_ y1_ y2_ y3_ y4_ y5_ y6_ y7_ y8_ y9_ < μ x10 x11 h3_0 h3_1 n_4 s_4 n_5 s_5 m_6 m_7; if decide (x11 < sz) = true then if decide (x11 > x10) = true then PCall qa 51 [PV.sl n f es, PV.agg [Z3
  za, Z3 zb], Z6 x11, Z6 (i64.wrap (sz - 1))] fun v1 => ∃ vs1, v1 = PV.tup vs1 /\ vs1.length = 2 /\ ∃ x2, vs1.head? = some x2 /\ ∃ cs1, x2 = PV.agg cs1 /\ cs1.length = 2 /\ ∃ n4, cs1.head? =
  some (Z3 n4) /\ ∃ n5, cs1.tail.head? = some (Z3 n5) /\ ∃ x3, vs1.tail.head? = some x3 /\ ∃ n6, x3 = Z6 n6 /\ if decide (n6 >= i64.wrap ((if sz < i64.wrap (x11 + 128) then sz else i64.wrap (x11 +
  128)) - 1)) = true then ACall qa 52 [LV.box 0 0, LV.pv (PV.agg [Z3 n4, Z3 n5])] [Ob.box [LV.box 1 0, LV.mp 2, LV.mp 3], Ob.box [Y6 sz, LV.own 4, LV.own 5], Ob.mp m_6, Ob.mp m_7, Ob.sl (3, 1) false n_4 s_4, Ob.sl (117, 256) false
  n_5 s_5] fun (r : LV) (h' : Hp) => ∃ (t : Int × List (PV × PV) × List (PV × PV) × Bool × LL), (r = Y6 t.1 /\ h' = [Ob.box [LV.box 1 0, LV.mp 2, LV.mp 3], Ob.box [Y6 sz, LV.own 4, LV.own 5], Ob.mp t.snd.fst, Ob.mp t.snd.snd.fst, Ob.sl (3,
  1) false n_4 s_4, Ob.sl (117, 256) true t.snd.snd.snd.fst t.snd.snd.snd.snd]) /\ (True /\ ((3, 1) = (3, 1) /\ n_4 = n_4 /\ s_4.length = s_4.length) /\ True /\ True /\ True /\ True /\ True) /\ (aF (qC sz za zb n f es n6 x11 t.1 n4 n5 n_4 s_4
  t.snd.snd.snd.fst t.snd.snd.snd.snd t.snd.fst t.snd.snd.fst) /\ J2 n6 x11 t.1 n4 n5 n_4 s_4 t.snd.snd.snd.fst t.snd.snd.snd.snd t.snd.fst t.snd.snd.fst n6 x11 t.1 n4 n5 n_4 s_4 t.snd.snd.snd.fst t.snd.snd.snd.snd t.snd.fst t.snd.snd.fst)
  /\ ∀ (x101 x111 x13 h3_01 h3_11 : Int) (n_41 : Bool) (s_41 : LL) (n_51 : Bool) (s_51 : LL) (m_61 m_71 : List (PV × PV)), J2 n6 x11 t.1 n4 n5 n_4 s_4 t.snd.snd.snd.fst t.snd.snd.snd.snd t.snd.fst t.snd.snd.fst x101 x111 x13 h3_01 h3_11
  n_41 s_41 n_51 s_51 m_61 m_71 -> if (decide (x111 < sz) && decide (x101 >= i64.wrap ((if sz < i64.wrap (x111 + 128) then sz else i64.wrap (x111 + 128)) - 1))) = true then (aS [[Z6 x13]] 1 /\ (s_41.length + 1) * 8 <=
  140737488355328) /\ aF (qC sz za zb n f es x101 (i64.wrap (x111 + 128)) x13 h3_01 h3_11 (n_41 && false) (s_41 ++ [[Z6 x13]]) n_51 s_51 m_61 m_71) /\ J2 n6 x11 t.1 n4 n5 n_4 s_4 t.snd.snd.snd.fst t.snd.snd.snd.snd t.snd.fst
  t.snd.snd.fst x101 (i64.wrap (x111 + 128)) x13 h3_01 h3_11 (n_41 && false) (s_41 ++ [[Z6 x13]]) n_51 s_51 m_61 m_71 /\ μ2 x101 (i64.wrap (x111 + 128)) x13 h3_01 h3_11 (n_41 && false) (s_41 ++ [[Z6 x13]]) n_51 s_51 m_61
  m_71 < μ2 x101 x111 x13 h3_01 h3_11 n_41 s_41 n_51 s_51 m_61 m_71 else K7 x101 (i64.wrap (i64.wrap (x111 - 128) + 128)) h3_01 h3_11 n_41 s_41 n_51 s_51 m_61 m_71 else (aF (qD sz za zb n f es n6 x11 (0 : Int) n4 n5
  (qg 256 (Z3 0)) n_4 s_4 n_5 s_5 m_6 m_7) /\ J3 n6 x11 (0 : Int) n4 n5 (qg 256 (Z3 0)) n_4 s_4 n_5 s_5 m_6 m_7 n6 x11 (0 : Int) n4 n5 (qg 256 (Z3 0)) n_4 s_4 n_5 s_5 m_6 m_7) /\ ∀ (x101 x111 x88 h3_01
  h3_11 : Int) (c_4 : List PV) (n_51 : Bool) (s_51 : LL) (n_6 : Bool) (s_6 : LL) (m_71 m_8 : List (PV × PV)), J3 n6 x11 (0 : Int) n4 n5 (qg 256 (Z3 0)) n_4 s_4 n_5 s_5 m_6 m_7 x101 x111 x88 h3_01 h3_11 c_4 n_51 s_51 n_6 s_6
  m_71 m_8 ->
 let K20 := fun (y0_ y1_ y2_ y3_ y4_ : Int) (y5_ : List PV) (y6_ : Bool) (y7_ : LL) (y8_ : Bool) (y9_ : LL) (y10_ : List (PV × PV)) (y11_ : List (PV × PV)) => aF (qD sz za zb n f es y0_ y1_ y2_ y3_ y4_
  y5_ y6_ y7_ y8_ y9_ y10_ y11_) /\ J3 n6 x11 (0 : Int) n4 n5 (qg 256 (Z3 0)) n_4 s_4 n_5 s_5 m_6 m_7 y0_ y1_ y2_ y3_ y4_ y5_ y6_ y7_ y8_ y9_ y10_ y11_ /\ μ3 y0_ y1_ y2_ y3_ y4_ y5_ y6_ y7_ y8_ y9_ y10_ y11_ < μ3 x101 x111 x88
  h3_01 h3_11 c_4 n_51 s_51 n_6 s_6 m_71 m_8; if decide (x88 < 128) = true then if (decide (i64.wrap (x111 + x88) > x101) && decide (i64.wrap (x111 + x88) < sz)) = true then PCall qa 51 [PV.sl n f es, PV.agg [Z3 za,
  Z3 zb], Z6 (i64.wrap (x111 + x88)), Z6 (i64.wrap (sz - 1))] fun v2 => ∃ vs2, v2 = PV.tup vs2 /\ vs2.length = 2 /\ ∃ x4, vs2.head? = some x4 /\ ∃ cs2, x4 = PV.agg cs2 /\ cs2.length = 2 /\ ∃
  (n7 : Int), cs2.head? = some (Z3 n7) /\ ∃ n8, cs2.tail.head? = some (Z3 n8) /\ ∃ x5, vs2.tail.head? = some x5 /\ ∃ n9, x5 = Z6 n9 /\ ((0 : Int) <= x88 /\ x88 < (↑128 : Int)) /\ (2 = 2 /\ 0 + x88.toNat * 2 + 2 <= c_4.length)
  /\ K20 n9 x111 (i64.wrap (x88 + 1)) n7 n8 (aO c_4 (0 + x88.toNat * 2) [Z3 n7, Z3 n8]) n_51 s_51 n_6 s_6 m_71 m_8 else ((0 : Int) <= x88 /\ x88 < (↑128 : Int)) /\ (2 = 2 /\ 0 + x88.toNat * 2 + 2 <= c_4.length) /\ K20 x101 x111
  (i64.wrap (x88 + 1)) h3_01 h3_11 (aO c_4 (0 + x88.toNat * 2) [Z3 h3_01, Z3 h3_11]) n_51 s_51 n_6 s_6 m_71 m_8 else 256 <= (qh 0 c_4).length /\
 let V1 := ACall qa 53 [LV.box 0 0, LV.pv (PV.agg (qaa 256 (qh 0 c_4)))] [Ob.box [LV.box 1 0, LV.mp 2, LV.mp 3], Ob.box [Y6 sz, LV.own 4, LV.own 5], Ob.mp m_71, Ob.mp m_8, Ob.sl (3, 1) false n_51 s_51, Ob.sl (117, 256)
  false n_6 s_6] fun (r : LV) (h' : Hp) => ∃ (t : Int × List (PV × PV) × Bool × LL), (r = Y6 t.1 /\ h' = [Ob.box [LV.box 1 0, LV.mp 2, LV.mp 3], Ob.box [Y6 sz, LV.own 4, LV.own 5], Ob.mp t.snd.fst, Ob.mp m_8, Ob.sl (3, 1) false n_51 s_51,
  Ob.sl (117, 256) true t.snd.snd.fst t.snd.snd.snd]) /\ (True /\ ((3, 1) = (3, 1) /\ n_51 = n_51 /\ s_51.length = s_51.length) /\ True /\ True /\ True /\ True /\ True) /\ (aS [[Z6 t.1]] 1 /\ (s_51.length + 1) * 8 <= 140737488355328) /\ K7 x101
  (i64.wrap (x111 + 128)) h3_01 h3_11 (n_51 && false) (s_51 ++ [[Z6 t.1]]) t.snd.snd.fst t.snd.snd.snd t.snd.fst m_8; V1 /\ V1 else if decide (x10 >= i64.wrap ((if sz < i64.wrap (x11 + 128) then sz else
  i64.wrap (x11 + 128)) - 1)) = true then ACall qa 52 [LV.box 0 0, LV.pv (PV.agg [Z3 h3_0, Z3 h3_1])] [Ob.box [LV.box 1 0, LV.mp 2, LV.mp 3], Ob.box [Y6 sz, LV.own 4, LV.own 5], Ob.mp m_6, Ob.mp m_7, Ob.sl (3, 1) false n_4
  s_4, Ob.sl (117, 256) false n_5 s_5] fun (r : LV) (h' : Hp) => ∃ (t : Int × List (PV × PV) × List (PV × PV) × Bool × LL), (r = Y6 t.1 /\ h' = [Ob.box [LV.box 1 0, LV.mp 2, LV.mp 3], Ob.box [Y6 sz, LV.own 4, LV.own 5], Ob.mp t.snd.fst,
  Ob.mp t.snd.snd.fst, Ob.sl (3, 1) false n_4 s_4, Ob.sl (117, 256) true t.snd.snd.snd.fst t.snd.snd.snd.snd]) /\ (True /\ ((3, 1) = (3, 1) /\ n_4 = n_4 /\ s_4.length = s_4.length) /\ True /\ True /\ True /\ True /\ True) /\ (aF (qC sz za zb
  n f es x10 x11 t.1 h3_0 h3_1 n_4 s_4 t.snd.snd.snd.fst t.snd.snd.snd.snd t.snd.fst t.snd.snd.fst) /\ J2 x10 x11 t.1 h3_0 h3_1 n_4 s_4 t.snd.snd.snd.fst t.snd.snd.snd.snd t.snd.fst t.snd.snd.fst x10 x11 t.1 h3_0 h3_1 n_4 s_4
  t.snd.snd.snd.fst t.snd.snd.snd.snd t.snd.fst t.snd.snd.fst) /\ ∀ (x101 x111 x13 h3_01 h3_11 : Int) (n_41 : Bool) (s_41 : LL) (n_51 : Bool) (s_51 : LL) (m_61 m_71 : List (PV × PV)), J2 x10 x11 t.1 h3_0 h3_1 n_4 s_4 t.snd.snd.snd.fst
  t.snd.snd.snd.snd t.snd.fst t.snd.snd.fst x101 x111 x13 h3_01 h3_11 n_41 s_41 n_51 s_51 m_61 m_71 -> if (decide (x111 < sz) && decide (x101 >= i64.wrap ((if sz < i64.wrap (x111 + 128) then sz else i64.wrap (x111 +
  128)) - 1))) = true then (aS [[Z6 x13]] 1 /\ (s_41.length + 1) * 8 <= 140737488355328) /\ aF (qC sz za zb n f es x101 (i64.wrap (x111 + 128)) x13 h3_01 h3_11 (n_41 && false) (s_41 ++ [[Z6 x13]]) n_51 s_51 m_61 m_71) /\ J2
  x10 x11 t.1 h3_0 h3_1 n_4 s_4 t.snd.snd.snd.fst t.snd.snd.snd.snd t.snd.fst t.snd.snd.fst x101 (i64.wrap (x111 + 128)) x13 h3_01 h3_11 (n_41 && false) (s_41 ++ [[Z6 x13]]) n_51 s_51 m_61 m_71 /\ μ2 x101 (i64.wrap (x111 +
  128)) x13 h3_01 h3_11 (n_41 && false) (s_41 ++ [[Z6 x13]]) n_51 s_51 m_61 m_71 < μ2 x101 x111 x13 h3_01 h3_11 n_41 s_41 n_51 s_51 m_61 m_71 else K7 x101 (i64.wrap (i64.wrap (x111 - 128) + 128)) h3_01 h3_11 n_41 s_41 n_51
  s_51 m_61 m_71 else (aF (qD sz za zb n f es x10 x11 (0 : Int) h3_0 h3_1 (qg 256 (Z3 0)) n_4 s_4 n_5 s_5 m_6 m_7) /\ J3 x10 x11 (0 : Int) h3_0 h3_1 (qg 256 (Z3 0)) n_4 s_4 n_5 s_5 m_6 m_7 x10 x11 (0 : Int)
  h3_0 h3_1 (qg 256 (Z3 0)) n_4 s_4 n_5 s_5 m_6 m_7) /\ ∀ (x101 x111 x88 h3_01 h3_11 : Int) (c_4 : List PV) (n_51 : Bool) (s_51 : LL) (n_6 : Bool) (s_6 : LL) (m_71 m_8 : List (PV × PV)), J3 x10 x11 (0 : Int) h3_0 h3_1
  (qg 256 (Z3 0)) n_4 s_4 n_5 s_5 m_6 m_7 x101 x111 x88 h3_01 h3_11 c_4 n_51 s_51 n_6 s_6 m_71 m_8 ->
 let K20 := fun (y0_ y1_ y2_ y3_ y4_ : Int) (y5_ : List PV) (y6_ : Bool) (y7_ : LL) (y8_ : Bool) (y9_ : LL) (y10_ : List (PV × PV)) (y11_ : List (PV × PV)) => aF (qD sz za zb n f es y0_ y1_ y2_ y3_ y4_
  y5_ y6_ y7_ y8_ y9_ y10_ y11_) /\ J3 x10 x11 (0 : Int) h3_0 h3_1 (qg 256 (Z3 0)) n_4 s_4 n_5 s_5 m_6 m_7 y0_ y1_ y2_ y3_ y4_ y5_ y6_ y7_ y8_ y9_ y10_ y11_ /\ μ3 y0_ y1_ y2_ y3_ y4_ y5_ y6_ y7_ y8_ y9_ y10_ y11_ < μ3 x101 x111
  x88 h3_01 h3_11 c_4 n_51 s_51 n_6 s_6 m_71 m_8; if decide (x88 < 128) = true then if (decide (i64.wrap (x111 + x88) > x101) && decide (i64.wrap (x111 + x88) < sz)) = true then PCall qa 51 [PV.sl n f es, PV.agg [Z3
  za, Z3 zb], Z6 (i64.wrap (x111 + x88)), Z6 (i64.wrap (sz - 1))] fun v1 => ∃ vs1, v1 = PV.tup vs1 /\ vs1.length = 2 /\ ∃ x2, vs1.head? = some x2 /\ ∃ cs1, x2 = PV.agg cs1 /\ cs1.length = 2
  /\ ∃ n4, cs1.head? = some (Z3 n4) /\ ∃ n5, cs1.tail.head? = some (Z3 n5) /\ ∃ x3, vs1.tail.head? = some x3 /\ ∃ n6, x3 = Z6 n6 /\ ((0 : Int) <= x88 /\ x88 < (↑128 : Int)) /\ (2 = 2 /\ 0 + x88.toNat * 2 + 2 <=
  c_4.length) /\ K20 n6 x111 (i64.wrap (x88 + 1)) n4 n5 (aO c_4 (0 + x88.toNat * 2) [Z3 n4, Z3 n5]) n_51 s_51 n_6 s_6 m_71 m_8 else ((0 : Int) <= x88 /\ x88 < (↑128 : Int)) /\ (2 = 2 /\ 0 + x88.toNat * 2 + 2 <= c_4.length) /\ K20 x101
  x111 (i64.wrap (x88 + 1)) h3_01 h3_11 (aO c_4 (0 + x88.toNat * 2) [Z3 h3_01, Z3 h3_11]) n_51 s_51 n_6 s_6 m_71 m_8 else 256 <= (qh 0 c_4).length /\
 let V2 := ACall qa 53 [LV.box 0 0, LV.pv (PV.agg (qaa 256 (qh 0 c_4)))] [Ob.box [LV.box 1 0, LV.mp 2, LV.mp 3], Ob.box [Y6 sz, LV.own 4, LV.own 5], Ob.mp m_71, Ob.mp m_8, Ob.sl (3, 1) false n_51 s_51, Ob.sl (117, 256)
  false n_6 s_6] fun (r : LV) (h' : Hp) => ∃ (t : Int × List (PV × PV) × Bool × LL), (r = Y6 t.1 /\ h' = [Ob.box [LV.box 1 0, LV.mp 2, LV.mp 3], Ob.box [Y6 sz, LV.own 4, LV.own 5], Ob.mp t.snd.fst, Ob.mp m_8, Ob.sl (3, 1) false n_51 s_51,
  Ob.sl (117, 256) true t.snd.snd.fst t.snd.snd.snd]) /\ (True /\ ((3, 1) = (3, 1) /\ n_51 = n_51 /\ s_51.length = s_51.length) /\ True /\ True /\ True /\ True /\ True) /\ (aS [[Z6 t.1]] 1 /\ (s_51.length + 1) * 8 <= 140737488355328) /\ K7 x101
  (i64.wrap (x111 + 128)) h3_01 h3_11 (n_51 && false) (s_51 ++ [[Z6 t.1]]) t.snd.snd.fst t.snd.snd.snd t.snd.fst m_8; V2 /\ V2 else R (PV.ptr [Z6 sz, PV.sl n_4 false s_4, PV.sl n_5 false s_5])
theorem zo8 {R : PV -> Prop} (h : zgk sz za zb n f es J μ J2 μ2 J3 μ3 R) : PCall qa 24 [.int .i64 sz, .agg [.int .i32 za, .int .i32 zb], .sl n f es] R :=
 PCall.wz Try.func24 (fun zz_ => match zz_ with | 53 => some ⟨Int × List (PV × PV) × Bool × LL, fun _ hs t => (.pv (.int .i64 t.1), match hs with | [m, r, .mp _, ev, ix, .sl a _ _ _] => [m, r, .mp t.2.1, ev, ix, .sl a true t.2.2.1 t.2.2.2] | h => h), none⟩ | 52 => some ⟨Int × List (PV × PV) × List (PV × PV) × Bool × LL, fun _ hs t => (.pv (.int .i64 t.1), match hs with | [m, r, .mp _, .mp _, ix, .sl a _ _ _] => [m, r, .mp t.2.1, .mp t.2.2.1, ix, .sl a true t.2.2.2.1 t.2.2.2.2] | h => h), none⟩ | _ => none) [0, 1, 2, 4, 6, 7, 8, 9, 10, 11, 12, 13, 14, 15, 17, 36, 41, 58, 73, 88, 89, 102] (gY [(7, (bF (eA kC) (y9 sz za zb n f es) J μ (fun e h => (gI e 10, gI e 11, hI h 3 0, hI h 3 1, oN h 4, oS h 4, oN h 5, oS h 5, oM h 6, oM h 7)) [(1001001, 3, 1), (1001002, 117, 256)] [0, 2, 4, 7, 8, 9, 10, 11] [])), (14, (gZ (eA eF) (qC sz za zb n f es) J2 μ2 (fun e h => (gI e 10, gI e 11, gI e 13, hI h 3 0, hI h 3 1, oN h 4, oS h 4, oN h 5, oS h 5, oM h 6, oM h 7)) [] [0, 2, 4, 7, 8, 9, 10, 11, 13] [])), (20, (gZ (eA iO) (qD sz za zb n f es) J3 μ3 (fun e h => (gI e 10, gI e 11, gI e 88, hI h 3 0, hI h 3 1, oA h 4, oN h 5, oS h 5, oN h 6, oS h 6, oM h 7, oM h 8)) [] [0, 2, 4, 7, 8, 9, 10, 11, 14, 88] []))]) h
end
end Go.Eng
namespace Go.Eng
open Go Go.Proofs Go.Eng.Trie
def encP (v : (Int × Int)) : List PV := [.int .i32 v.1, .int .i32 v.2]
theorem EP : Enc qa [21, 21] encP := ⟨fun a => by
 simp only [encP, aX, qbd];rw [show Try.prog.underlying 21 = some (.int .i32) by kernel_rfl];rfl, fun a b => by
 obtain ⟨a0, a1⟩ := a;obtain ⟨b0, b1⟩ := b;simp only [encP, bK, dY, qbd];rw [qck]
 simp⟩
def pcP (p : Pc (Int × Int)) : List PV := [.int .i64 p.fr, .int .i64 p.to] ++ encP p.v
def kH (l : List (Pc (Int × Int))) : List (List PV) := l.map pcP
theorem zo9 (p : Pc (Int × Int)) : (pcP p).length = 4 := rfl
theorem zgl (l : List (Pc (Int × Int))) : (kH l).length = l.length := by simp [kH]
theorem zA (n f : Bool) (l : List (Pc (Int × Int))) (z : (Int × Int)) (i last : Int) (hl : l.length < 4611686018427387904) (hok : ∀ p ∈ l, -9223372036854775808 <= p.fr - 1 /\ p.fr - 1 <= 9223372036854775807) :
 PCall qa 51 [.sl n f (kH l), .agg (encP z), .int .i64 i, .int .i64 last] fun v => v = .tup [.agg (encP (findL l z i last).1), .int .i64 (findL l z i last).2] := by
 refine zo4 _ _ _ z.1 z.2 _ _ (fun a k _ _ => 0 <= k /\ k <= l.length /\ findL l z i last = findL (l.drop k.toNat) z i a) (fun _ k _ _ => l.length - k.toNat) ?_;unfold zgg;refine ⟨⟨rfl, qd _, by omega, rfl⟩, ?_⟩;rintro a k _ _ ⟨k0, k1, he⟩;refine aG (fun hc => ?_) (fun hc => ?_)
 ·simp only [aB, zgl] at hc;have hk : k.toNat < l.length := by omega
  have hw : i64.wrap (k + 1) = k + 1 := aD (by omega) (by omega);have hn : (k + 1).toNat = k.toNat + 1 := by omega
  have hg : (kH l).getD k.toNat [] = pcP l[k.toNat] := cC hk;have hix : aR (kH l) k 4 := cD zo9 k0 (by omega);have hm := hok _ (qq hk);rw [drop_cons hk] at he;rw [hw];dsimp only;rw [hn];have hmu : l.length - (k.toNat + 1) < l.length - k.toNat := by omega
  refine ⟨hix, l[k.toNat].fr, by rw [hg]; rfl, l[k.toNat].to, by rw [hg]; rfl, l[k.toNat].v.1, by rw [hg]; rfl, l[k.toNat].v.2, by rw [hg]; rfl, ?_⟩;generalize l[k.toNat] = p at *;have hw2 : i64.wrap (p.fr - 1) = p.fr - 1 := aD hm.1 hm.2;rw [hw2];rw [yH] at he;by_cases h1 : p.fr <= i
  ·refine bG (by simpa using h1) ?_
   by_cases h2 : i <= p.to
   ·refine bG (by simpa using h2) ?_
    rw [if_pos ⟨h1, h2⟩] at he;rw [he]
    repeat' (first | rfl | apply And.intro)
   ·refine bI (by simpa using h2) ?_
    rw [if_neg (by omega), if_neg (by omega)] at he;refine bI (by simp; omega) ?_;exact ⟨rfl, ⟨by omega, by omega, he⟩, hmu⟩
  ·refine bI (by simpa using h1) ?_
   rw [if_neg (by omega)] at he;refine bG (by simp; omega) ?_;by_cases h3 : p.fr <= a
   ·refine bG (by simpa using h3) ?_
    rw [if_pos (by omega)] at he;exact ⟨rfl, ⟨by omega, by omega, he⟩, hmu⟩
   ·refine bI (by simpa using h3) ?_
    rw [if_neg (by omega)] at he;exact ⟨rfl, ⟨by omega, by omega, he⟩, hmu⟩
 ·simp only [aB, zgl] at hc;rw [qas (by omega)] at he;rw [he]; rfl
def TrieP (sz : Int) (F : Int -> (Int × Int)) (v : PV) : Prop := ∃ n f n2 f2 idx blk, v = .ptr [.int .i64 sz, .sl n f (bJ idx), .sl n2 f2 (aY encP blk)] /\ TOK sz F idx blk
theorem p84 {sz : Int} {F : Int -> (Int × Int)} {t : PV} (ht : TrieP sz F t) (i : Int) (h1 : sz <= 1114112) : PCall qa 25 [t, .int .i64 i] fun v => v = .agg (encP (if 0 <= i /\ i < sz then F i else (0, 0))) := by
 obtain ⟨n, f, n2, f2, idx, blk, rfl, ht⟩ := ht;refine zo5 _ _ _ _ _ _ _ _ ?_;unfold zgh;refine aG (fun hc => ?_) (fun hc => ?_)
 ·simp only [aB] at hc;rw [if_neg (by omega)]; rfl
 ·simp only [aB] at hc;refine ⟨_, rfl, ?_⟩;refine aG (fun hc2 => ?_) (fun hc2 => ?_)
  ·simp only [aB, ge_iff_le] at hc2;rw [if_neg (by omega)]; rfl
  ·simp only [aB, ge_iff_le] at hc2;rw [if_pos (by omega)];obtain ⟨hq, g0, hk, hj, he⟩ := ht.get (i := i) (by omega) (by omega);have hw : i64.wrap (i.tdiv 128) = i / 128 := by rw [qaj (by omega)]; exact aD (by omega) (by omega)
   have hm : i.tmod 128 = i % 128 := qak (by omega);have hg : (bJ idx).getD (i / 128).toNat [] = [.int .i64 idx[(i / 128).toNat]] := cC hq;have hg2 : (aY encP blk).getD idx[(i / 128).toNat].toNat [] = cells encP blk[idx[(i / 128).toNat].toNat] := cC hk;refine ⟨_, _, _, rfl, _, _, _, rfl, ?_⟩;rw [hw];have := EP.at _ _ hj;simp only [ql, qr, qbf, qbm] at this
   have hcell : qh ((i % 128).toNat * 2) ((aY encP blk).getD idx[(i / 128).toNat].toNat []) = encP (F i) ++ (qh ((i % 128).toNat + 1) (blk[idx[(i / 128).toNat].toNat]).1).flatMap encP := by
    rw [hg2]; unfold cells; rw [this, he]
   refine ⟨cD tH (by omega) (by omega), idx[(i / 128).toNat], by rw [hg]; rfl, cD (EP.cells_len) g0 (by omega), by rw [hm]; omega, ?_⟩;rw [hm, hcell];exact ⟨(F i).1, rfl, (F i).2, rfl, rfl⟩
def cP (b : aN (Int × Int)) : List PV := cells encP b
def kvP (k : Int) : PV := .int .i64 k
def e8 (kn : List (aN (Int × Int) × Int)) : List (PV × PV) := bS (fun b => .agg (cP b)) kvP kn
def fV (ev : List ((Int × Int) × Int)) : List (PV × PV) := bS (fun v => .agg (encP v)) kvP ev
def lJ (sz : Int) (kn : List (aN (Int × Int) × Int)) (ev : List ((Int × Int) × Int)) (ixm ixn bkm bkn : Bool) (idx : List Int) (blk : List (aN (Int × Int))) : Hp :=
 [.box [.box 1 0, .mp 2, .mp 3], .box [.pv (.int .i64 sz), .own 4, .own 5], .mp (e8 kn), .mp (fV ev), .sl (3, 1) ixm ixn (bJ idx), .sl (117, 256) bkm bkn (aY encP blk)]
theorem mF (b : aN (Int × Int)) : (cP b).length = 256 := EP.cells_len b
theorem zB (b : aN (Int × Int)) : qaa 256 (qh 0 (cP b)) = cP b := by rw [qab, qc (by rw [mF]; omega)]
theorem zgm : eB qa 117 = true := by kernel_rfl
theorem zgn : fG qa 117 = (qg 128 [21, 21]).flatten := by kernel_rfl
theorem zC : eB qa 70 = true := by kernel_rfl
theorem zD : fG qa 70 = [21, 21] := by kernel_rfl
theorem zpa (b : aN (Int × Int)) (kn : List (aN (Int × Int) × Int)) : bO (.agg (cP b)) (e8 kn) = (bM b kn).map kvP := l8 (ek := fun b => PV.agg (cP b)) (ev := kvP) EP.blkEq b kn
theorem zpb (b : aN (Int × Int)) (k : Int) (kn : List (aN (Int × Int) × Int)) : bA (.agg (cP b)) (kvP k) (e8 kn) = e8 (bQ b k kn) := jE (ek := fun b => PV.agg (cP b)) (ev := kvP) EP.blkEq b k kn
theorem zgo (b : aN (Int × Int)) : aV qa 117 (.agg (cP b)) = true := EP.blkOk zgm zgn b
theorem zgp (kn : List (aN (Int × Int) × Int)) : bV qa 117 (e8 kn) := EP.blksOk zgm zgn kn
theorem zgq {sz : Int} {F : Int -> (Int × Int)} {idx : List Int} {blk : List (aN (Int × Int))} {kn : List (aN (Int × Int) × Int)} {ev : List ((Int × Int) × Int)} (hk : TInv sz F idx blk kn ev) (hb : blk.length <= 10000000) (ixn bkn : Bool) (b : aN (Int × Int)) :
 ACall qa 53 [.box 0 0, .pv (.agg (cP b))] (lJ sz kn ev false ixn false bkn idx blk) fun r h' => ∃ k kn' bn' blk', r = .pv (kvP k) /\ h' = lJ sz kn' ev false ixn true bn' idx blk' /\ TInv sz F idx blk' kn' ev /\ 0 <= k /\ blk'[k.toNat]? = some b /\ blk'.length <= blk.length + 1 := by
 refine ACall.mark 1000 [5] (R := fun r h' => ∃ k kn' bm' bn' blk', r = .pv (kvP k) /\ h' = lJ sz kn' ev false ixn bm' bn' idx blk' /\ TInv sz F idx blk' kn' ev /\ 0 <= k /\ blk'[k.toNat]? = some b /\ blk'.length <= blk.length + 1) ?_ ?_
 ·refine zo6 _ _ _ _ _ _ _ _ _ _ ?_;unfold zgi;rw [zB, zpa];have h128 : 256 <= (qh 0 (cP b)).length := by rw [qab, mF]; omega
  refine ⟨h128, zgp kn, zgo b, fun v hv => ?_, fun hv => ?_⟩
  ·cases hg : bM b kn with
   | none => rw [hg] at hv; cases hv
   | some k =>
     rw [hg] at hv; cases hv;obtain ⟨k0, k1⟩ := hk.kn_ok b k hg;exact ⟨k, rfl, k, kn, false, bkn, blk, rfl, rfl, hk, k0, k1, by omega⟩
  ·have hsz : aS [cP b] 256 /\ ((aY encP blk).length + 1) * 1024 <= 140737488355328 := ⟨fun e he => by simp at he; subst he; exact mF b, by rw [kE]; omega⟩
   have fin : ∃ k kn' bm' bn' blk', LV.pv (.int .i64 ((aY encP blk).length : Int)) = .pv (kvP k) /\
    [Ob.box [.box 1 0, .mp 2, .mp 3], .box [.pv (.int .i64 sz), .own 4, .own 5], .mp (bA (.agg (cP b)) (.int .i64 ((aY encP blk).length : Int)) (e8 kn)), .mp (fV ev), .sl (3, 1) false ixn (bJ idx), .sl (117, 256) true (bkn && false) (aY encP blk ++ [cP b])] = lJ sz kn' ev false ixn bm' bn' idx blk' /\ TInv sz F idx blk' kn' ev /\ 0 <= k /\ blk'[k.toNat]? = some b /\ blk'.length <= blk.length + 1 := by
    refine ⟨blk.length, bQ b (blk.length : Int) kn, true, bkn && false, blk ++ [b], by rw [kE]; rfl, ?_, hk.place b, by omega, by simp, by simp⟩;have := zpb b (blk.length : Int) kn;unfold kvP at this;rw [kE, this];simp [lJ, aY, cP]
   exact ⟨h128, zgp kn, zgo b, h128, ⟨mF b, hsz, fin⟩, mF b, ⟨hsz, fin⟩, hsz, fin⟩
 ·rintro r h' ⟨k, kn', bm', bn', blk', rfl, rfl, h1, h2, h3, h4⟩;exact ⟨k, kn', bn', blk', rfl, rfl, h1, h2, h3, h4⟩
theorem zpc (v : (Int × Int)) (ev : List ((Int × Int) × Int)) : bO (.agg (encP v)) (fV ev) = (bM v ev).map kvP := l8 (ek := fun v => PV.agg (encP v)) (ev := kvP) EP.valEq v ev
theorem zpd (v : (Int × Int)) (k : Int) (ev : List ((Int × Int) × Int)) : bA (.agg (encP v)) (kvP k) (fV ev) = fV (bQ v k ev) := jE (ek := fun v => PV.agg (encP v)) (ev := kvP) EP.valEq v k ev
theorem zF (v : (Int × Int)) : aV qa 70 (.agg (encP v)) = true := EP.valOk zC zD v
theorem zgr (ev : List ((Int × Int) × Int)) : bV qa 70 (fV ev) := EP.valsOk zC zD ev
theorem zG (l : List (Int × Int)) (j : Nat) (hj : j < l.length) (v : (Int × Int)) : aO (l.flatMap encP) (0 + j * 2) (encP v) = (l.set j v).flatMap encP := by
 have := EP.put l j hj v;simp only [ql, qr, qbf, qbm] at this ⊢;exact this
theorem zH (l : List (Int × Int)) : (l.flatMap encP).length = l.length * 2 := EP.flen l
theorem zgs : qg 256 (PV.int .i32 0) = (qg 128 ((0, 0) : (Int × Int))).flatMap encP := by rfl
theorem zpe {l : List (Int × Int)} {v : (Int × Int)} (hl : l.length = 128) (h : ∀ q, q < 128 -> l[q]? = some v) : l = qg 128 v := by
 refine qcc fun q => ?_;rcases qaz q 128 with hq | hq
 ·rw [h q hq, qap, if_pos hq]
 ·rw [qau (by omega), qau (by simp; omega)]
theorem zpf {sz : Int} {F : Int -> (Int × Int)} {idx : List Int} {blk : List (aN (Int × Int))} {kn : List (aN (Int × Int) × Int)} {ev : List ((Int × Int) × Int)} (hk : TInv sz F idx blk kn ev) (hb : blk.length <= 10000000) (ixn bkn : Bool) (v : (Int × Int)) :
 ACall qa 52 [.box 0 0, .pv (.agg (encP v))] (lJ sz kn ev false ixn false bkn idx blk) fun r h' => ∃ k kn' ev' bn' blk', r = .pv (kvP k) /\ h' = lJ sz kn' ev' false ixn true bn' idx blk' /\ TInv sz F idx blk' kn' ev' /\ 0 <= k /\ blk'[k.toNat]? = some (rep v) /\ blk'.length <= blk.length + 1 := by
 refine ACall.mark 1000 [5] (R := fun r h' => ∃ k kn' ev' bm' bn' blk', r = .pv (kvP k) /\ h' = lJ sz kn' ev' false ixn bm' bn' idx blk' /\ TInv sz F idx blk' kn' ev' /\ 0 <= k /\ blk'[k.toNat]? = some (rep v) /\ blk'.length <= blk.length + 1) ?_ ?_
 ·refine zo7 _ _ _ _ _ _ _ _ _ v.1 v.2 (fun x m2 m3 c => 0 <= x /\ x <= 128 /\ m2 = e8 kn /\ m3 = fV ev /\ ∃ l : List (Int × Int), l.length = 128 /\ c = l.flatMap encP /\ ∀ q, q < x.toNat -> l[q]? = some v) (fun x _ _ _ => 128 - x.toNat) ?_;unfold zgj;rw [show [.int .i32 v.1, .int .i32 v.2] = encP v from rfl, zpc];refine ⟨zgr ev, zF v, fun u hu => ?_, fun hu => ⟨⟨rfl, qd _, by omega, rfl, rfl, qg 128 (0, 0), by simp, zgs, fun q hq => by simp at hq⟩, ?_⟩⟩
  ·cases hg : bM v ev with
   | none => rw [hg] at hu; cases hu
   | some k =>
     rw [hg] at hu; cases hu;obtain ⟨k0, k1⟩ := hk.ev_ok v k hg;exact ⟨k, rfl, k, kn, ev, false, bkn, blk, rfl, rfl, hk, k0, k1, by omega⟩
  ·rintro x _ _ _ ⟨x0, x1, rfl, rfl, l, hl, rfl, hq⟩;refine aG (fun hc => ?_) (fun hc => ?_)
   ·simp only [aB] at hc;have hw : i64.wrap (x + 1) = x + 1 := aD (by omega) (by omega);have hn : (x + 1).toNat = x.toNat + 1 := by omega
    rw [zG l x.toNat (by omega) v, hw, zH];refine ⟨⟨x0, hc⟩, ⟨rfl, by omega⟩, rfl, ⟨by omega, by omega, rfl, rfl, l.set x.toNat v, by simpa using hl, rfl, fun q hq' => ?_⟩, by dsimp only; omega⟩
    rw [hn] at hq';rw [qbb];by_cases e : x.toNat = q
    ·rw [if_pos e, if_pos (by omega)]
    ·rw [if_neg e]; exact hq q (by omega)
   ·simp only [aB] at hc;have hx : x = 128 := by omega
    subst hx;have hrep := zpe hl hq;subst hrep;have hcI : (qg 128 v).flatMap encP = cP (rep v) := rfl;rw [hcI, zB];refine ⟨by rw [qab, mF]; omega, ?_⟩;refine (zgq hk hb ixn bkn (rep v)).mono ?_;rintro _ _ ⟨k, kn', bn', blk', rfl, rfl, h1, h2, h3, h4⟩;refine ⟨(k, e8 kn', bn', aY encP blk'), ⟨rfl, rfl⟩, ⟨trivial, ⟨rfl, rfl, rfl⟩, trivial, trivial, trivial, trivial, trivial⟩, zgr ev, zF v, ?_⟩;have := zpd v k ev;unfold kvP at this;simp only [this];exact ⟨k, kn', bQ v k ev, _, bn', blk', rfl, rfl, h1.even h2 h3, h2, h3, h4⟩
 ·rintro r h' ⟨k, kn', ev', bm', bn', blk', rfl, rfl, h1, h2, h3, h4⟩;exact ⟨k, kn', ev', bn', blk', rfl, rfl, h1, h2, h3, h4⟩
theorem zpg {v : (Int × Int)} {j : Nat} {u : (Int × Int)} (h : (Trie.rep v).1[j]? = some u) : u = v /\ j < 128 := by
 simp only [Trie.rep, qap] at h;split at h
 ·rename_i hj; cases h; exact ⟨rfl, hj⟩
 ·cases h
theorem p83 (sz : Int) (z : (Int × Int)) (n f : Bool) (l : List (Pc (Int × Int))) (hl : l.length < 4611686018427387904) (hok : ∀ p ∈ l, -9223372036854775808 <= p.fr - 1 /\ p.fr - 1 <= 9223372036854775807) (hs1 : 1 <= sz) (hs2 : sz <= 1114112) :
 PCall qa 24 [.int .i64 sz, .agg (encP z), .sl n f (kH l)] fun v => TrieP sz (eV l z) v := by
 have hF := fun i => p7 l z i (sz - 1);generalize hFF : eV l z = F at *
 refine zo8 _ z.1 z.2 _ _ _
  (fun x10 x11 va vb _ s2 _ s3 m4 m5 => ∃ idx blk kn ev, s2 = bJ idx /\ s3 = aY encP blk /\ m4 = e8 kn /\ m5 = fV ev /\ TInv sz F idx blk kn ev /\ x11 = 128 * idx.length /\ blk.length <= idx.length /\ x11 < sz + 128 /\ (∀ j, x11 <= j -> j <= x10 -> F j = (va, vb)) /\ x10 <= sz - 1)
  (fun _ x11 _ _ _ _ _ _ _ _ => (sz + 128 - x11).toNat)
  (fun _ y11 _ _ _ _ _ _ _ _ _ x10 x11 x13 va vb _ s2 _ s3 m4 m5 => ∃ idx blk kn ev, s2 = bJ idx /\ s3 = aY encP blk /\ m4 = e8 kn /\ m5 = fV ev /\ TInv sz F idx blk kn ev /\ x11 = 128 * idx.length /\ x11 < sz + 128 /\ (∀ j, x11 <= j -> j <= x10 -> F j = (va, vb)) /\ x10 <= sz - 1 /\ 0 <= x13 /\ blk[x13.toNat]? = some (rep (va, vb)) /\
   ((x11 = y11 /\ x11 < sz /\ (x11 + 127 <= x10 ∨ sz - 1 <= x10) /\ blk.length <= idx.length + 1) ∨ (y11 + 128 <= x11 /\ blk.length <= idx.length)))
  (fun _ x11 _ _ _ _ _ _ _ _ _ => (sz + 128 - x11).toNat)
  (fun _ y11 _ _ _ _ _ _ _ _ _ _ x10 x11 x va vb c _ s3 _ s4 m5 m6 => ∃ idx blk kn ev, s3 = bJ idx /\ s4 = aY encP blk /\ m5 = e8 kn /\ m6 = fV ev /\ TInv sz F idx blk kn ev /\ x11 = 128 * idx.length /\ blk.length <= idx.length /\ x11 = y11 /\ x11 < sz /\ 0 <= x /\ x <= 128 /\ x10 <= sz - 1 /\ (∀ j, x11 + x <= j -> j <= x10 -> F j = (va, vb)) /\
   ∃ b : List (Int × Int), b.length = 128 /\ c = b.flatMap encP /\ ∀ (q : Nat) u, b[q]? = some u -> q < x.toNat -> x11 + q < sz -> u = F (x11 + q))
  (fun _ _ x _ _ _ _ _ _ _ _ _ => (128 - x).toNat) ?_
 unfold zgk;have hw1 : i64.wrap (sz - 1) = sz - 1 := aD (by omega) (by omega);rw [hw1];refine bI (by simp; omega) ?_;refine (zA n f l z 0 (sz - 1) hl hok).mono ?_;rintro _ rfl;obtain ⟨_, f2, f3, f4⟩ := hF 0 (by omega);refine ⟨_, rfl, rfl, _, rfl, _, rfl, rfl, _, rfl, _, rfl, _, rfl, _, rfl, ⟨rfl, [], [], [], [], rfl, rfl, rfl, rfl, TInv.nil, rfl, qu _, by omega, f4, f3⟩, ?_⟩;clear f2 f3 f4;rintro u0 x v0a v0b _ _ _ _ _ _ ⟨idx, blk, kn, ev, rfl, rfl, rfl, rfl, hk, hx, hb, hx2, hv0, hu0⟩;refine aG (fun hc => ?_) (fun hc => ?_)
 ·simp only [aB] at hc;have hw2 : i64.wrap (x + 128) = x + 128 := aD (by omega) (by omega);rw [hw2]
  have hmin : ∀ a : Int, i64.wrap ((if sz < a + 128 then sz else a + 128) - 1) = (if sz < a + 128 then sz else a + 128) - 1 ∨ ¬ (0 <= a /\ a <= 1114112) := fun a => by
   by_cases ha : 0 <= a /\ a <= 1114112
   ·left; split <;> exact aD (by omega) (by omega)
   ·exact .inr ha
  have hmx := (hmin x).resolve_right (by omega);rw [hmx];refine aG (fun hgt => ?ga) (fun hgt => ?gb)
  case' ga =>
   refine (zA n f l z x (sz - 1) hl hok).mono ?_;rintro _ rfl;obtain ⟨_, hux, hu, hv⟩ := hF x (by omega);refine ⟨_, rfl, rfl, _, rfl, _, rfl, rfl, _, rfl, _, rfl, _, rfl, _, rfl, ?_⟩
   revert hv hu
   generalize (findL l z x (sz - 1)).1 = v;generalize (findL l z x (sz - 1)).2 = u;clear hv0 hu0 hux;intro hu hv
  case' gb =>
   obtain ⟨v, rfl, rfl⟩ : ∃ v : (Int × Int), v.1 = v0a /\ v.2 = v0b := ⟨(v0a, v0b), rfl, rfl⟩
   revert hv0 hu0 hgt
   generalize u0 = u;intro hu hgt hv
  all_goals
   clear hgt;refine aG (fun hc2 => ?_) (fun hc2 => ?_)
   ·simp only [aB, ge_iff_le] at hc2;have hc3 : x + 127 <= u ∨ sz - 1 <= u := by split at hc2 <;> omega
    refine (zpf hk (by omega) _ _ v).mono ?_;rintro _ _ ⟨k, kn', ev', bn', blk', rfl, rfl, g1, g2, g3, g4⟩;refine ⟨(k, e8 kn', fV ev', bn', aY encP blk'), ⟨rfl, rfl⟩, ⟨trivial, ⟨rfl, rfl, rfl⟩, trivial, trivial, trivial, trivial, trivial⟩, ⟨rfl, idx, blk', kn', ev', rfl, rfl, rfl, rfl, g1, hx, hx2, hv, hu, g2, g3, .inl ⟨rfl, hc, hc3, by omega⟩⟩, ?_⟩;rintro t y k' wa wb _ _ _ _ _ _ ⟨idx2, blk2, kn2, ev2, rfl, rfl, rfl, rfl, hk2, hy, hy2, hw, ht, hk0, hkb, hor⟩;have hwy : i64.wrap (y + 128) = y + 128 := aD (by omega) (by omega);rw [hwy, (hmin y).resolve_right (by omega)];refine aG (fun hc4 => ?_) (fun hc4 => ?_)
    ·simp only [qe, aB, ge_iff_le] at hc4;have hc5 : y + 127 <= t ∨ sz - 1 <= t := by have := hc4.2; split at this <;> omega
     refine ⟨⟨fun e he => by simp at he; subst he; rfl, by rw [kD]; omega⟩, rfl, ⟨idx2 ++ [k'], blk2, kn2, ev2, by simp [bJ], rfl, rfl, rfl, hk2.push hk0 hkb fun j u' hj hlt => ?_, by simp; omega, by omega, fun j h1 h2 => hw j (by omega) h2, ht, hk0, hkb, .inr ⟨by omega, by simp; omega⟩⟩, by dsimp only; omega⟩;obtain ⟨rfl, hj2⟩ := zpg hj;exact (hw _ (by omega) (by omega)).symm
    ·have hw128 : i64.wrap (y - 128) = y - 128 := aD (by omega) (by omega);have hback : i64.wrap (y - 128 + 128) = y := by rw [aD (by omega) (by omega)]; omega
     rw [hw128, hback];simp only [qe, aB, ge_iff_le, not_and] at hc4
     have hor2 : x + 128 <= y /\ blk2.length <= idx2.length := by
      rcases hor with ⟨h1, h2, h3, h4⟩ | h
      ·exfalso;have := hc4 h2;split at this <;> omega
      ·exact h
     exact ⟨rfl, ⟨idx2, blk2, kn2, ev2, rfl, rfl, rfl, rfl, hk2, hy, hor2.2, hy2, hw, ht⟩, by dsimp only; omega⟩
   ·clear hc2;refine ⟨⟨rfl, idx, blk, kn, ev, rfl, rfl, rfl, rfl, hk, hx, hb, rfl, hc, qd _, by omega, hu, fun j h1 h2 => hv j (by omega) h2, qg 128 (0, 0), by simp, zgs, fun q u' _ hq _ => by simp at hq⟩, ?_⟩;rintro t y i wa wb _ _ _ _ _ _ _ ⟨idx2, blk2, kn2, ev2, rfl, rfl, rfl, rfl, hk2, hy, hb2, hyx, hy2, i0, i1, ht, hw, b, hbl, rfl, hbq⟩;obtain ⟨w, rfl, rfl⟩ : ∃ v : (Int × Int), v.1 = wa /\ v.2 = wb := ⟨(wa, wb), rfl, rfl⟩;have hwyi : i64.wrap (y + i) = y + i := aD (by omega) (by omega);have hwi : i64.wrap (i + 1) = i + 1 := aD (by omega) (by omega);have hwy : i64.wrap (y + 128) = y + 128 := aD (by omega) (by omega);rw [hwyi, hwi, hwy]
    have step : ∀ (v' : (Int × Int)) (u' : Int), (∀ j, y + i <= j -> j <= u' -> F j = v') -> u' <= sz - 1 -> (y + i < sz -> F (y + i) = v') -> i < 128 ->
     ∃ idx blk kn ev, bJ idx2 = bJ idx /\ aY encP blk2 = aY encP blk /\ e8 kn2 = e8 kn /\ fV ev2 = fV ev /\ TInv sz F idx blk kn ev /\ y = 128 * idx.length /\ blk.length <= idx.length /\ y = x /\ y < sz /\ 0 <= i + 1 /\ i + 1 <= 128 /\ u' <= sz - 1 /\ (∀ j, y + (i + 1) <= j -> j <= u' -> F j = v') /\
      ∃ c : List (Int × Int), c.length = 128 /\ (b.set i.toNat v').flatMap encP = c.flatMap encP /\ ∀ (q : Nat) u, c[q]? = some u -> q < (i + 1).toNat -> y + q < sz -> u = F (y + q) := fun v' u' h1 h2 h3 h4 => by
     refine ⟨idx2, blk2, kn2, ev2, rfl, rfl, rfl, rfl, hk2, hy, hb2, hyx, hy2, by omega, by omega, h2, fun j a1 a2 => h1 j (by omega) a2, b.set i.toNat v', by simpa using hbl, rfl, fun q u hq hq2 hq3 => ?_⟩
     rw [qbb] at hq;by_cases e : i.toNat = q
     ·rw [if_pos e, if_pos (by omega)] at hq;cases hq;have e2 : y + (q : Int) = y + i := by omega
      rw [e2];exact (h3 (by omega)).symm
     ·rw [if_neg e] at hq;exact hbq q u hq (by omega) hq3
    refine aG (fun hc5 => ?_) (fun hc5 => ?_)
    ·simp only [aB] at hc5;refine aG (fun hc6 => ?_) (fun hc6 => ?_)
     ·simp only [qe, aB, gt_iff_lt] at hc6;refine (zA n f l z (y + i) (sz - 1) hl hok).mono ?_;rintro _ rfl;obtain ⟨q1, q2, q3, q4⟩ := hF (y + i) (by omega);refine ⟨_, rfl, rfl, _, rfl, _, rfl, rfl, _, rfl, _, rfl, _, rfl, _, rfl, ⟨i0, hc5⟩, ⟨rfl, by rw [zH]; omega⟩, rfl, ?_, by dsimp only; omega⟩;have hput := zG b i.toNat (by omega) (findL l z (y + i) (sz - 1)).1;unfold encP at hput ⊢;rw [hput];exact step _ _ q4 q3 (fun _ => q1.symm) hc5
     ·simp only [qe, aB, gt_iff_lt, not_and] at hc6;refine ⟨⟨i0, hc5⟩, ⟨rfl, by rw [zH]; omega⟩, rfl, ?_, by dsimp only; omega⟩;have hput := zG b i.toNat (by omega) w;unfold encP at hput ⊢;rw [hput];exact step _ _ hw ht (fun h => hw _ (qd _) ((Int.lt_or_le t (y + i)).elim (fun h2 => absurd h (hc6 h2)) id)) hc5
    ·simp only [aB] at hc5;have hi : i = 128 := by omega
     subst hi;obtain ⟨B, hB⟩ : ∃ B : aN (Int × Int), B.1 = b := ⟨⟨b, hbl⟩, rfl⟩;subst hB;have hcI : B.1.flatMap encP = cP B := rfl;rw [hcI, zB];refine ⟨by rw [qab, mF]; omega, (fun h => ⟨h, h⟩) ?_⟩;refine (zgq hk2 (by omega) _ _ B).mono ?_;rintro _ _ ⟨k, kn', bn', blk', rfl, rfl, h1, h2, h3, h4⟩;refine ⟨(k, e8 kn', bn', aY encP blk'), ⟨rfl, rfl⟩, ⟨trivial, ⟨rfl, rfl, rfl⟩, trivial, trivial, trivial, trivial, trivial⟩, ⟨fun e he => by simp at he; subst he; rfl, by rw [kD]; omega⟩, rfl, ⟨idx2 ++ [k], blk', kn', ev2, by simp [bJ, kvP], rfl, rfl, rfl, h1.push h2 h3 fun j u' hj hlt => ?_, by simp; omega, by simp; omega, by omega, fun j a1 a2 => hw j (by omega) a2, ht⟩, by dsimp only; omega⟩;have hj2 : j < 128 := by have := (List.getElem?_eq_some_iff.1 hj).1; simp only [hbl] at this; exact this
     rw [<- hy];exact hbq j u' hj (by omega) (by omega)
 ·simp only [aB] at hc;exact ⟨_, _, _, _, idx, blk, rfl, by omega, hk.idx_ok⟩
end Go.Eng
namespace Go.Eng
open Go Go.Proofs Go.Eng.Rows Go.Eng.Trie
theorem TrieI.congr {sz : Int} {F G : Int -> Int} {v : PV} (h : TrieI sz F v) (hFG : ∀ i, 0 <= i -> i < sz -> F i = G i) : TrieI sz G v := by
 obtain ⟨n, f, n2, f2, idx, blk, rfl, h1, h2⟩ := h;refine ⟨n, f, n2, f2, idx, blk, rfl, h1, fun q k hq => ?_⟩;obtain ⟨k0, b, hb, hv⟩ := h2 q k hq;exact ⟨k0, b, hb, fun j u hj hlt => by rw [<- hFG _ (by omega) hlt]; exact hv j u hj hlt⟩
theorem TrieP.congr {sz : Int} {F G : Int -> Int × Int} {v : PV} (h : TrieP sz F v) (hFG : ∀ i, 0 <= i -> i < sz -> F i = G i) : TrieP sz G v := by
 obtain ⟨n, f, n2, f2, idx, blk, rfl, h1, h2⟩ := h;refine ⟨n, f, n2, f2, idx, blk, rfl, h1, fun q k hq => ?_⟩;obtain ⟨k0, b, hb, hv⟩ := h2 q k hq;exact ⟨k0, b, hb, fun j u hj hlt => by rw [<- hFG _ (by omega) hlt]; exact hv j u hj hlt⟩
theorem TrieF.congr {sz : Int} {F G : Int -> Fl} {v : PV} (h : TrieF sz F v) (hFG : ∀ i, 0 <= i -> i < sz -> F i = G i) : TrieF sz G v := by
 obtain ⟨n, f, n2, f2, idx, blk, rfl, h1, h2⟩ := h;refine ⟨n, f, n2, f2, idx, blk, rfl, h1, fun q k hq => ?_⟩;obtain ⟨k0, b, hb, hv⟩ := h2 q k hq;exact ⟨k0, b, hb, fun j u hj hlt => by rw [<- hFG _ (by omega) hlt]; exact hv j u hj hlt⟩
def toI (s : Sp) : Pc Int := ⟨s.fr, s.to, s.a⟩
theorem zI (n f : Bool) (rows : List Row) (k : Int) (hl : rows.length < 1000000) : PCall qa 21 [.sl n f (cZ rows), .int .i64 k] fun v => TrieI 1114112 (aI rows k) v := by
 have hg := mB k rows;have hlen := hg.len;refine zmv _ _ _ _ (fun _ _ s10 x11 x12 m s => s10 = aJ (aH k rows) /\ x11 = (aH k rows).length /\ 0 <= x12 /\ x12 <= x11 /\ s = kF (((aH k rows).take x12.toNat).map toI)) (fun _ _ _ x11 x12 _ _ => (x11 - x12).toNat) ?_;unfold zei;refine (p29 _ _ rows k (by omega)).mono ?_;rintro _ ⟨n1, f1, rfl⟩;refine ⟨_, _, _, rfl, ⟨rfl, rfl, by rw [eH], qd _, by rw [eH]; omega, rfl⟩, ?_⟩;rintro _ _ _ x11 i m _ ⟨rfl, rfl, i0, i1, rfl⟩;refine aG (fun hc => ?_) (fun hc => ?_)
 ·simp only [aB] at hc;have hi : i.toNat < (aH k rows).length := by omega
  have hw : i64.wrap (i + 1) = i + 1 := aD (by omega) (by omega);have hn : (i + 1).toNat = i.toNat + 1 := by omega
  have hgd : (aJ (aH k rows)).getD i.toNat [] = c7 (aH k rows)[i.toNat] := cC hi;have hix : aR (aJ (aH k rows)) i 4 := cD g8 i0 (by omega);refine ⟨hix, (aH k rows)[i.toNat].fr, by rw [hgd]; rfl, (aH k rows)[i.toNat].to, by rw [hgd]; rfl, (aH k rows)[i.toNat].a, by rw [hgd]; rfl, (aH k rows)[i.toNat].b, by rw [hgd]; rfl, ⟨fun e he => by simp at he; subst he; rfl, by simp [kF]; omega⟩, rfl, ?_⟩;rw [hw];refine ⟨⟨rfl, rfl, by omega, by omega, ?_⟩, by dsimp only; omega⟩;rw [hn, dH hi, qai];unfold kF;rw [qai];rfl
 ·simp only [aB] at hc;rw [qc (by omega)];refine (zop 1114112 0 _ _ _ (by simp; omega) (fun p hp => ?_) (by omega) (by omega)).mono fun v hv => hv.congr fun i h0 h1 => zn8 rows k i;obtain ⟨s, hs, rfl⟩ := List.mem_map.1 hp;have := hg.2 s hs;exact ⟨by simp only [toI]; omega, by simp only [toI]; omega⟩

def tI (ll : List (Bool × Bool × List Sp)) : List (List PV) := ll.map fun x => [.sl x.1 x.2.1 (aJ x.2.2)]
abbrev tJ (M : List (Int × Bool)) : List (PV × PV) := bS (fun n => .int .i64 n) (fun b => .bool b) M
def iB (ll : List (Bool × Bool × List Sp)) : List Sp := (ll.map (·.2.2)).flatten
def nO (l : List Sp) : List Int := l.flatMap fun s => [s.fr, s.to + 1]
theorem zph (l : List Sp) (s : Sp) (x : Int) : x ∈ nO (l ++ [s]) ↔ x ∈ nO l ∨ x = s.fr ∨ x = s.to + 1 := by
 simp [nO]
def JM (done : List Sp) (m : List (PV × PV)) : Prop := ∃ M : List (Int × Bool), m = tJ M /\ (M.map (·.1)).Nodup /\ M.length <= 1 + 2 * done.length /\ ∀ x, x ∈ M.map (·.1) ↔ x = 0 ∨ x ∈ nO done
theorem zpi (n f : Bool) (ll : List (Bool × Bool × List Sp)) (hl : ll.length < 1000) (hg : ∀ x ∈ ll, Rows.Good x.2.2) :
 PCall qa 42 [.sl n f (tI ll)] fun v => ∃ n f t, v = .sl n f (bJ t) /\ t.length < 4000000000 /\ ∀ x, x ∈ t ↔ lG (ll.map (·.2.2)) x := by
 have hlen : ∀ k, (iB (ll.take k)).length <= 1114112 * k := fun k => by
  induction k with
  | zero => simp [iB]
  | succ k ih =>
    by_cases hk : k < ll.length
    ·rw [dH hk];have := (hg _ (qq hk)).len;simp only [iB, qai, qax, qb, qcp, qby, qo, qx, qt] at ih ⊢;omega
    ·rw [qc (by omega)];rw [qc (by omega)] at ih;omega
 refine zmw _ _ _ (fun i m => 0 <= i /\ i <= ll.length /\ JM (iB (ll.take i.toNat)) m) (fun i _ => ll.length - i.toNat)
  (fun i _ _ _ _ _ _ i' n18 f18 s18 x19 k m => i' = i /\ 0 <= i /\ ∃ hi : i.toNat < ll.length, s18 = aJ ll[i.toNat].2.2 /\ x19 = ll[i.toNat].2.2.length /\ 0 <= k /\ k <= x19 /\ JM (iB (ll.take i.toNat) ++ ll[i.toNat].2.2.take k.toNat) m) (fun _ _ _ _ x19 k _ => (x19 - k).toNat)
  (fun m s r _ => ∃ (A : List Int) (R : List (Int × Bool)) (K : List Int), s = bJ A /\ r = tJ R /\ (A ++ R.map (·.1)).Perm K /\ K.length < 4000000000 /\ (∀ x, x ∈ K ↔ lG (ll.map (·.2.2)) x)) (fun _ _ r _ => r.length) ?_
 unfold zej;refine ⟨fun kv hkv => (by cases hkv), ⟨rfl, qd _, by omega, [(0, true)], rfl, by simp, by simp [iB], fun x => by simp [iB, nO]⟩, ?_⟩;rintro i _ ⟨i0, i1, M, rfl, hnd, hml, hmem⟩;have hlc : (tI ll).length = ll.length := by simp [tI]
 refine aG (fun hc => ?_) (fun hc => ?_)
 ·simp only [aB, hlc] at hc;have hi : i.toNat < ll.length := by omega
  have hw : i64.wrap (i + 1) = i + 1 := aD (by omega) (by omega);have hn : (i + 1).toNat = i.toNat + 1 := by omega
  have hgd : (tI ll).getD i.toNat [] = [.sl ll[i.toNat].1 ll[i.toNat].2.1 (aJ ll[i.toNat].2.2)] := cC hi;have hgi := hg _ (qq hi);have hgl := hgi.len;have hsl := hlen i.toNat;refine ⟨cD (enc := fun x : Bool × Bool × List Sp => [PV.sl x.1 x.2.1 (aJ x.2.2)]) (fun _ => rfl) i0 hc, _, _, _, by rw [hgd]; rfl, ⟨rfl, rfl, i0, hi, rfl, by rw [eH], qd _, by rw [eH]; omega, M, rfl, hnd, by simpa using hml, by simpa using hmem⟩, ?_⟩
  rintro i' n18 f18 _ _ k _ ⟨rfl, _, _, rfl, rfl, k0, k1, M, rfl, hnd, hml, hmem⟩;rw [qb, qi] at hml;refine aG (fun hc2 => ?_) (fun hc2 => ?_)
  ·simp only [aB] at hc2;have hk : k.toNat < ll[i'.toNat].2.2.length := by omega
   have hwk : i64.wrap (k + 1) = k + 1 := aD (by omega) (by omega);have hnk : (k + 1).toNat = k.toNat + 1 := by omega
   have hgk : (aJ ll[i'.toNat].2.2).getD k.toNat [] = c7 ll[i'.toNat].2.2[k.toNat] := cC hk;have hix : aR (aJ ll[i'.toNat].2.2) k 4 := cD g8 k0 (by omega);have hr := hgi.2 _ (qq hk);have hts : ll[i'.toNat].2.2.take (k.toNat + 1) = ll[i'.toNat].2.2.take k.toNat ++ [ll[i'.toNat].2.2[k.toNat]] := dH hk;generalize ll[i'.toNat].2.2[k.toNat] = s at *;have hwt : i64.wrap (s.to + 1) = s.to + 1 := aD (by omega) (by omega);have set1 := jE (ek := fun n => PV.int .i64 n) (ev := fun b => PV.bool b) (pZ .i64) s.fr true M;have set2 := jE (ek := fun n => PV.int .i64 n) (ev := fun b => PV.bool b) (pZ .i64) (s.to + 1) true (bQ s.fr true M)
   have fin : (JM (iB (ll.take i'.toNat) ++ ll[i'.toNat].2.2.take (k.toNat + 1)) (bA (.int .i64 (s.to + 1)) (.bool true) (bA (.int .i64 s.fr) (.bool true) (tJ M)))) := by
    refine ⟨bQ (s.to + 1) true (bQ s.fr true M), by rw [set1, set2], zd2 (zd2 hnd), ?_, fun x => ?_⟩
    ·have e1 := zd4 s.fr true M;have e2 := zd4 (s.to + 1) true (bQ s.fr true M);rw [hts, qb, qb, qi];simp only [ql, qr];omega
    ·rw [zd3, zd3, hmem, hts, <- qf, zph];constructor
     ·rintro ((h | h) | h)
      ·exact h.elim .inl fun h => .inr (.inl h)
      ·exact .inr (.inr (.inl h))
      ·exact .inr (.inr (.inr h))
     ·rintro (h | h | h | h)
      ·exact .inl (.inl (.inl h))
      ·exact .inl (.inl (.inr h))
      ·exact .inl (.inr h)
      ·exact .inr h
   have hk1 : kB .i64 (bA (.int .i64 s.fr) (.bool true) (tJ M)) := by rw [set1]; exact mA _
   refine ⟨hix, s.fr, by rw [hgk]; rfl, s.to, by rw [hgk]; rfl, s.a, by rw [hgk]; rfl, s.b, by rw [hgk]; rfl, ?_⟩;rw [hwt, hwk];have hmu : ((ll[i'.toNat].2.2.length : Int) - (k + 1)).toNat < ((ll[i'.toNat].2.2.length : Int) - k).toNat := by omega
   rw [<- hnk] at fin;refine ⟨⟨?_, ?_⟩, ?_⟩ <;> exact ⟨mA M, hk1, rfl, ⟨rfl, i0, hi, rfl, rfl, by omega, by omega, fin⟩, hmu⟩
  ·simp only [aB] at hc2;have htl : ll[i'.toNat].2.2.take k.toNat = ll[i'.toNat].2.2 := qc (by omega);rw [htl] at hmem
   have hso : iB (ll.take (i' + 1).toNat) = iB (ll.take i'.toNat) ++ ll[i'.toNat].2.2 := by
    rw [hn, dH hi]; simp only [iB, qai, qcp, qby, qax, qo, qx, qt]
   rw [hw];refine ⟨rfl, ⟨by omega, by omega, M, rfl, hnd, ?_, fun x => ?_⟩, by dsimp only; omega⟩
   ·rw [hso, qb]; omega
   ·rw [hmem, hso]
 ·simp only [aB, hlc] at hc;rw [qc (by omega)] at hmem hml
  have hM : M.length < 4000000000 := by
   have := hlen ll.length;rw [qc (qu _)] at this;omega
  refine ⟨⟨rfl, [], M, M.map (·.1), rfl, rfl, List.Perm.refl _, by simpa using hM, fun x => ?_⟩, ?_⟩
  ·rw [hmem];unfold lG nO iB;simp only [qch, List.mem_flatten, qal, qaw, or_false];constructor
   ·rintro (h | ⟨s, ⟨l, hl, hs⟩, h⟩)
    ·exact .inl h
    ·exact .inr ⟨l, hl, s, hs, h⟩
   ·rintro (h | ⟨l, hl, s, hs, h⟩)
    ·exact .inl h
    ·exact .inr ⟨s, ⟨l, hl, hs⟩, h⟩
  ·rintro m _ _ q ⟨A, R, K, rfl, rfl, hp, hKl, hKm⟩;have hlen2 := hp.length_eq;simp only [qb, qcl] at hlen2;refine ⟨fun hr => ?_, fun j k v hj => ?_⟩
   ·have hR : R = [] := by cases R with | nil => rfl | cons => simp [bS] at hr
    subst hR;simp only [qby, qt] at hp;simp only [qr] at hlen2;exact ⟨_, _, A, rfl, by omega, fun x => by rw [hp.mem_iff, hKm]⟩
   ·obtain ⟨hjl, rfl, rfl, hpe, he⟩ := zmi hj;refine ⟨R[j].1, rfl, R[j].2, rfl, _, rfl, _, rfl, ⟨fun e he => by simp at he; subst he; rfl, by rw [kD]; omega⟩, rfl, ⟨A ++ [R[j].1], R.eraseIdx j, K, by simp [bJ], he, ?_, hKl, hKm⟩, ?_⟩
    ·refine List.Perm.trans ?_ hp;rw [qf];refine List.Perm.append_left A ?_;simpa using hpe.map (·.1)
    ·dsimp only;rw [he, zd1, zd1, List.length_eraseIdx_of_lt hjl]; omega
theorem nP {i : Int} (h0 : 0 <= i) (h1 : i < 4) : i = 0 ∨ i = 1 ∨ i = 2 ∨ i = 3 := by omega
def cN (l0 l1 l2 l3 : List Sp) (i : Nat) : List Sp := [l0, l1, l2, l3].getD i []
theorem at4 (n0 f0 n1 f1 n2 f2 n3 f3 : Bool) (l0 l1 l2 l3 : List Sp) {i : Int} (h0 : 0 <= i) (h1 : i < 4) : ∃ n f, [PV.sl n0 f0 (aJ l0), .sl n1 f1 (aJ l1), .sl n2 f2 (aJ l2), .sl n3 f3 (aJ l3)].getD i.toNat .unit = .sl n f (aJ (cN l0 l1 l2 l3 i.toNat)) := by
 rcases nP h0 h1 with rfl | rfl | rfl | rfl
 ·exact ⟨n0, f0, rfl⟩
 ·exact ⟨n1, f1, rfl⟩
 ·exact ⟨n2, f2, rfl⟩
 ·exact ⟨n3, f3, rfl⟩
theorem zpj (l0 l1 l2 l3 : List Sp) {i : Int} (h0 : 0 <= i) (h1 : i < 4) : ([l0, l1, l2, l3].take (i + 1).toNat) = ([l0, l1, l2, l3].take i.toNat) ++ [cN l0 l1 l2 l3 i.toNat] := by
 rcases nP h0 h1 with rfl | rfl | rfl | rfl <;> rfl
theorem zpk (l0 l1 l2 l3 : List Sp) {i : Int} (h0 : 0 <= i) (h1 : i < 4) : cN l0 l1 l2 l3 i.toNat ∈ [l0, l1, l2, l3] := by
 rcases nP h0 h1 with rfl | rfl | rfl | rfl <;> simp [cN]
theorem zpl (a last : Int) (n0 f0 n1 f1 n2 f2 n3 f3 : Bool) (l0 l1 l2 l3 : List Sp) (hg : ∀ l ∈ [l0, l1, l2, l3], Rows.Good l) :
 PCall qa 44 [.int .i64 a, .int .i64 last, .agg [.sl n0 f0 (aJ l0), .sl n1 f1 (aJ l1), .sl n2 f2 (aJ l2), .sl n3 f3 (aJ l3)]] fun v => v = .int .i64 (dM a last [l0, l1, l2, l3].flatten) := by
 refine zmx _ _ _ _ _ _ _ _ _ _ _ _ _ _
  (fun x _ _ s0 _ _ s1 _ _ s2 _ _ s3 i => s0 = aJ l0 /\ s1 = aJ l1 /\ s2 = aJ l2 /\ s3 = aJ l3 /\ 0 <= i /\ i <= 4 /\ x = dM a last ([l0, l1, l2, l3].take i.toNat).flatten) (fun _ _ _ _ _ _ _ _ _ _ _ _ _ i => (4 - i).toNat)
  (fun _ _ _ _ _ _ _ _ _ _ _ _ _ i _ _ _ _ _ x _ _ s0 _ _ s1 _ _ s2 _ _ s3 i' _ _ s15 x16 k => s0 = aJ l0 /\ s1 = aJ l1 /\ s2 = aJ l2 /\ s3 = aJ l3 /\ i = i' /\ s15 = aJ (cN l0 l1 l2 l3 i.toNat) /\ x16 = (cN l0 l1 l2 l3 i.toNat).length /\ 0 <= k /\ k <= x16 /\
   x = dM a last (([l0, l1, l2, l3].take i.toNat).flatten ++ (cN l0 l1 l2 l3 i.toNat).take k.toNat)) (fun _ _ _ _ _ _ _ _ _ _ _ _ _ _ _ _ _ x16 k => (x16 - k).toNat) ?_
 unfold zek;refine ⟨_, _, _, rfl, _, _, _, rfl, _, _, _, rfl, _, _, _, rfl, ⟨rfl, rfl, rfl, rfl, rfl, qd _, by omega, rfl⟩, ?_⟩;rintro _ n0 f0 _ n1 f1 _ n2 f2 _ n3 f3 _ i ⟨rfl, rfl, rfl, rfl, i0, i1, rfl⟩;have hw : i64.wrap (i + 1) = i + 1 := aD (by omega) (by omega);refine aG (fun hc => ?_) (fun hc => ?_)
 ·simp only [aB] at hc;obtain ⟨m, g, hat⟩ := at4 n0 f0 n1 f1 n2 f2 n3 f3 l0 l1 l2 l3 i0 hc;have hgi := hg _ (zpk l0 l1 l2 l3 i0 hc);have hgl := hgi.len;refine ⟨⟨i0, hc, by simp; omega⟩, m, g, _, hat, ⟨rfl, rfl, rfl, rfl, rfl, rfl, rfl, by rw [eH], qd _, by rw [eH]; omega, by simp⟩, ?_⟩;rintro _ n0 f0 _ n1 f1 _ n2 f2 _ n3 f3 _ _ n15 f15 _ _ k ⟨rfl, rfl, rfl, rfl, rfl, rfl, rfl, k0, k1, rfl⟩;have htk := zpj l0 l1 l2 l3 i0 hc;refine aG (fun hc2 => ?_) (fun hc2 => ?_)
  ·simp only [aB] at hc2;have hk : k.toNat < (cN l0 l1 l2 l3 i.toNat).length := by omega
   have hwk : i64.wrap (k + 1) = k + 1 := aD (by omega) (by omega);have hnk : (k + 1).toNat = k.toNat + 1 := by omega
   have hgk : (aJ (cN l0 l1 l2 l3 i.toNat)).getD k.toNat [] = c7 (cN l0 l1 l2 l3 i.toNat)[k.toNat] := cC hk;have hix : aR (aJ (cN l0 l1 l2 l3 i.toNat)) k 4 := cD g8 k0 (by omega);have hr := hgi.2 _ (qq hk);have hts : (cN l0 l1 l2 l3 i.toNat).take (k.toNat + 1) = (cN l0 l1 l2 l3 i.toNat).take k.toNat ++ [(cN l0 l1 l2 l3 i.toNat)[k.toNat]] := dH hk;have hmu : (((cN l0 l1 l2 l3 i.toNat).length : Int) - (k + 1)).toNat < (((cN l0 l1 l2 l3 i.toNat).length : Int) - k).toNat := by omega
   refine ⟨hix, (cN l0 l1 l2 l3 i.toNat)[k.toNat].fr, by rw [hgk]; rfl, (cN l0 l1 l2 l3 i.toNat)[k.toNat].to, by rw [hgk]; rfl, (cN l0 l1 l2 l3 i.toNat)[k.toNat].a, by rw [hgk]; rfl, (cN l0 l1 l2 l3 i.toNat)[k.toNat].b, by rw [hgk]; rfl, ?_⟩;rw [hwk];generalize (cN l0 l1 l2 l3 i.toNat)[k.toNat] = s at *;have hws : i64.wrap (s.fr - 1) = s.fr - 1 := aD (by omega) (by omega);rw [hws]
   have hstep : dM a last (([l0, l1, l2, l3].take i.toNat).flatten ++ (cN l0 l1 l2 l3 i.toNat).take (k + 1).toNat) = if s.fr > a /\ s.fr <= dM a last (([l0, l1, l2, l3].take i.toNat).flatten ++ (cN l0 l1 l2 l3 i.toNat).take k.toNat) then s.fr - 1 else dM a last (([l0, l1, l2, l3].take i.toNat).flatten ++ (cN l0 l1 l2 l3 i.toNat).take k.toNat) := by
    rw [hnk, hts, <- qf, zfl]; rfl
   refine aG (fun h1 => aG (fun h2 => ?_) (fun h2 => ?_)) (fun h1 => ?_)
   ·simp only [aB] at h1 h2;rw [if_pos ⟨h1, h2⟩] at hstep;exact ⟨rfl, ⟨rfl, rfl, rfl, rfl, rfl, rfl, rfl, by omega, by omega, hstep.symm⟩, hmu⟩
   ·simp only [aB] at h1 h2;rw [if_neg (fun h => h2 h.2)] at hstep;exact ⟨rfl, ⟨rfl, rfl, rfl, rfl, rfl, rfl, rfl, by omega, by omega, hstep.symm⟩, hmu⟩
   ·simp only [aB] at h1;rw [if_neg (fun h => h1 h.1)] at hstep;exact ⟨rfl, ⟨rfl, rfl, rfl, rfl, rfl, rfl, rfl, by omega, by omega, hstep.symm⟩, hmu⟩
  ·simp only [aB] at hc2;have htl : (cN l0 l1 l2 l3 i.toNat).take k.toNat = (cN l0 l1 l2 l3 i.toNat) := qc (by omega);rw [hw, htl];refine ⟨rfl, ⟨rfl, rfl, rfl, rfl, by omega, by omega, ?_⟩, by dsimp only; omega⟩;rw [htk]; simp
 ·simp only [aB] at hc;have : i = 4 := by omega
  subst this;rfl
def kd (q : Nat) : Int := [5, 7, 8, 3].getD q 0
def k4 (rows : List Row) (q : Nat) : List Sp := aH (kd q) rows
theorem zpm (rows : List Row) {i : Int} (h0 : 0 <= i) (h1 : i < 4) : cN (aH 5 rows) (aH 7 rows) (aH 8 rows) (aH 3 rows) i.toNat = k4 rows i.toNat := by
 rcases nP h0 h1 with rfl | rfl | rfl | rfl <;> rfl
def CellsK (rows : List Row) (i : Int) (c : List PV) : Prop := c.length = 4 /\ ∀ q : Nat, (q : Int) < i -> ∃ n f, c[q]? = some (.sl n f (aJ (k4 rows q)))
def HasC (rows : List Row) (a i : Int) (c : List PV) : Prop := c.length = 4 /\ ∀ q : Nat, (q : Int) < i -> c[q]? = some (.bool (c4 rows (kd q) a))
theorem zgt {c : List PV} (hl : c.length = 4) {i : Int} (h0 : 0 <= i) (h1 : i < 4) (v : PV) : (aO c (0 + i.toNat * 1) [v]).length = 4 /\ ∀ q : Nat, (aO c (0 + i.toNat * 1) [v])[q]? = if q = i.toNat then some v else c[q]? := by
 have hle : (0 + i.toNat * 1) + [v].length <= c.length := by simp; omega
 refine ⟨by rw [iY _ _ _ hle, hl], fun q => ?_⟩;rw [kQ _ _ _ hle];simp only [qbf, Nat.mul_one, ql, qr];by_cases hq : q = i.toNat
 ·subst hq; rw [if_pos (by omega), if_pos rfl]; simp
 ·rw [if_neg (by omega), if_neg hq]
theorem CellsK.put {rows : List Row} {i : Int} {c : List PV} (h : CellsK rows i c) (h0 : 0 <= i) (h1 : i < 4) (n f : Bool) : CellsK rows (i + 1) (aO c (0 + i.toNat * 1) [.sl n f (aJ (k4 rows i.toNat))]) := by
 obtain ⟨e1, e2⟩ := zgt h.1 h0 h1 (.sl n f (aJ (k4 rows i.toNat)));refine ⟨e1, fun q hq => ?_⟩;rw [e2];by_cases hqi : q = i.toNat
 ·subst hqi; rw [if_pos rfl]; exact ⟨n, f, rfl⟩
 ·rw [if_neg hqi]; exact h.2 q (by omega)
theorem HasC.put {rows : List Row} {a i : Int} {c : List PV} (h : HasC rows a i c) (h0 : 0 <= i) (h1 : i < 4) {b : Bool} (hb : b = c4 rows (kd i.toNat) a) : HasC rows a (i + 1) (aO c (0 + i.toNat * 1) [.bool b]) := by
 obtain ⟨e1, e2⟩ := zgt h.1 h0 h1 (.bool b);refine ⟨e1, fun q hq => ?_⟩;rw [e2];by_cases hqi : q = i.toNat
 ·subst hqi; rw [if_pos rfl, hb]
 ·rw [if_neg hqi]; exact h.2 q (by omega)
theorem eq4 {c : List PV} {a0 a1 a2 a3 : PV} (hl : c.length = 4) (h0 : c[0]? = some a0) (h1 : c[1]? = some a1) (h2 : c[2]? = some a2) (h3 : c[3]? = some a3) : c = [a0, a1, a2, a3] := by
 match c, hl with
 | [b0, b1, b2, b3], _ => simp at h0 h1 h2 h3; rw [h0, h1, h2, h3]
theorem CellsK.all {rows : List Row} {c : List PV} (h : CellsK rows 4 c) : ∃ n0 f0 n1 f1 n2 f2 n3 f3, c = [.sl n0 f0 (aJ (aH 5 rows)), .sl n1 f1 (aJ (aH 7 rows)), .sl n2 f2 (aJ (aH 8 rows)), .sl n3 f3 (aJ (aH 3 rows))] := by
 obtain ⟨n0, f0, e0⟩ := h.2 0 (by omega);obtain ⟨n1, f1, e1⟩ := h.2 1 (by omega);obtain ⟨n2, f2, e2⟩ := h.2 2 (by omega);obtain ⟨n3, f3, e3⟩ := h.2 3 (by omega);exact ⟨n0, f0, n1, f1, n2, f2, n3, f3, eq4 h.1 e0 e1 e2 e3⟩
theorem HasC.all {rows : List Row} {a : Int} {c : List PV} (h : HasC rows a 4 c) : c = [.bool (c8 rows a).1, .bool (c8 rows a).2.1, .bool (c8 rows a).2.2.1, .bool (c8 rows a).2.2.2] :=
 eq4 h.1 (h.2 0 (by omega)) (h.2 1 (by omega)) (h.2 2 (by omega)) (h.2 3 (by omega))
theorem zpn {i : Int} (h0 : 0 <= i) (h1 : i < 4) : [PV.int .i64 5, .int .i64 7, .int .i64 8, .int .i64 3].getD i.toNat .unit = .int .i64 (kd i.toNat) := by
 rcases nP h0 h1 with rfl | rfl | rfl | rfl <;> rfl
theorem zgu (rows : List Row) : ∀ l ∈ l4 rows, Rows.Good l := by
 intro l hl;simp only [l4, qal, qaw, or_false] at hl;rcases hl with rfl | rfl | rfl | rfl <;> exact mB _ _
theorem zpo (rows : List Row) {i : Int} (h0 : 0 <= i) (h1 : i < 4) : (l4 rows).take (i + 1).toNat = (l4 rows).take i.toNat ++ [k4 rows i.toNat] := by
 rcases nP h0 h1 with rfl | rfl | rfl | rfl <;> rfl
theorem zpp {rows : List Row} {x : Int} (h : lG (l4 rows) x) : 0 <= x /\ x <= 1114112 := by
 rcases h with rfl | ⟨l, hl, s, hs, h⟩
 ·omega
 ·have := (zgu rows l hl).2 s hs;omega
def TrP (rows : List Row) (t : List Int) (i : Int) (s : List (List PV)) : Prop := ∃ P : List (Pc Fl), s = kG P /\ (P.length : Int) <= i /\ PiecesOK rows (t.take i.toNat) P
theorem zpq (n f : Bool) (rows : List Row) (hl : rows.length < 1000000) : PCall qa 22 [.sl n f (cZ rows)] fun v => TrieF 1114112 (c8 rows) v := by
 refine zmy _ _ _
  (fun a b c d i c0 => a = 5 /\ b = 7 /\ c = 8 /\ d = 3 /\ 0 <= i /\ i <= 4 /\ CellsK rows i c0) (fun _ _ _ _ i _ => (4 - i).toNat)
  (fun p4 _ _ s29 x30 i _ s => CellsK rows 4 p4 /\ ∃ t, s29 = bJ t /\ x30 = t.length /\ t.length < 4000000000 /\ (∀ x, x ∈ t ↔ lG (l4 rows) x) /\ 0 <= i /\ i <= x30 /\ TrP rows t i s) (fun _ _ _ _ x30 i _ _ => (x30 - i).toNat)
  (fun p4 a _ _ _ s29 x30 i _ _ _ _ _ _ _ _ _ _ _ _ _ _ s _ p4' a' x11 _ _ s29' x30' i' _ _ s0 _ _ s1 _ _ s2 _ _ s3 k _ s' c1 => p4 = p4' /\ a = a' /\ s29 = s29' /\ x30 = x30' /\ i = i' /\ s = s' /\ s0 = aJ (aH 5 rows) /\ s1 = aJ (aH 7 rows) /\ s2 = aJ (aH 8 rows) /\ s3 = aJ (aH 3 rows) /\
   0 <= k /\ k <= 4 /\ HasC rows a k c1 /\ LastOK ((l4 rows).take k.toNat) a x11) (fun _ _ _ _ _ _ _ _ _ _ _ _ _ _ _ _ _ _ _ _ k _ _ _ => (4 - k).toNat) ?_
 unfold zel;refine ⟨⟨rfl, qu _⟩, _, rfl, _, rfl, _, rfl, _, rfl, ⟨rfl, rfl, rfl, rfl, rfl, qd _, by omega, rfl, fun q hq => absurd hq (by omega)⟩, ?_⟩;rintro _ _ _ _ i c0 ⟨rfl, rfl, rfl, rfl, i0, i1, hck⟩;have hw : i64.wrap (i + 1) = i + 1 := aD (by omega) (by omega);refine aG (fun hc => ?_) (fun hc => ?_)
 ·simp only [aB] at hc;refine ⟨⟨i0, hc, by simp; omega⟩, kd i.toNat, zpn i0 hc, ?_⟩;refine (p29 _ _ rows (kd i.toNat) (by omega)).mono ?_;rintro _ ⟨n1, f1, rfl⟩;rw [hw];exact ⟨_, _, _, rfl, ⟨i0, hc⟩, ⟨rfl, by rw [hck.1]; omega⟩, rfl, ⟨rfl, rfl, rfl, rfl, by omega, by omega, hck.put i0 hc n1 f1⟩, by dsimp only; omega⟩
 ·simp only [aB] at hc;have : i = 4 := by omega
  subst this;obtain ⟨n0, f0, n1, f1, n2, f2, n3, f3, rfl⟩ := hck.all;refine ⟨⟨⟨by simp, by simp⟩, rfl⟩, ?_⟩;refine (zpi false true [(n0, f0, aH 5 rows), (n1, f1, aH 7 rows), (n2, f2, aH 8 rows), (n3, f3, aH 3 rows)] (by simp) (fun x hx => ?_)).mono ?_
  ·simp only [qal, qaw, or_false] at hx;rcases hx with rfl | rfl | rfl | rfl <;> exact mB _ _
  rintro _ ⟨n4, f4, t, rfl, htl, ht⟩;refine ⟨_, _, _, rfl, ⟨rfl, hck, t, rfl, by rw [kD], htl, ht, qd _, by rw [kD]; omega, [], rfl, qd _, PiecesOK.nil rows⟩, ?_⟩;clear ht htl;rintro p4 n29 f29 _ _ i m _ ⟨hck, t, rfl, rfl, htl, ht, i0, i1, P, rfl, hPl, hP⟩;have hw : i64.wrap (i + 1) = i + 1 := aD (by omega) (by omega);refine aG (fun hc => ?_) (fun hc => ?_)
  ·simp only [aB] at hc;have hi : i.toNat < t.length := by omega
   have hn : (i + 1).toNat = i.toNat + 1 := by omega
   have hgd : (bJ t).getD i.toNat [] = [.int .i64 t[i.toNat]] := cC hi;have hts : t.take (i.toNat + 1) = t.take i.toNat ++ [t[i.toNat]] := dH hi;have hcut := (ht t[i.toNat]).1 (qq hi);have hrng := zpp hcut;obtain ⟨n0, f0, n1, f1, n2, f2, n3, f3, rfl⟩ := hck.all
   refine ⟨cD tH i0 (by omega), t[i.toNat], by rw [hgd]; rfl, _, _, _, rfl, _, _, _, rfl, _, _, _, rfl, _, _, _, rfl,
    ⟨rfl, rfl, rfl, rfl, rfl, rfl, rfl, rfl, rfl, rfl, rfl, qd _, by omega, ⟨rfl, fun q hq => absurd hq (by omega)⟩, LastOK.nil _⟩, ?_⟩
   generalize t[i.toNat] = a at *;rintro _ _ x11 n29 f29 _ _ _ n0 f0 _ n1 f1 _ n2 f2 _ n3 f3 _ k m' _ c1 ⟨rfl, rfl, rfl, rfl, rfl, rfl, rfl, rfl, rfl, rfl, k0, k1, hhas, hlast⟩;have hwk : i64.wrap (k + 1) = k + 1 := aD (by omega) (by omega);refine aG (fun hc2 => ?_) (fun hc2 => ?_)
   ·simp only [aB] at hc2;obtain ⟨n4, f4, hat⟩ := at4 n0 f0 n1 f1 n2 f2 n3 f3 (aH 5 rows) (aH 7 rows) (aH 8 rows) (aH 3 rows) k0 hc2;rw [zpm rows k0 hc2] at hat;refine ⟨⟨k0, hc2, by simp; omega⟩, n4, f4, _, hat, ?_⟩;have hwa : i32.wrap a = a := dF (by omega) (by omega);rw [hwa];refine (p34 _ _ (k4 rows k.toNat) a (mB _ _) (by omega)).mono ?_;rintro _ ⟨x, q, rfl, hq1, hq2⟩;have htk := zpo rows k0 hc2;have hmu : (4 - (k + 1)).toNat < (4 - k).toNat := by omega
    refine ⟨_, rfl, rfl, _, rfl, _, rfl, rfl, x.fr, rfl, x.to, rfl, x.a, rfl, x.b, rfl, _, rfl, q, rfl, ?_⟩;rw [hwk];have hsz : ([PV.bool true].length : Nat) = 1 /\ 0 + k.toNat * 1 + 1 <= c1.length := ⟨rfl, by rw [hhas.1]; omega⟩;cases q with
    | true =>
      obtain ⟨hx1, hx2⟩ := hq1 rfl
      have hv : (x.a == 1) = c4 rows (kd k.toNat) a := by
       unfold c4; rw [mC hx1 hx2]; rfl
      refine bG rfl ⟨⟨k0, hc2⟩, hsz, bG rfl ⟨rfl, ⟨rfl, rfl, rfl, rfl, rfl, rfl, rfl, rfl, rfl, rfl, by omega, by omega, hhas.put k0 hc2 hv, ?_⟩, hmu⟩⟩;rw [htk];have := hlast.some hx1 hx2 (mB _ _);exact this
    | false =>
      obtain ⟨_, hno⟩ := hq2 rfl
      have hv : false = c4 rows (kd k.toNat) a := by
       unfold c4; rw [tE hno]
      refine bI (by simp) ⟨⟨k0, hc2⟩, hsz, bI (by simp) ⟨rfl, ⟨rfl, rfl, rfl, rfl, rfl, rfl, rfl, rfl, rfl, rfl, by omega, by omega, hhas.put k0 hc2 hv, ?_⟩, hmu⟩⟩;rw [htk];exact hlast.none hno
   ·simp only [aB] at hc2;have : k = 4 := by omega
    subst this;have hc1 := hhas.all;subst hc1;have hmu : ((t.length : Int) - (i + 1)).toNat < ((t.length : Int) - i).toNat := by omega
    refine ⟨_, rfl, _, rfl, _, rfl, _, rfl, ?_⟩;rw [hw];refine aG (fun hc3 => ?_) (fun hc3 => ?_)
    ·refine ⟨_, _, _, rfl, _, _, _, rfl, _, _, _, rfl, _, _, _, rfl, ⟨by omega, by omega⟩, _, rfl, ⟨by omega, by omega⟩, _, rfl, ⟨by omega, by omega⟩, _, rfl, ⟨by omega, by omega⟩, _, rfl, ?_⟩;refine (zpl a x11 _ _ _ _ _ _ _ _ (aH 5 rows) (aH 7 rows) (aH 8 rows) (aH 3 rows) (zgu rows)).mono ?_;rintro _ rfl;refine ⟨_, rfl, ⟨fun e he => by simp at he; subst he; rfl, by simp [kG]; omega⟩, rfl, ⟨hck, t, rfl, rfl, htl, ht, by omega, by omega, P ++ [⟨a, dM a x11 (l4 rows).flatten, c8 rows a⟩], ?_, by simp; omega, ?_⟩, hmu⟩
     ·unfold kG; rw [qai]; rfl
     ·rw [hn, hts]; exact hP.put hrng.1 hrng.2 hlast
    ·refine ⟨rfl, ⟨hck, t, rfl, rfl, htl, ht, by omega, by omega, P, rfl, by omega, ?_⟩, hmu⟩;rw [hn, hts];refine hP.skip ?_
     revert hc3
     generalize c8 rows a = fl;obtain ⟨b0, b1, b2, b3⟩ := fl;cases b0 <;> cases b1 <;> cases b2 <;> cases b3 <;> simp
  ·simp only [aB] at hc;rw [qc (by omega)] at hP;refine (zo3 1114112 (false, false, false, false) _ _ P (by omega) (fun p hp => ?_) (by omega) (by omega)).mono fun v hv => hv.congr fun i h0 h1 => hP.val ht h0 (by omega);have := (hP.sound p hp).1;omega
end Go.Eng
namespace Go.Eng.Rows
open Go Go.Eng Go.Eng.Trie
theorem zgv (k v p : PV) (M : List (PV × PV)) : jA (d8 k M) p (bA k v M) = bA k p M /\ d8 k M < (bA k v M).length := by
 unfold jA d8 bA;cases h : bH k M with
 | none => simp
 | some j =>
   have := lY h;simp [this]
def dP (rows : List Row) : Prop := ∀ x ∈ rows, x.kind = 2 -> (1 <= x.a /\ x.a <= 1114111) /\ 0 <= x.b /\ x.b <= 1114111
theorem mG {rows : List Row} {k r : Int} {p : Int × Int} (h : bW rows k r = some p) : ∃ x ∈ rows, x.kind = k /\ x.a = p.1 /\ x.b = p.2 /\ x.fr <= r /\ r <= x.to /\ 0 <= r /\ r <= 1114111 := by
 unfold bW at h;split at h
 ·rename_i hr;unfold first at h
  cases hf : rows.find? (fun x => x.has k r) with
  | none => rw [hf] at h; cases h
  | some x =>
    rw [hf] at h; cases h;have h1 := List.mem_of_find?_eq_some hf;have h2 := List.find?_some hf;simp only [Row.has, qe, aB] at h2;exact ⟨x, h1, h2.1, rfl, rfl, h2.2.1, h2.2.2, hr.1, hr.2⟩
 ·cases h
theorem zJ {rows : List Row} (hp : dP rows) (r : Int) : (0 <= (aM rows r).1 /\ (aM rows r).1 <= 1114111) /\ 0 <= (aM rows r).2 /\ (aM rows r).2 <= 1114111 := by
 unfold aM;cases h : bW rows 2 r with
 | none => simp
 | some p =>
   obtain ⟨x, h1, h2, h3, h4, _⟩ := mG h;have := hp x h1 h2;simp only; omega
theorem zpr {rows : List Row} {r : Int} {s : Sp} (hs : s ∈ aH 2 rows) (h : s.has r) : aM rows r = (s.a, s.b) := by
 unfold aM; rw [mC hs h]
theorem zps {rows : List Row} {r : Int} (h : aM rows r ≠ (0, 0)) : ∃ s ∈ aH 2 rows, s.has r := by
 cases hf : bW rows 2 r with
 | none => unfold aM at h; rw [hf] at h; exact absurd rfl h
 | some p => obtain ⟨s, h1, h2, _⟩ := yJ hf; exact ⟨s, h1, h2⟩
theorem zgw {rows : List Row} (hp : dP rows) {s : Sp} (hs : s ∈ aH 2 rows) : (1 <= s.a /\ s.a <= 1114111) /\ 0 <= s.b /\ s.b <= 1114111 := by
 have hg := (mB 2 rows).2 s hs;obtain ⟨x, h1, h2, h3, h4, _⟩ := mG (mC hs (r := s.fr) ⟨qd _, hg.2.1⟩);have := hp x h1 h2;simp only at h3 h4;omega
def kI (rows : List Row) (r : Int) : Prop := aM rows r ≠ (0, 0) /\ g9 rows r = false
structure MadeOK (rows : List Row) (D : Int -> Prop) (made : List ((Int × Int) × Int)) (sec : List (Int × Bool)) : Prop where
 m1 : ∀ p r, bM p made = some r -> D r /\ kI rows r /\ aM rows r = p /\ ∀ r', D r' -> kI rows r' -> aM rows r' = p -> r <= r'
 m2 : ∀ p, bM p made = none -> ∀ r', D r' -> kI rows r' -> aM rows r' ≠ p
 s1 : ∀ b v, bM b sec = some v -> v = true /\ ∃ r, D r /\ kI rows r /\ (aM rows r).2 = b
 s2 : ∀ b, bM b sec = none -> ∀ r', D r' -> kI rows r' -> (aM rows r').2 ≠ b
theorem MadeOK.nil (rows : List Row) : MadeOK rows (fun _ => False) [] [] := ⟨fun p r h => (by cases h), fun p _ r' h => h.elim, fun b v h => (by cases h), fun b _ r' h => h.elim⟩
theorem MadeOK.same {rows : List Row} {D D' : Int -> Prop} {made : List ((Int × Int) × Int)} {sec : List (Int × Bool)} (h : MadeOK rows D made sec) (hd : ∀ r, kI rows r -> (D r ↔ D' r)) : MadeOK rows D' made sec :=
 ⟨fun p r hr => by
  obtain ⟨h1, h2, h3, h4⟩ := h.m1 p r hr;exact ⟨(hd r h2).1 h1, h2, h3, fun r' q1 q2 q3 => h4 r' ((hd r' q2).2 q1) q2 q3⟩,
 fun p hr r' q1 q2 => h.m2 p hr r' ((hd r' q2).2 q1) q2,
 fun b v hb => by
  obtain ⟨h1, r, h2, h3, h4⟩ := h.s1 b v hb;exact ⟨h1, r, (hd r h3).1 h2, h3, h4⟩,
 fun b hb r' q1 q2 => h.s2 b hb r' ((hd r' q2).2 q1) q2⟩
theorem MadeOK.known {rows : List Row} {D : Int -> Prop} {made : List ((Int × Int) × Int)} {sec : List (Int × Bool)} (h : MadeOK rows D made sec) {x r0 : Int} (hx : ∀ r, D r -> r < x) (hk : bM (aM rows x) made = some r0) : MadeOK rows (fun r => D r ∨ r = x) made sec := by
 obtain ⟨k1, k2, k3, k4⟩ := h.m1 _ _ hk;refine ⟨fun p r hr => ?_, fun p hr r' q1 q2 => ?_, fun b v hb => ?_, fun b hb r' q1 q2 => ?_⟩
 ·obtain ⟨h1, h2, h3, h4⟩ := h.m1 p r hr;refine ⟨.inl h1, h2, h3, fun r' q1 q2 q3 => ?_⟩;rcases q1 with q1 | rfl
  ·exact h4 r' q1 q2 q3
  ·exact qav (hx r h1)
 ·rcases q1 with q1 | rfl
  ·exact h.m2 p hr r' q1 q2
  ·intro e; rw [<- e, hk] at hr; cases hr
 ·obtain ⟨h1, r, h2, h3, h4⟩ := h.s1 b v hb;exact ⟨h1, r, .inl h2, h3, h4⟩
 ·rcases q1 with q1 | rfl
  ·exact h.s2 b hb r' q1 q2
  ·intro e;exact h.s2 b hb r0 k1 k2 (by rw [k3, e])
theorem MadeOK.out {rows : List Row} {D : Int -> Prop} {made : List ((Int × Int) × Int)} {sec : List (Int × Bool)} (h : MadeOK rows D made sec) {x : Int} (ho : g9 rows x = true) : MadeOK rows (fun r => D r ∨ r = x) made sec :=
 h.same fun r hr => ⟨.inl, fun hd => hd.elim id fun e => by subst e; have := hr.2; rw [ho] at this; cases this⟩
theorem MadeOK.put {rows : List Row} {D : Int -> Prop} {made : List ((Int × Int) × Int)} {sec : List (Int × Bool)} (h : MadeOK rows D made sec) {x : Int} (hx : ∀ r, D r -> r < x) (hn : bM (aM rows x) made = none) (hg : kI rows x) :
 MadeOK rows (fun r => D r ∨ r = x) (bQ (aM rows x) x made) (bQ (aM rows x).2 true sec) := by
 refine ⟨fun p r hr => ?_, fun p hr r' q1 q2 => ?_, fun b v hb => ?_, fun b hb r' q1 q2 => ?_⟩
 ·rw [l9] at hr;split at hr
  ·rename_i hp; cases hr; subst hp;refine ⟨.inr rfl, hg, rfl, fun r' q1 q2 q3 => ?_⟩;rcases q1 with q1 | rfl
   ·exact absurd q3 (h.m2 _ hn r' q1 q2)
   ·exact qd _
  ·rename_i hp;obtain ⟨h1, h2, h3, h4⟩ := h.m1 p r hr;refine ⟨.inl h1, h2, h3, fun r' q1 q2 q3 => ?_⟩;rcases q1 with q1 | rfl
   ·exact h4 r' q1 q2 q3
   ·exact qav (hx r h1)
 ·rw [l9] at hr;split at hr
  ·cases hr
  ·rename_i hp;rcases q1 with q1 | rfl
   ·exact h.m2 p hr r' q1 q2
   ·exact fun e => hp e.symm
 ·rw [l9] at hb;split at hb
  ·rename_i hp; cases hb; exact ⟨rfl, x, .inr rfl, hg, hp.symm⟩
  ·obtain ⟨h1, r, h2, h3, h4⟩ := h.s1 b v hb;exact ⟨h1, r, .inl h2, h3, h4⟩
 ·rw [l9] at hb;split at hb
  ·cases hb
  ·rename_i hp;rcases q1 with q1 | rfl
   ·exact h.s2 b hb r' q1 q2
   ·exact fun e => hp e.symm
end Go.Eng.Rows
namespace Go.Eng
open Go Go.Proofs Go.Eng.Rows Go.Eng.Trie
structure Tri (rows : List Row) (tc tg tj tf tp : PV) : Prop where
 c : TrieI 1114112 (aI rows 1) tc
 g : TrieI 1114112 (aI rows 4) tg
 j : TrieI 1114112 (aI rows 6) tj
 f : TrieF 1114112 (c8 rows) tf
 p : TrieP 1114112 (aM rows) tp
theorem TrieI.ptr {sz : Int} {F : Int -> Int} {v : PV} (h : TrieI sz F v) : ∃ ps, v = .ptr ps := by
 obtain ⟨n, f, n2, f2, idx, blk, rfl, _⟩ := h; exact ⟨_, rfl⟩
theorem TrieF.ptr {sz : Int} {F : Int -> Fl} {v : PV} (h : TrieF sz F v) : ∃ ps, v = .ptr ps := by
 obtain ⟨n, f, n2, f2, idx, blk, rfl, _⟩ := h; exact ⟨_, rfl⟩
theorem TrieP.ptr {sz : Int} {F : Int -> Int × Int} {v : PV} (h : TrieP sz F v) : ∃ ps, v = .ptr ps := by
 obtain ⟨n, f, n2, f2, idx, blk, rfl, _⟩ := h; exact ⟨_, rfl⟩
theorem zK {rows : List Row} {k r : Int} (h : ¬ (0 <= r /\ r < 1114112)) : bW rows k r = none := by
 unfold bW; rw [if_neg (by omega)]
theorem zL (rows : List Row) (k r : Int) : (if 0 <= r /\ r < 1114112 then aI rows k r else 0) = aI rows k r := by
 split
 ·rfl
 ·rename_i h; unfold aI; rw [zK h]
theorem zgx (rows : List Row) (r : Int) : (if 0 <= r /\ r < 1114112 then aM rows r else (0, 0)) = aM rows r := by
 split
 ·rfl
 ·rename_i h; unfold aM; rw [zK h]
theorem zgy (rows : List Row) (r : Int) : (if 0 <= r /\ r < 1114112 then c8 rows r else (false, false, false, false)) = c8 rows r := by
 split
 ·rfl
 ·rename_i h; unfold c8 c4; simp only [zK h]
section
variable {rows : List Row} {tc tg tj tf tp : PV} (M S : List (PV × PV))
theorem tK (ht : Tri rows tc tg tj tf tp) {r : Int} (hr : -2147483648 <= r /\ r <= 2147483647) : PCall qa 56 [.ptr [tc, tg, tj, tf, tp, .mp M, .mp S], .int .i32 r] fun v => v = .int .i64 (aI rows 1 r) := by
 refine zmz _ _ _ _ _ _ _ _ ?_;unfold zem;obtain ⟨ps, rfl⟩ := ht.c.ptr;refine .inl ⟨ps, rfl, ?_⟩;have hw : i64.wrap r = r := aD (by omega) (by omega);rw [hw];refine (yR ht.c r (by omega)).mono ?_;rintro _ rfl;exact ⟨_, rfl, by rw [zL]⟩
theorem zM (ht : Tri rows tc tg tj tf tp) {r : Int} (hr : -2147483648 <= r /\ r <= 2147483647) : PCall qa 54 [.ptr [tc, tg, tj, tf, tp, .mp M, .mp S], .int .i32 r] fun v =>
 v = .tup [.int .i32 (aM rows r).1, .int .i32 (aM rows r).2, .bool (!decide (aM rows r = (0, 0)))] := by
 refine zm0 _ _ _ _ _ _ _ _ ?_;unfold zen;obtain ⟨ps, rfl⟩ := ht.p.ptr;refine .inl ⟨ps, rfl, ?_⟩;have hw : i64.wrap r = r := aD (by omega) (by omega);rw [hw];refine (p84 ht.p r (by omega)).mono ?_;rintro _ rfl;rw [zgx];refine ⟨_, rfl, rfl, _, rfl, _, rfl, ?_⟩;generalize aM rows r = p;obtain ⟨a, b⟩ := p;simp only [cond_false, qbd];congr 4;by_cases h1 : a = 0 <;> by_cases h2 : b = 0 <;> simp [h1, h2]
theorem zpt (hp : dP rows) (ht : Tri rows tc tg tj tf tp) {r : Int} (hr : -2147483648 <= r /\ r <= 2147483647) : PCall qa 26 [.ptr [tc, tg, tj, tf, tp, .mp M, .mp S], .int .i32 r] fun v => v = .bool (g9 rows r) := by
 refine zm1 _ _ _ _ _ _ _ _ ?_;unfold zeo;refine (zM M S ht hr).mono ?_;rintro _ rfl;have hrng := zJ hp r;have hf : c4 rows 3 r = (c8 rows r).2.2.2 := rfl;refine ⟨_, rfl, rfl, _, rfl, _, rfl, _, rfl, _, rfl, _, rfl, _, rfl, ?_⟩;have hw : i64.wrap r = r := aD (by omega) (by omega);rw [hw];refine aG (fun h1 => aG (fun h2 => ?_) (fun h2 => ?_)) (fun h1 => ?_)
 ·simp only [qj, dA] at h1;simp only [beq_iff_eq] at h2;unfold g9; simp [h1, h2]
 ·simp only [qj, dA] at h1;simp only [beq_iff_eq] at h2;obtain ⟨ps, hps⟩ := ht.f.ptr;refine .inl ⟨ps, by rw [hps], ?_⟩;rw [<- hps];refine (zf5 ht.f r (by omega)).mono ?_;rintro _ rfl;rw [zgy];refine ⟨_, rfl, rfl, _, rfl, _, rfl, _, rfl, _, rfl, ?_⟩;refine aG (fun h3 => ?_) (fun h3 => ?_)
  ·rw [<- hf] at h3;unfold g9; simp [h1, h2, h3]
  ·rw [<- hf] at h3;refine (tK M S ht hr).mono ?_;rintro _ rfl;refine ⟨_, rfl, ?_⟩;refine aG (fun h4 => ?_) (fun h4 => ?_)
   ·simp only [bne_iff_ne, ne_eq] at h4;unfold g9; simp [h1, h2, h4]
   ·simp only [bne_iff_ne, ne_eq, qy] at h4;refine (tK M S ht (by omega)).mono ?_;rintro _ rfl;refine ⟨_, rfl, ?_⟩;unfold g9;simp only [qbe] at h3;simp only [h1, h2, h3, h4, decide_false, Bool.not_false, Bool.true_and, qcq, decide_true, qcr];rfl
 ·simp only [qj, dA, qy] at h1;unfold g9; simp [h1]
end
abbrev dQ (M : List ((Int × Int) × Int)) : List (PV × PV) := bS (fun p => .agg (encP p)) (fun n => .int .i32 n) M
abbrev iQ (S : List (Int × Bool)) : List (PV × PV) := bS (fun n => .int .i32 n) (fun b => .bool b) S
def tL (made : List ((Int × Int) × Int)) (p : Int × Int) : PV := match bM p made with
 | some r => .tup [.int .i32 r, .bool true]
 | none => .tup [.int .i32 0, .bool false]
theorem tM (p : Int × Int) : aV qa 70 (.agg (encP p)) = true := zF p
theorem tN (made : List ((Int × Int) × Int)) : bV qa 70 (dQ made) := by
 unfold dQ; exact EP.valsOk zC zD made
theorem zN (made : List ((Int × Int) × Int)) (p : Int × Int) : bO (.agg (encP p)) (dQ made) = (bM p made).map fun n => .int .i32 n := l8 (ek := fun p => PV.agg (encP p)) (ev := fun n => PV.int .i32 n) EP.valEq p made
theorem zpu (tc tg tj tf tp : PV) (S : List (PV × PV)) (made : List ((Int × Int) × Int)) (a b : Int) : PCall qa 78 [.ptr [tc, tg, tj, tf, tp, .mp (dQ made), .mp S], .int .i32 a, .int .i32 b] fun v =>
 v = if b = 0 then .tup [.int .i32 0, .bool false] else tL made (a, b) := by
 refine zm2 _ _ _ _ _ _ _ _ _ ?_;unfold zep;refine aG (fun h => ?_) (fun h => ?_)
 ·simp only [beq_iff_eq] at h; rw [if_pos h]
 ·simp only [beq_iff_eq] at h; rw [if_neg h];have hg := zN made (a, b);refine .inl ⟨_, rfl, tN made, tM (a, b), fun v hv => ?_, fun hv => ?_⟩
  ·have hv : bO (.agg (encP (a, b))) (dQ made) = some v := hv;rw [hg] at hv;unfold tL;cases h : bM (a, b) made with
   | none => rw [h] at hv; cases hv
   | some r => rw [h] at hv; cases hv; exact ⟨r, rfl, rfl⟩
  ·have hv : bO (.agg (encP (a, b))) (dQ made) = none := hv;rw [hg] at hv;unfold tL;cases h : bM (a, b) made with
   | none => rfl
   | some r => rw [h] at hv; cases hv
def dI (rows : List Row) (v : PV) : Prop := ∃ tc tg tj tf tp made sec, v = .ptr [tc, tg, tj, tf, tp, .mp (dQ made), .mp (iQ sec)] /\ Tri rows tc tg tj tf tp /\ MadeOK rows (fun r => 0 <= r /\ r <= 1114111) made sec
def toP (s : Sp) : Pc (Int × Int) := ⟨s.fr, s.to, (s.a, s.b)⟩
theorem qE {v : PV} (h : ∃ ps, v = .ptr ps) : eL v = true := by obtain ⟨ps, rfl⟩ := h; rfl
def mH (l : List Sp) (r : Int) : Prop := ∃ s ∈ l, s.has r
theorem zpv (n f : Bool) (rows : List Row) (hl : rows.length < 1000000) (hp : dP rows) : PCall qa 7 [.sl n f (cZ rows)] (dI rows) := by
 have hg := mB 2 rows;have hlen := hg.len
 refine zm3 _ _ _
  (fun _ _ s5 _ _ s28 x29 i h0 h1 h2 h3 _ s m2 m3 => s5 = aJ (aH 2 rows) /\ s28 = aJ (aH 2 rows) /\ x29 = (aH 2 rows).length /\ 0 <= i /\ i <= x29 /\ TrieI 1114112 (aI rows 1) h0 /\ TrieI 1114112 (aI rows 4) h1 /\ TrieI 1114112 (aI rows 6) h2 /\ TrieF 1114112 (c8 rows) h3 /\
   s = kH (((aH 2 rows).take i.toNat).map toP) /\ m2 = [] /\ m3 = []) (fun _ _ _ _ _ _ x29 i _ _ _ _ _ _ _ _ => (x29 - i).toNat)
  (fun _ _ s5 x29 i h0 h1 h2 h3 h4 m2 m3 => s5 = aJ (aH 2 rows) /\ x29 = (aH 2 rows).length /\ 0 <= i /\ i <= x29 /\ Tri rows h0 h1 h2 h3 h4 /\ ∃ made sec, m2 = dQ made /\ m3 = iQ sec /\ MadeOK rows (mH ((aH 2 rows).take i.toNat)) made sec) (fun _ _ _ x29 i _ _ _ _ _ _ _ => (x29 - i).toNat)
  (fun _ _ _ _ _ i _ _ _ _ _ _ _ _ _ _ _ r _ _ s5 x29 i' h0 h1 h2 h3 h4 a b c d m2 m3 => s5 = aJ (aH 2 rows) /\ x29 = (aH 2 rows).length /\ i = i' /\ 0 <= i /\ Tri rows h0 h1 h2 h3 h4 /\ ∃ hi : i.toNat < (aH 2 rows).length, a = (aH 2 rows)[i.toNat].fr /\ b = (aH 2 rows)[i.toNat].to /\ a <= r /\ r <= b + 1 /\
   ∃ made sec, m2 = dQ made /\ m3 = iQ sec /\ MadeOK rows (fun x => mH ((aH 2 rows).take i.toNat) x ∨ (a <= x /\ x < r)) made sec) (fun r _ _ _ _ _ _ _ _ _ _ _ b _ _ _ _ => (b + 1 - r).toNat) ?_
 unfold zeq;refine (zI _ _ rows 1 hl).mono fun v hv => (zI _ _ rows 4 hl).mono fun v1 hv1 => (zI _ _ rows 6 hl).mono fun v2 hv2 => (zpq _ _ rows hl).mono fun v3 hv3 => ⟨qE hv.ptr, qE hv1.ptr, qE hv2.ptr, qE hv3.ptr, ?_⟩;refine (p29 _ _ rows 2 (by omega)).mono ?_;rintro _ ⟨n1, f1, rfl⟩;refine ⟨_, _, _, rfl, ⟨rfl, rfl, rfl, by rw [eH], qd _, by rw [eH]; omega, hv, hv1, hv2, hv3, rfl, rfl, rfl⟩, ?_⟩;clear hv hv1 hv2 hv3;rintro n5 f5 _ n28 f28 _ _ i v v1 v2 v3 m _ _ _ ⟨rfl, rfl, rfl, i0, i1, hv, hv1, hv2, hv3, rfl, rfl, rfl⟩;have hw : i64.wrap (i + 1) = i + 1 := aD (by omega) (by omega);refine aG (fun hc => ?_) (fun hc => ?_)
 ·simp only [aB] at hc;have hi : i.toNat < (aH 2 rows).length := by omega
  have hn : (i + 1).toNat = i.toNat + 1 := by omega
  have hgd : (aJ (aH 2 rows)).getD i.toNat [] = c7 (aH 2 rows)[i.toNat] := cC hi;have hix : aR (aJ (aH 2 rows)) i 4 := cD g8 i0 (by omega);have hsr := zgw hp (qq hi);refine ⟨hix, (aH 2 rows)[i.toNat].fr, by rw [hgd]; rfl, (aH 2 rows)[i.toNat].to, by rw [hgd]; rfl, (aH 2 rows)[i.toNat].a, by rw [hgd]; rfl, (aH 2 rows)[i.toNat].b, by rw [hgd]; rfl, ⟨fun e he => by simp at he; subst he; rfl, by simp [kH]; omega⟩, rfl, ?_⟩;have w1 : i32.wrap (aH 2 rows)[i.toNat].a = (aH 2 rows)[i.toNat].a := dF (by omega) (by omega);have w2 : i32.wrap (aH 2 rows)[i.toNat].b = (aH 2 rows)[i.toNat].b := dF (by omega) (by omega);rw [hw, w1, w2];refine ⟨⟨rfl, rfl, rfl, by omega, by omega, hv, hv1, hv2, hv3, ?_, rfl, rfl⟩, by dsimp only; omega⟩;rw [hn, dH hi, qai];unfold kH;rw [qai];rfl
 ·simp only [aB] at hc;rw [qc (by omega)];refine (p83 1114112 (0, 0) _ _ ((aH 2 rows).map toP) (by simp; omega) (fun p hp' => ?_) (by omega) (by omega)).mono fun v4 hv4 => ?_
  ·obtain ⟨s, hs, rfl⟩ := List.mem_map.1 hp';have := hg.2 s hs;simp only [toP]; omega
  have hv4 : TrieP 1114112 (aM rows) v4 := hv4.congr fun i h0 h1 => zn9 rows i;refine ⟨qE hv4.ptr, ⟨rfl, rfl, by rw [eH], qd _, by rw [eH]; omega, ⟨hv, hv1, hv2, hv3, hv4⟩, [], [], rfl, rfl, (MadeOK.nil rows).same fun r hr => ⟨False.elim, fun ⟨s, hs, _⟩ => by cases hs⟩⟩, ?_⟩;clear hv hv1 hv2 hv3 hv4 hw hc i0 i1;rintro n5 f5 _ _ i v v1 v2 v3 v4 _ _ ⟨rfl, rfl, i0, i1, htri, made, sec, rfl, rfl, hm⟩;have hw : i64.wrap (i + 1) = i + 1 := aD (by omega) (by omega);refine aG (fun hc => ?_) (fun hc => ?_)
  ·simp only [aB] at hc;have hi : i.toNat < (aH 2 rows).length := by omega
   have hn : (i + 1).toNat = i.toNat + 1 := by omega
   have hgd : (aJ (aH 2 rows)).getD i.toNat [] = c7 (aH 2 rows)[i.toNat] := cC hi;have hix : aR (aJ (aH 2 rows)) i 4 := cD g8 i0 (by omega);have hsr := hg.2 _ (qq hi);have hts : (aH 2 rows).take (i.toNat + 1) = (aH 2 rows).take i.toNat ++ [(aH 2 rows)[i.toNat]] := dH hi
   have hlt : ∀ x, mH ((aH 2 rows).take i.toNat) x -> x < (aH 2 rows)[i.toNat].fr := fun x ⟨s, hs, hx⟩ => by
    obtain ⟨j, hj, rfl⟩ := qbj hs;rw [qi] at hj;rw [qcd] at hx;have := (List.pairwise_iff_getElem.1 hg.1) j i.toNat (by omega) hi (by omega);unfold Sp.has at hx;omega
   have w1 : i32.wrap (aH 2 rows)[i.toNat].fr = (aH 2 rows)[i.toNat].fr := dF (by omega) (by omega);refine ⟨hix, (aH 2 rows)[i.toNat].fr, by rw [hgd]; rfl, (aH 2 rows)[i.toNat].to, by rw [hgd]; rfl, (aH 2 rows)[i.toNat].a, by rw [hgd]; rfl, (aH 2 rows)[i.toNat].b, by rw [hgd]; rfl, ?_⟩;rw [w1];refine ⟨⟨rfl, rfl, rfl, rfl, i0, htri, hi, rfl, rfl, qd _, by omega, made, sec, rfl, rfl, hm.same fun r hr => ⟨.inl, fun h => h.elim id fun h => by omega⟩⟩, ?_⟩;clear htri hm;rintro r n5 f5 _ _ _ v v1 v2 v3 v4 _ _ c d _ _ ⟨rfl, rfl, rfl, _, htri, _, rfl, rfl, r0, r1, made, sec, rfl, rfl, hm⟩;have hwr : i64.wrap r = r := aD (by omega) (by omega);have hwr1 : i32.wrap (r + 1) = r + 1 := dF (by omega) (by omega);rw [hwr];refine aG (fun hc2 => ?_) (fun hc2 => ?_)
   ·simp only [aB] at hc2;have hhas : (aH 2 rows)[i.toNat].has r := ⟨r0, hc2⟩;have hpr := zpr (qq hi) hhas
    have hpne : aM rows r ≠ (0, 0) := by
     have := zgw hp (qq hi);rw [hpr]; intro e; injection e with e1 e2; omega
    have hmax : ∀ x, (mH ((aH 2 rows).take i.toNat) x ∨ ((aH 2 rows)[i.toNat].fr <= x /\ x < r)) -> x < r := fun x hx => by
     rcases hx with hx | hx
     ·have := hlt x hx; omega
     ·exact hx.2
    have hD : ∀ x, ((mH ((aH 2 rows).take i.toNat) x ∨ ((aH 2 rows)[i.toNat].fr <= x /\ x < r)) ∨ x = r) ↔ (mH ((aH 2 rows).take i.toNat) x ∨ ((aH 2 rows)[i.toNat].fr <= x /\ x < r + 1)) := fun x => by
     constructor
     ·rintro ((h | h) | h)
      ·exact .inl h
      ·exact .inr (by omega)
      ·exact .inr (by omega)
     ·rintro (h | h)
      ·exact .inl (.inl h)
      ·by_cases e : x = r
       ·exact .inr e
       ·exact .inl (.inr (by omega))
    have hmu : ((aH 2 rows)[i.toNat].to + 1 - (r + 1)).toNat < ((aH 2 rows)[i.toNat].to + 1 - r).toNat := by omega
    refine (p84 htri.p r (by omega)).mono ?_;rintro _ rfl;rw [zgx];refine ⟨_, rfl, rfl, _, rfl, _, rfl, tN made, tM (aM rows r), fun v7 hv7 => ?_, fun hv7 => ?_⟩
    ·have hv7 : bO (.agg (encP (aM rows r))) (dQ made) = some v7 := hv7;rw [zN] at hv7;cases hk : bM (aM rows r) made with
     | none => rw [hk] at hv7; cases hv7
     | some q =>
       rw [hk] at hv7; cases hv7;refine ⟨q, rfl, ?_⟩;rw [hwr1];exact ⟨rfl, ⟨rfl, rfl, rfl, i0, htri, hi, rfl, rfl, by omega, by omega, made, sec, rfl, rfl, (hm.known hmax hk).same fun x hx => hD x⟩, hmu⟩
    ·have hv7 : bO (.agg (encP (aM rows r))) (dQ made) = none := hv7;rw [zN] at hv7;have hk : bM (aM rows r) made = none := by cases h : bM (aM rows r) made with | none => rfl | some q => rw [h] at hv7; cases hv7
     refine (zpt _ _ hp htri (by omega)).mono ?_;rintro _ rfl;refine ⟨_, rfl, rfl, ?_⟩;rw [hwr1];refine aG (fun ho => ?_) (fun ho => ?_)
     ·simp only [qj] at ho;have hm' := (hm.put hmax hk ⟨hpne, ho⟩).same fun x hx => hD x;obtain ⟨e1, e2⟩ := zgv (.agg (encP (aM rows r))) (eS (.agg (encP (aM rows r))) (.int .i32 0) (dQ made)) (.int .i32 r) (dQ made);obtain ⟨e3, e4⟩ := zgv (.int .i32 (aM rows r).2) (eS (.int .i32 (aM rows r).2) (.bool false) (iQ sec)) (.bool true) (iQ sec);have e1 := e1.trans (jE (ek := fun p => PV.agg (encP p)) (ev := fun n => PV.int .i32 n) EP.valEq (aM rows r) r made);have e3 := e3.trans (jE (ek := fun n => PV.int .i32 n) (ev := fun b => PV.bool b) (pZ .i32) (aM rows r).2 true sec);have b1 : (0 : Int) <= (d8 (.agg (encP (aM rows r))) (dQ made) : Nat) /\ ((d8 (.agg (encP (aM rows r))) (dQ made) : Nat) : Int).toNat < (bA (.agg (encP (aM rows r))) (eS (.agg (encP (aM rows r))) (.int .i32 0) (dQ made)) (dQ made)).length := ⟨by omega, by rw [qat]; exact e2⟩;have b2 : (0 : Int) <= (d8 (.int .i32 (aM rows r).2) (iQ sec) : Nat) /\ ((d8 (.int .i32 (aM rows r).2) (iQ sec) : Nat) : Int).toNat < (bA (.int .i32 (aM rows r).2) (eS (.int .i32 (aM rows r).2) (.bool false) (iQ sec)) (iQ sec)).length := ⟨by omega, by rw [qat]; exact e4⟩;refine ⟨⟨tN made, tM _, b1, mA sec, b2, ?_⟩, tN made, tM _, ⟨b1, mA sec, b2, ?_⟩, b1, mA sec, b2, ?_⟩
      all_goals exact ⟨rfl, ⟨rfl, rfl, rfl, i0, htri, hi, rfl, rfl, by omega, by omega, bQ (aM rows r) r made, bQ (aM rows r).2 true sec, e1, e3, hm'⟩, hmu⟩
     ·simp only [qj, Bool.not_eq_false] at ho;exact ⟨rfl, ⟨rfl, rfl, rfl, i0, htri, hi, rfl, rfl, by omega, by omega, made, sec, rfl, rfl, (hm.out ho).same fun x hx => hD x⟩, hmu⟩
   ·simp only [aB] at hc2;rw [hw];refine ⟨rfl, ⟨rfl, rfl, by omega, by omega, htri, made, sec, rfl, rfl, ?_⟩, by dsimp only; omega⟩;rw [hn, hts];refine hm.same fun x hx => ?_;unfold mH;constructor
    ·rintro (⟨s, hs, h⟩ | h)
     ·exact ⟨s, List.mem_append_left _ hs, h⟩
     ·exact ⟨_, List.mem_append_right _ (List.mem_singleton.2 rfl), by unfold Sp.has; omega⟩
    ·rintro ⟨s, hs, h⟩;rcases List.mem_append.1 hs with hs | hs
     ·exact .inl ⟨s, hs, h⟩
     ·simp only [qaq] at hs; subst hs;unfold Sp.has at h; exact .inr (by omega)
  ·simp only [aB] at hc;rw [qc (by omega)] at hm;refine ⟨v, v1, v2, v3, v4, made, sec, rfl, htri, hm.same fun r hr => ?_⟩;constructor
   ·rintro ⟨s, hs, h⟩;have := hg.2 s hs;unfold Sp.has at h;omega
   ·intro _;exact zps hr.1
end Go.Eng
namespace Go.Eng.Rows
open Go Go.Eng Go.Eng.Trie
def bX (r : Int) : Bool := decide (44032 <= r) && decide (r <= 55203)
def fW (r : Int) : List Int :=
 if (r - 44032) % 28 = 0 then [4352 + (r - 44032) / 588, 4449 + (r - 44032) / 28 % 21]
 else [4352 + (r - 44032) / 588, 4449 + (r - 44032) / 28 % 21, 4519 + (r - 44032) % 28]
def zpw (r : Int) : Bool := (decide (4449 <= r) && decide (r <= 4469)) || (decide (4520 <= r) && decide (r <= 4546))
def aW (rows : List Row) : Nat -> Int -> List Int
 | 0, r => if bX r then fW r else [r]
 | d + 1, r => if bX r then fW r else if aM rows r = (0, 0) then [r] else aW rows d (aM rows r).1 ++ (if (aM rows r).2 = 0 then [] else aW rows d (aM rows r).2)
def zpx (rows : List Row) (r : Int) : Bool := rows.any fun x => decide (x.kind = 2) && (decide (x.b = r) && (!decide (r = 0) && !g9 rows x.fr))
def ofQ (rows : List Row) (r : Int) : Int := if g9 rows r then 1 else if zpx rows r || zpw r then 2 else 0
def zgz (rows : List Row) (r : Int) : Int := (aW rows 8 r).headD 0
def zO (rows : List Row) (r : Int) : Bool := (decide (aI rows 1 r = 0) && decide (ofQ rows r = 0)) && (decide (aI rows 1 (zgz rows r) = 0) && decide (ofQ rows (zgz rows r) = 0))
theorem lK {rows : List Row} {d : Nat} {r : Int} (h : bX r = true) : aW rows d r = fW r := by cases d <;> simp [aW, h]
theorem qF {rows : List Row} {d : Nat} {r : Int} (h : bX r = false) (h2 : aM rows r = (0, 0)) : aW rows d r = [r] := by cases d <;> simp [aW, h, h2]
theorem qG (r : Int) : (fW r).length <= 3 := by unfold fW; split <;> simp
theorem qH (rows : List Row) : ∀ (d : Nat) (r : Int), (aW rows d r).length <= 3 * 2 ^ d
 | 0, r => by
   unfold aW; split
   ·have := qG r; simp; omega
   ·simp
 | d + 1, r => by
   unfold aW;have h2 : 2 ^ (d + 1) = 2 * 2 ^ d := by rw [Nat.pow_succ]; omega
   have h3 : 1 <= 2 ^ d := qbz;split
   ·have := qG r; omega
   ·split
    ·simp; omega
    ·have e1 := qH rows d (aM rows r).1;rw [qb];split
     ·simp; omega
     ·have e2 := qH rows d (aM rows r).2; omega
theorem zg0 {r : Int} (h : bX r = true) : ∀ x ∈ fW r, 0 <= x /\ x <= 1114111 := by
 simp only [bX, qe, aB] at h;intro x hx;unfold fW at hx;split at hx <;> simp only [qal, qaw, or_false] at hx
 ·rcases hx with rfl | rfl <;> omega
 ·rcases hx with rfl | rfl | rfl <;> omega
theorem tO {rows : List Row} (hp : dP rows) : ∀ (d : Nat) (r : Int), ∀ x ∈ aW rows d r, x = r ∨ (0 <= x /\ x <= 1114111)
 | 0, r => fun x hx => by
   unfold aW at hx;split at hx
   ·rename_i h; exact .inr (zg0 h x hx)
   ·simp at hx; exact .inl hx
 | d + 1, r => fun x hx => by
   unfold aW at hx;have hg := zJ hp r;split at hx
   ·rename_i h; exact .inr (zg0 h x hx)
   ·split at hx
    ·simp at hx; exact .inl hx
    ·rcases List.mem_append.1 hx with hx | hx
     ·rcases tO hp d _ x hx with rfl | h
      ·exact .inr hg.1
      ·exact .inr h
     ·split at hx
      ·cases hx
      ·rcases tO hp d _ x hx with rfl | h
       ·exact .inr hg.2
       ·exact .inr h
def eI (rows : List Row) : Prop := ∀ x ∈ rows, x.kind = 2 -> x.fr = x.to /\ (0 <= x.fr /\ x.fr <= 1114111) /\ first rows 2 x.fr = some (x.a, x.b)
end Go.Eng.Rows
namespace Go.Eng
open Go Go.Proofs Go.Eng.Rows Go.Eng.Trie
theorem kJ (a b : List Int) : aA (a ++ b) = aA a ++ aA b := by simp [aA]
theorem fI (a : List Int) : aS (aA a) 1 := pY (enc := fun n => [PV.int .i32 n]) (fun _ => rfl) a
def R32 (l : List Int) : Prop := ∀ x ∈ l, -2147483648 <= x /\ x <= 2147483647
theorem zpy (x : Int) : ([PV.int .i32 x] : List PV).length = 1 := rfl
theorem nQ {l : List Int} {i : Int} (h0 : 0 <= i) (hi : i.toNat < l.length) : aR (aA l) i 1 /\ (aA l).getD i.toNat [] = [.int .i32 l[i.toNat]] :=
 ⟨cD zpy h0 (by omega), cC hi⟩
theorem zg1 (r : Int) : PCall qa 93 [.int .i32 r] fun v => v = .bool (bX r) := by
 refine zmt _ ?_; unfold zef;unfold bX;by_cases h1 : 44032 <= r <;> by_cases h2 : r <= 55203 <;> simp [h1, h2] <;> omega
theorem zpz {r : Int} (h : bX r = true) : (44032 <= r /\ r <= 55203) /\ i32.wrap (r - 44032) = r - 44032 /\ i32.wrap (4352 + i32.wrap ((r - 44032).tdiv 588)) = 4352 + (r - 44032) / 588 /\
 i32.wrap (4449 + (i32.wrap ((r - 44032).tdiv 28)).tmod 21) = 4449 + (r - 44032) / 28 % 21 /\ i32.wrap (4519 + (r - 44032).tmod 28) = 4519 + (r - 44032) % 28 := by
 simp only [bX, qe, aB] at h;have e1 : (r - 44032).tdiv 588 = (r - 44032) / 588 := qaj (by omega);have e2 : (r - 44032).tdiv 28 = (r - 44032) / 28 := qaj (by omega);have e3 : (r - 44032).tmod 28 = (r - 44032) % 28 := qak (by omega);have w1 : i32.wrap ((r - 44032) / 588) = (r - 44032) / 588 := dF (by omega) (by omega);have w2 : i32.wrap ((r - 44032) / 28) = (r - 44032) / 28 := dF (by omega) (by omega);have e4 : ((r - 44032) / 28).tmod 21 = (r - 44032) / 28 % 21 := qak (by omega);rw [e1, e2, e3, w1, w2, e4];exact ⟨h, dF (by omega) (by omega), dF (by omega) (by omega), dF (by omega) (by omega), dF (by omega) (by omega)⟩
theorem zg2 (r : Int) : PCall qa 79 [.int .i32 r] fun v => if bX r then v = .sl false true (aA (fW r)) else v = .sl true true [] := by
 refine zmu _ ?_; unfold zeg;refine (zg1 r).mono ?_;rintro _ rfl;refine ⟨_, rfl, ?_⟩;cases h : bX r with
 | false => exact bG rfl rfl
 | true =>
   obtain ⟨hr, a1, a2, a3, a4⟩ := zpz h;refine bI (by simp) ?_;rw [a1, a2, a3, a4];refine ⟨⟨rfl, by omega⟩, ⟨by omega, by omega⟩, _, rfl, ?_⟩;by_cases hc : (r - 44032) % 28 = 0
   ·refine bG (by simp; omega) ⟨⟨by unfold eQ; simp, rfl⟩, ?_⟩;simp [fW, hc, aA]
   ·refine bI (by simp; omega) ⟨⟨by unfold eQ; simp, rfl⟩, ?_⟩;simp [fW, hc, aA]
def zp0 (L : List Int) (r1 : LV) (h' : Hp) : Prop := (∃ nl, r1 = .own 0 /\ h' = [.sl (21, 1) true nl (aA L)]) ∨ (r1 = .pv (.sl false true (aA L)) /\ h' = [])
def FullR (L : List Int) (r1 : LV) (h' : Hp) : Prop := (∃ m nl, r1 = .own 0 /\ h' = [.sl (21, 1) m nl (aA L)]) ∨ (r1 = .pv (.sl false true (aA L)) /\ h' = [])
theorem FullR.mark {f : Nat} {args : List LV} {L : List Int} (h : ACall qa f args [] (FullR L)) : ACall qa f args [] (zp0 L) := by
 refine ACall.mark 0 [] h ?_;rintro r h' (⟨m, nl, rfl, rfl⟩ | ⟨rfl, rfl⟩)
 ·exact .inl ⟨nl, rfl, rfl⟩
 ·exact .inr ⟨rfl, rfl⟩
section
variable {rows : List Row}
end
section
variable {rows : List Row}
end
section
variable {rows : List Row} {tc tg tj tf tp : PV} (M S : List (PV × PV))
def zp1 (T : PV) (L : List Int) (r1 : LV) (h' : Hp) : Prop := ∃ nl, r1 = .tup [] /\ h' = [.box [.pv T, .own 1], .sl (21, 1) true nl (aA L)]
theorem zp2 (hp : dP rows) (ht : Tri rows tc tg tj tf tp) : ∀ (d : Nat) (r : Int) (nl : Bool) (pre : List Int), d <= 8 -> (-2147483648 <= r /\ r <= 2147483647) -> pre.length + 3 * 2 ^ d <= 1000000000 ->
 ACall qa 59 [.box 0 0, .pv (.int .i32 r), .pv (.int .i64 d)] [.box [.pv (.ptr [tc, tg, tj, tf, tp, .mp M, .mp S]), .own 1], .sl (21, 1) false nl (aA pre)] (zp1 (.ptr [tc, tg, tj, tf, tp, .mp M, .mp S]) (pre ++ aW rows d r)) := by
 intro d
 induction d with
 | zero =>
   intro r nl pre hd hr hb;refine zeh _ _ _ _ _ _ _ _ _ _ _ ?_; unfold xF;refine (zg2 r).mono ?_;intro v hv;by_cases hs : bX r = true
   ·rw [if_pos hs] at hv; subst hv;refine ⟨_, _, _, rfl, bG (by simp) ⟨⟨fI _, ?_⟩, _, rfl, by rw [lK hs, kJ]⟩⟩;have := qG r;simp only [cA]; omega
   ·rw [if_neg hs] at hv; subst hv;simp only [qbe] at hs;refine ⟨_, _, _, rfl, bI (by simp) ?_⟩;refine (zM M S ht hr).mono ?_;rintro _ rfl;refine ⟨_, rfl, rfl, _, rfl, _, rfl, _, rfl, _, rfl, _, rfl, _, rfl, bG (by simp) ⟨⟨fI [_], ?_⟩, nl && false, rfl, ?_⟩⟩
    ·simp only [cA]; omega
    ·have : aW rows 0 r = [r] := by simp [aW, hs]
     rw [this, kJ]; rfl
 | succ d ih =>
   intro r nl pre hd hr hb;have hg := zJ hp r;have hw : i64.wrap (((d + 1 : Nat) : Int) - 1) = (d : Int) := by rw [show (((d + 1 : Nat) : Int) - 1) = (d : Int) by omega]; exact aD (by omega) (by omega)
   have h2 : 2 ^ (d + 1) = 2 * 2 ^ d := by rw [Nat.pow_succ]; omega
   have h3 : 1 <= 2 ^ d := qbz;refine zeh _ _ _ _ _ _ _ _ _ _ _ ?_; unfold xF;rw [hw];refine (zg2 r).mono ?_;intro v hv;by_cases hs : bX r = true
   ·rw [if_pos hs] at hv; subst hv;refine ⟨_, _, _, rfl, bG (by simp) ⟨⟨fI _, ?_⟩, _, rfl, by rw [lK hs, kJ]⟩⟩;have := qG r;simp only [cA]; omega
   ·rw [if_neg hs] at hv; subst hv;simp only [qbe] at hs;refine ⟨_, _, _, rfl, bI (by simp) ?_⟩;refine (zM M S ht hr).mono ?_;rintro _ rfl;refine ⟨_, rfl, rfl, _, rfl, _, rfl, _, rfl, _, rfl, _, rfl, _, rfl, ?_⟩;by_cases h0 : aM rows r = (0, 0)
    ·refine bG (by simp [h0]) ⟨⟨fI [_], ?_⟩, nl && false, rfl, ?_⟩
     ·simp only [cA]; omega
     ·rw [qF hs h0, kJ]; rfl
    ·refine bI (by simp [h0]; omega) ?_;have ea := qH rows d (aM rows r).1
     have heq : aW rows (d + 1) r = aW rows d (aM rows r).1 ++ (if (aM rows r).2 = 0 then [] else aW rows d (aM rows r).2) := by
      rw [aW]; simp [hs, h0]
     rw [heq];refine (ih (aM rows r).1 nl pre (by omega) (by omega) (by omega)).mono ?_;rintro r1 h' ⟨nl1, rfl, rfl⟩;refine ⟨(nl1, _), ⟨rfl, rfl⟩, ⟨trivial, trivial, trivial⟩, aG (fun hb2 => ?_) (fun hb2 => ?_)⟩
     ·simp only [bne_iff_ne, ne_eq] at hb2;rw [if_neg hb2];refine (ih (aM rows r).2 nl1 (pre ++ aW rows d (aM rows r).1) (by omega) (by omega) (by rw [qb]; omega)).mono ?_;rintro r2 h2 ⟨nl2, rfl, rfl⟩;exact ⟨(nl2, _), ⟨rfl, rfl⟩, ⟨trivial, trivial, trivial⟩, nl2, rfl, by rw [<- qf]; rfl⟩
     ·simp only [bne_iff_ne, ne_eq, qy] at hb2;rw [if_pos hb2, qt];exact ⟨nl1, rfl, rfl⟩
end
end Go.Eng
namespace Go.Eng.Srt
open Go Go.Eng
section
variable {α : Type} (key : α -> Int)
def Srtd (l : List α) : Prop := l.Pairwise fun x y => key x <= key y
def Stab (l r : List α) : Prop := l.Perm r /\ ∀ c, l.filter (fun x => decide (key x = c)) = r.filter (fun x => decide (key x = c))
variable {key}
theorem Stab.refl (l : List α) : Stab key l l := ⟨List.Perm.refl _, fun _ => rfl⟩
theorem Stab.trans {a b c : List α} (h : Stab key a b) (k : Stab key b c) : Stab key a c := ⟨h.1.trans k.1, fun x => (h.2 x).trans (k.2 x)⟩
theorem Stab.symm {a b : List α} (h : Stab key a b) : Stab key b a := ⟨h.1.symm, fun x => (h.2 x).symm⟩
theorem Stab.app {a b c d : List α} (h : Stab key a b) (k : Stab key c d) : Stab key (a ++ c) (b ++ d) := ⟨h.1.append k.1, fun x => by rw [qah, qah, h.2, k.2]⟩
theorem Stab.len {a b : List α} (h : Stab key a b) : a.length = b.length := h.1.length_eq
theorem Stab.mem {a b : List α} (h : Stab key a b) {x : α} : x ∈ a ↔ x ∈ b := h.1.mem_iff
theorem Stab.rot {a b : List α} (h : ∀ x ∈ a, ∀ y ∈ b, key x ≠ key y) : Stab key (a ++ b) (b ++ a) := by
 refine ⟨List.perm_append_comm, fun c => ?_⟩;rw [qah, qah];by_cases hc : ∃ x ∈ a, key x = c
 ·obtain ⟨x, hx, hxc⟩ := hc
  have : b.filter (fun x => decide (key x = c)) = [] := List.filter_eq_nil_iff.2 fun y hy => by
   simp only [aB]; intro e; exact h x hx y hy (hxc.trans e.symm)
  rw [this]; simp
 ·have : a.filter (fun x => decide (key x = c)) = [] := List.filter_eq_nil_iff.2 fun y hy => by
   simp only [aB]; intro e; exact hc ⟨y, hy, e⟩
  rw [this]; simp
theorem Stab.rot1 {u v : List α} {a b : List α} (h : ∀ x ∈ a, ∀ y ∈ b, key x ≠ key y) : Stab key (u ++ (a ++ b) ++ v) (u ++ (b ++ a) ++ v) := ((Stab.refl u).app (.rot h)).app (.refl v)
theorem Stab.uniq : ∀ {l r : List α}, Srtd key l -> Srtd key r -> Stab key l r -> l = r
 | [], r, _, _, h => by have := h.len; cases r with | nil => rfl | cons => simp at this
 | x :: l, [], _, _, h => by have := h.len; simp at this
 | x :: l, y :: r, hl, hr, h => by
   have hk : key x = key y := by
    have h1 : key x <= key y := by
     rcases List.mem_cons.1 (h.mem.2 qp : y ∈ x :: l) with e | e
     ·rw [e]; exact qd _
     ·exact (List.pairwise_cons.1 hl).1 y e
    have h2 : key y <= key x := by
     rcases List.mem_cons.1 (h.mem.1 qp : x ∈ y :: r) with e | e
     ·rw [e]; exact qd _
     ·exact (List.pairwise_cons.1 hr).1 x e
    omega
   have hxy : x = y := by
    have := h.2 (key x);rw [qaf, qaf, if_pos (by simp), if_pos (by simp [hk])] at this;exact (List.cons.inj this).1
   subst hxy
   have ht : Stab key l r := ⟨(qcn x).1 h.1, fun c => by
    have := h.2 c;rw [qaf, qaf] at this;split at this
    ·exact (List.cons.inj this).2
    ·exact this⟩
   rw [Stab.uniq (List.pairwise_cons.1 hl).2 (List.pairwise_cons.1 hr).2 ht]
theorem iR {a b : List α} : Srtd key (a ++ b) ↔ Srtd key a /\ Srtd key b /\ ∀ x ∈ a, ∀ y ∈ b, key x <= key y := List.pairwise_append
end
section
variable {α : Type}
theorem nR (u v : List α) (x : α) : (u ++ x :: v)[u.length]? = some x := by simp
theorem tP (u v : List α) (x y : α) : (u ++ x :: v).set u.length y = u ++ y :: v := by simp
theorem zp3 (u v w : List α) (x y : α) : ((u ++ x :: (v ++ y :: w)).set u.length y).set (u.length + 1 + v.length) x = u ++ y :: (v ++ x :: w) := by
 rw [tP];have e : u ++ y :: (v ++ y :: w) = (u ++ y :: v) ++ y :: w := by simp
 have e2 : u.length + 1 + v.length = (u ++ y :: v).length := by simp; omega
 rw [e, e2, tP];simp
theorem zg3 (u w : List α) (x y : α) : ((u ++ x :: y :: w).set (u.length + 1) x).set u.length y = u ++ y :: x :: w := by
 have e : u ++ x :: y :: w = (u ++ [x]) ++ y :: w := by simp
 have e2 : u.length + 1 = (u ++ [x]).length := by simp
 rw [e, e2, tP];have e3 : (u ++ [x]) ++ x :: w = u ++ x :: (x :: w) := by simp
 rw [e3, tP]
theorem zp4 (u w : List α) (x y : α) : ((u ++ x :: y :: w).set u.length y).set (u.length + 1) x = u ++ y :: x :: w := by
 simp
end
end Go.Eng.Srt
namespace Go.Eng
open Go Go.Proofs Go.Eng.Rows Go.Eng.Srt
def jH (T : PV) (key : Int -> Int) : Prop := ∀ a b : Int, (-2147483648 <= a /\ a <= 2147483647) -> (-2147483648 <= b /\ b <= 2147483647) -> PCall qa 82 [.int .i32 a, .int .i32 b, .ptr [T]] fun v => ∃ n : Int, v = .int .i64 n /\ (n < 0 ↔ key a < key b)
theorem cT {D : List Int} {k : Nat} {v : Int} (h : D[k]? = some v) : (aA D).getD k [] = [.int .i32 v] := by
 simp [aA, qac, h]
theorem zg4 (D : List Int) (k : Nat) (v : Int) : (aA D).set k [.int .i32 v] = aA (D.set k v) := by simp [aA, List.map_set]
theorem lL {D : List Int} (h : R32 D) {k : Nat} {v : Int} (hv : D[k]? = some v) : -2147483648 <= v /\ v <= 2147483647 := h v (qbu hv)
theorem tQ (D : List Int) {i j : Nat} {x y : Int} (hi : D[i]? = some x) (hj : D[j]? = some y) (hij : i ≠ j) (p q : Int) :
 ((aA D).set i (.int .i32 p :: zq (qh 1 ((aA D).getD i [])))).set j (.int .i32 q :: zq (qh 1 (((aA D).set i (.int .i32 p :: zq (qh 1 ((aA D).getD i [])))).getD j []))) = aA ((D.set i p).set j q) /\
 ((aA D).getD i []).length = 1 /\ ((aA D).getD j []).length = 1 /\ (((aA D).set i (.int .i32 p :: zq (qh 1 ((aA D).getD i [])))).getD j []).length = 1 := by
 rw [cT hi, cT hj];have e1 : (aA D).set i (.int .i32 p :: zq (qh 1 [PV.int .i32 x])) = aA (D.set i p) := zg4 D i p;have hj2 : (D.set i p)[j]? = some y := by rw [List.getElem?_set_ne hij]; exact hj
 rw [e1, cT hj2];exact ⟨zg4 _ _ _, rfl, rfl, rfl⟩
def zp5 (key : Int -> Int) (nl : Bool) (T : PV) (P S R : List Int) (r : LV) (h' : Hp) : Prop := ∃ S' : List Int, r = .tup [] /\ h' = [.sl (21, 1) false nl (aA (P ++ S' ++ R)), .box [.pv T]] /\ Srtd key S' /\ Stab key S S'
section
variable {key : Int -> Int} {T : PV}
theorem zg5 (hc : jH T key) (lo hi : Nat) (nl : Bool) (P S R : List Int) (a b : Int) (ha : 0 <= a) (hP : P.length = lo + a.toNat) (hb : b = a + S.length) (hhi : (lo : Int) + b <= hi) (hr : R32 (P ++ S ++ R)) (hlen : hi < 1000000000000) :
 ACall qa 101 [.sub 0 lo hi, .pv (.int .i64 a), .pv (.int .i64 b), .fn 82 [.box 1 0]] [.sl (21, 1) false nl (aA (P ++ S ++ R)), .box [.pv T]] (zp5 key nl T P S R) := by
 refine zmo _ _ _ _ _ _ _
  (fun i s => ∃ A B, s = aA (P ++ (A ++ B) ++ R) /\ Srtd key A /\ Stab key S (A ++ B) /\ (i <= b -> (A.length : Int) = i - a) /\ a < i /\ (b < i -> S = [])) (fun i _ => (b + 1 - i).toNat)
  (fun i _ _ i' j s => i = i' /\ ∃ A x B C, s = aA (P ++ (A ++ x :: (B ++ C)) ++ R) /\ (A.length : Int) = j - a /\ (B.length : Int) = i - j /\ Srtd key (A ++ B) /\ (∀ y ∈ B, key x < key y) /\ Stab key S (A ++ x :: (B ++ C)) /\ a <= j) (fun _ j _ => (j - a).toNat) ?_
 unfold zea;have hwa : i64.wrap (a + 1) = a + 1 := aD (by omega) (by omega);rw [hwa];refine ⟨⟨rfl, S.take 1, S.drop 1, by rw [qk], ?_, by rw [qk]; exact .refl _, fun h => ?_, by omega, fun h => ?_⟩, ?_⟩
 ·cases S with
  | nil => exact List.Pairwise.nil
  | cons x l => exact qbq _ _
 ·cases S with
  | nil => simp at hb; omega
  | cons x l => simp; omega
 ·cases S with
  | nil => rfl
  | cons x l => simp at hb; omega
 rintro i _ ⟨A, B, rfl, hA, hst, hAB, hi0, hi1⟩;refine aG (fun hc1 => ?_) (fun hc1 => ?_)
 ·simp only [aB] at hc1;have hlAB := hst.len;rw [qb] at hlAB;have hiw : i64.wrap (i + 1) = i + 1 := aD (by omega) (by omega);cases B with
  | nil =>
    have := hAB (by omega);simp at hlAB; omega
  | cons x C =>
    have hAl := hAB (by omega);refine ⟨⟨rfl, rfl, A, x, [], C, rfl, hAl, by simp, by simpa using hA, fun y hy => (by cases hy), hst, by omega⟩, ?_⟩
    clear hst hlAB hA hAl hAB;rintro _ j _ ⟨rfl, A, x, B, C, rfl, hAl, hBl, hAB, hxB, hst, hja⟩
    have hR : R32 (P ++ (A ++ x :: (B ++ C)) ++ R) := fun y hy => hr y (by
     simp only [qae] at hy ⊢;rcases hy with (hy | hy) | hy
     ·exact .inl (.inl hy)
     ·exact .inl (.inr (hst.mem.2 (by simpa using hy)))
     ·exact .inr hy)
    have hlen2 := hst.len;simp only [qb, ql] at hlen2
    have fin : (∀ y ∈ A, key y <= key x) -> ∃ A' B', aA (P ++ (A ++ x :: (B ++ C)) ++ R) = aA (P ++ (A' ++ B') ++ R) /\ Srtd key A' /\ Stab key S (A' ++ B') /\ (i + 1 <= b -> (A'.length : Int) = i + 1 - a) /\ a < i + 1 /\ (b < i + 1 -> S = []) := fun hAx => by
     refine ⟨A ++ x :: B, C, by simp, ?_, by simpa using hst, fun _ => by simp; omega, by omega, fun h => by omega⟩
     obtain ⟨s1, s2, s3⟩ := iR.1 hAB;refine iR.2 ⟨s1, List.pairwise_cons.2 ⟨fun y hy => qav (hxB y hy), s2⟩, fun y hy z hz => ?_⟩;rcases List.mem_cons.1 hz with rfl | hz
     ·exact hAx y hy
     ·exact s3 y hy z hz
    have hmu1 : (b + 1 - (i + 1)).toNat < (b + 1 - i).toNat := by omega
    refine aG (fun hc2 => ?_) (fun hc2 => ?_)
    ·simp only [aB, gt_iff_lt] at hc2;have hwj : i64.wrap (j - 1) = j - 1 := aD (by omega) (by omega);rw [hwj]
     obtain ⟨A0, y, rfl⟩ : ∃ A0 y, A = A0 ++ [y] := by
      rcases List.eq_nil_or_concat A with h | ⟨A0, y, h⟩
      ·subst h; simp at hAl; omega
      ·exact ⟨A0, y, by simpa using h⟩
     simp only [qb, ql, qr] at hAl;have hD : P ++ (A0 ++ [y] ++ x :: (B ++ C)) ++ R = (P ++ A0) ++ y :: x :: (B ++ C ++ R) := by simp
     have hk : lo + (j - 1).toNat = (P ++ A0).length := by simp; omega
     have hk1 : lo + j.toNat = (P ++ A0).length + 1 := by simp; omega
     have gy : (P ++ (A0 ++ [y] ++ x :: (B ++ C)) ++ R)[lo + (j - 1).toNat]? = some y := by rw [hD, hk]; simp
     have gx : (P ++ (A0 ++ [y] ++ x :: (B ++ C)) ++ R)[lo + j.toNat]? = some x := by
      rw [hD, hk1, qn (by omega)]; simp
     obtain ⟨t1, t2, t3, t4⟩ := tQ _ gx gy (by omega) y x
     have hsw : ((P ++ (A0 ++ [y] ++ x :: (B ++ C)) ++ R).set (lo + j.toNat) y).set (lo + (j - 1).toNat) x = P ++ (A0 ++ x :: ((y :: B) ++ C)) ++ R := by
      rw [hD, hk, hk1, zg3]; simp
     rw [hsw] at t1;refine ⟨⟨by omega, by omega, t2⟩, x, by rw [cT gx]; rfl, ⟨by omega, by omega, t3⟩, y, by rw [cT gy]; rfl, ?_⟩;refine (hc x y (lL hR gx) (lL hR gy)).mono ?_;rintro _ ⟨n2, rfl, hn2⟩;refine ⟨n2, rfl, rfl, aG (fun hlt => ?_) (fun hlt => ?_)⟩
     ·simp only [aB] at hlt;have hkey := hn2.1 hlt;refine ⟨⟨by omega, by omega, t3⟩, y, by rw [cT gy]; rfl, ⟨by omega, by omega, t2⟩, x, by rw [cT gx]; rfl, ⟨by omega, by omega, t2⟩, ?_⟩;have hsrt : Srtd key (A0 ++ y :: B) := by simpa using hAB
      have hst2 : Stab key S (A0 ++ x :: ((y :: B) ++ C)) := by
       refine hst.trans ?_;have := Stab.rot1 (key := key) (u := A0) (v := B ++ C) (a := [y]) (b := [x]) (fun p hp q hq => by simp at hp hq; subst hp; subst hq; omega);simpa using this
      have hle1 : 1 <= ((aA (P ++ (A0 ++ [y] ++ x :: (B ++ C)) ++ R)).getD (lo + j.toNat) []).length := by rw [t2]; exact qu _
      refine ⟨?_, ?_⟩
      all_goals
       refine ⟨⟨rfl, hle1⟩, ⟨by omega, by omega, t4⟩, ⟨rfl, by rw [t4]; exact qu _⟩, ?_⟩;exact ⟨rfl, ⟨rfl, A0, x, y :: B, C, t1, by omega, by rw [ql]; omega, hsrt, fun z hz => (by rcases List.mem_cons.1 hz with rfl | hz; exact hkey; exact hxB z hz), hst2, by omega⟩, by dsimp only; omega⟩
     ·simp only [aB] at hlt;have hkey : ¬ key x < key y := fun h => hlt (hn2.2 h);rw [hiw];refine ⟨rfl, fin fun z hz => ?_, hmu1⟩;rcases List.mem_append.1 hz with hz | hz
      ·have := (iR.1 (iR.1 hAB).1).2.2 z hz y (by simp);omega
      ·simp only [qaq] at hz; subst hz; omega
    ·simp only [aB, gt_iff_lt] at hc2;have hA0 : A = [] := List.length_eq_zero_iff.1 (by omega);subst hA0;rw [hiw];exact ⟨rfl, fin fun z hz => (by cases hz), hmu1⟩
 ·simp only [aB] at hc1
  have hB : B = [] := by
   by_cases hib : i <= b
   ·have h1 := hAB hib;have h2 := hst.len;rw [qb] at h2;exact List.length_eq_zero_iff.1 (by omega)
   ·have h0 := hi1 (by omega);subst h0;have h2 := hst.len;rw [qb] at h2;exact List.length_eq_zero_iff.1 (by simp at h2; omega)
  subst hB;exact ⟨A, rfl, by simp, hA, by simpa using hst⟩
end
section
variable {T : PV}
theorem zP (lo hi : Nat) (nl : Bool) (P X Q Y R : List Int) (a b n : Int) (ha : 0 <= a) (hP : P.length = lo + a.toNat) (hX : (X.length : Int) = n) (hY : (Y.length : Int) = n) (hQ : b = a + n + Q.length) (hhi : (lo : Int) + b + n <= hi) (hlen : hi < 1000000000000) :
 ACall qa 105 [.sub 0 lo hi, .pv (.int .i64 a), .pv (.int .i64 b), .pv (.int .i64 n), .fn 82 [.box 1 0]] [.sl (21, 1) false nl (aA (P ++ (X ++ (Q ++ (Y ++ R))))), .box [.pv T]]
  fun r h' => r = .tup [] /\ h' = [.sl (21, 1) false nl (aA (P ++ (Y ++ (Q ++ (X ++ R))))), .box [.pv T]] := by
 refine zmp _ _ _ _ _ _ _ _
  (fun i s => 0 <= i /\ i <= n /\ s = aA (P ++ (Y.take i.toNat ++ (X.drop i.toNat ++ (Q ++ (X.take i.toNat ++ (Y.drop i.toNat ++ R))))))) (fun i _ => (n - i).toNat) ?_
 unfold zeb;refine ⟨⟨rfl, qd _, by omega, by simp⟩, ?_⟩;rintro i _ ⟨i0, i1, rfl⟩;refine aG (fun hc => ?_) (fun hc => ?_)
 ·simp only [aB] at hc;have hix : i.toNat < X.length := by omega
  have hiy : i.toNat < Y.length := by omega
  have wb : i64.wrap (b + i) = b + i := aD (by omega) (by omega);have wa : i64.wrap (a + i) = a + i := aD (by omega) (by omega);have wi : i64.wrap (i + 1) = i + 1 := aD (by omega) (by omega);have hn : (i + 1).toNat = i.toNat + 1 := by omega
  rw [wb, wa, wi];have lt : (Y.take i.toNat).length = i.toNat := by rw [qi]; omega
  have ltx : (X.take i.toNat).length = i.toNat := by rw [qi]; omega
  have dx : X.drop i.toNat = X[i.toNat] :: X.drop (i.toNat + 1) := qad hix;have dy : Y.drop i.toNat = Y[i.toNat] :: Y.drop (i.toNat + 1) := qad hiy;have tx : X.take (i.toNat + 1) = X.take i.toNat ++ [X[i.toNat]] := dH hix;have ty : Y.take (i.toNat + 1) = Y.take i.toNat ++ [Y[i.toNat]] := dH hiy;have ldx : (X.drop (i.toNat + 1)).length = X.length - (i.toNat + 1) := qag;obtain ⟨D, hDe⟩ : ∃ D, D = P ++ (Y.take i.toNat ++ (X.drop i.toNat ++ (Q ++ (X.take i.toNat ++ (Y.drop i.toNat ++ R))))) := ⟨_, rfl⟩;rw [<- hDe];have hD : D = (P ++ Y.take i.toNat) ++ X[i.toNat] :: ((X.drop (i.toNat + 1) ++ Q ++ X.take i.toNat) ++ Y[i.toNat] :: (Y.drop (i.toNat + 1) ++ R)) := by rw [hDe, dx, dy]; simp only [qf, qm, qv]
  have hka : lo + (a + i).toNat = (P ++ Y.take i.toNat).length := by rw [qb, lt]; omega
  have hkb : lo + (b + i).toNat = (P ++ Y.take i.toNat).length + 1 + (X.drop (i.toNat + 1) ++ Q ++ X.take i.toNat).length := by simp only [qb, lt, ltx, ldx]; omega
  have hsw : (D.set (lo + (a + i).toNat) Y[i.toNat]).set (lo + (b + i).toNat) X[i.toNat] = P ++ (Y.take (i + 1).toNat ++ (X.drop (i + 1).toNat ++ (Q ++ (X.take (i + 1).toNat ++ (Y.drop (i + 1).toNat ++ R))))) := by
   rw [hD, hka, hkb, zp3, hn, tx, ty]; simp only [qf, qm, qv]
  have gx : D[lo + (a + i).toNat]? = some X[i.toNat] := by rw [hD, hka, nR]
  have gy : D[lo + (b + i).toNat]? = some Y[i.toNat] := by
   have e : ∀ (u v w : List Int) (x y : Int), u ++ x :: (v ++ y :: w) = (u ++ x :: v) ++ y :: w := fun u v w x y => by simp
   have e2 : ∀ (u v : List Int) (x : Int), u.length + 1 + v.length = (u ++ x :: v).length := fun u v x => by simp; omega
   rw [hD, hkb, e, e2 _ _ X[i.toNat], nR]
  obtain ⟨t1, t2, t3, t4⟩ := tQ _ gx gy (by omega) Y[i.toNat] X[i.toNat];rw [hsw] at t1;have hla : 1 <= ((aA D).getD (lo + (a + i).toNat) []).length := by rw [t2]; exact qu _
  refine ⟨⟨by omega, by omega, t3⟩, Y[i.toNat], by rw [cT gy]; rfl, ⟨by omega, by omega, t2⟩, X[i.toNat], by rw [cT gx]; rfl, ⟨by omega, by omega, t2⟩, ?_⟩;refine ⟨?_, ?_⟩
  all_goals exact ⟨⟨rfl, hla⟩, ⟨by omega, by omega, t4⟩, ⟨rfl, by rw [t4]; exact qu _⟩, rfl, ⟨by omega, by omega, t1⟩, by dsimp only; omega⟩
 ·simp only [aB] at hc;have hi : i = n := by omega
  subst hi;rw [qc (by omega), qc (by omega), qas (by omega), qas (by omega)];exact ⟨rfl, by simp⟩
theorem zp6 (lo hi : Nat) (nl : Bool) (P X Y R : List Int) (a m b : Int) (ha : 0 <= a) (hP : P.length = lo + a.toNat) (hX : m = a + X.length) (hY : b = m + Y.length) (hx : X ≠ []) (hy : Y ≠ []) (hhi : (lo : Int) + b <= hi) (hlen : hi < 1000000000000) :
 ACall qa 104 [.sub 0 lo hi, .pv (.int .i64 a), .pv (.int .i64 m), .pv (.int .i64 b), .fn 82 [.box 1 0]] [.sl (21, 1) false nl (aA (P ++ (X ++ (Y ++ R)))), .box [.pv T]]
  fun r h' => r = .tup [] /\ h' = [.sl (21, 1) false nl (aA (P ++ (Y ++ (X ++ R)))), .box [.pv T]] := by
 have hxl := List.length_pos_iff.2 hx;have hyl := List.length_pos_iff.2 hy
 refine zmq _ _ _ _ _ _ _ _
  (fun i j s => 0 < i /\ 0 < j /\ i + j <= b - a /\ ∃ P1 U V R1 : List Int, s = aA (P1 ++ (U ++ (V ++ R1))) /\ P1 ++ (V ++ (U ++ R1)) = P ++ (Y ++ (X ++ R)) /\ (U.length : Int) = i /\ (V.length : Int) = j /\ ((P1.length : Int) + i = lo + m) /\ (lo : Int) + a <= P1.length /\ m + j <= b) (fun i j _ => (i + j).toNat) ?_
 unfold zec;have w1 : i64.wrap (m - a) = X.length := by rw [aD (by omega) (by omega)]; omega
 have w2 : i64.wrap (b - m) = Y.length := by rw [aD (by omega) (by omega)]; omega
 rw [w1, w2];refine ⟨⟨rfl, by omega, by omega, by omega, P, X, Y, R, rfl, rfl, rfl, rfl, by omega, by omega, by omega⟩, ?_⟩;rintro i j _ ⟨i0, j0, hij, P1, U, V, R1, rfl, he, hU, hV, hP1, hPa, hmj⟩;have wmi : i64.wrap (m - i) = m - i := aD (by omega) (by omega);rw [wmi];have lens : ∀ (s t : List Int), s.length = t.length -> (aA s).length = (aA t).length := fun s t h => by simp [h]
 refine aG (fun hne => ?_) (fun hne => ?_)
 ·simp only [bne_iff_ne, ne_eq] at hne;refine aG (fun hgt => ?_) (fun hgt => ?_)
  ·simp only [aB, gt_iff_lt] at hgt;have w3 : i64.wrap (i - j) = i - j := aD (by omega) (by omega);rw [w3];obtain ⟨U1, U2, rfl, hU1⟩ : ∃ U1 U2, U = U1 ++ U2 /\ (U1.length : Int) = j := ⟨U.take j.toNat, U.drop j.toNat, by rw [qk], by rw [qi]; omega⟩;rw [qb] at hU;have := zP (T := T) lo hi nl P1 U1 U2 V R1 (m - i) m j (by omega) (by omega) hU1 hV (by omega) (by omega) hlen;rw [show P1 ++ (U1 ++ U2 ++ (V ++ R1)) = P1 ++ (U1 ++ (U2 ++ (V ++ R1))) by simp];refine this.mono ?_;rintro r h' ⟨rfl, rfl⟩;refine ⟨_, ⟨rfl, rfl⟩, ⟨trivial, ⟨rfl, rfl, lens _ _ (by simp only [qb]; omega)⟩, trivial⟩, rfl, ⟨by omega, by omega, by omega, P1 ++ V, U2, U1, R1, by simp, by rw [<- he]; simp, by omega, hU1, by rw [qb]; omega, by rw [qb]; omega, by omega⟩, by dsimp only; omega⟩
  ·simp only [aB, gt_iff_lt] at hgt;have w3 : i64.wrap (j - i) = j - i := aD (by omega) (by omega);have w4 : i64.wrap (m + j) = m + j := aD (by omega) (by omega);have w5 : i64.wrap (m + j - i) = m + j - i := aD (by omega) (by omega);rw [w4, w5, w3];obtain ⟨V1, V2, rfl, hV1⟩ : ∃ V1 V2, V = V1 ++ V2 /\ (V1.length : Int) = j - i := ⟨V.take (j - i).toNat, V.drop (j - i).toNat, by rw [qk], by rw [qi]; omega⟩;rw [qb] at hV;have := zP (T := T) lo hi nl P1 U V1 V2 R1 (m - i) (m + j - i) i (by omega) (by omega) hU (by omega) (by omega) (by omega) hlen;rw [show P1 ++ (U ++ (V1 ++ V2 ++ R1)) = P1 ++ (U ++ (V1 ++ (V2 ++ R1))) by simp];refine this.mono ?_;rintro r h' ⟨rfl, rfl⟩;refine ⟨_, ⟨rfl, rfl⟩, ⟨trivial, ⟨rfl, rfl, lens _ _ (by simp only [qb]; omega)⟩, trivial⟩, rfl, ⟨by omega, by omega, by omega, P1, V2, V1, U ++ R1, by simp, by rw [<- he]; simp, by omega, hV1, by omega, by omega, by omega⟩, by dsimp only; omega⟩
 ·simp only [bne_iff_ne, ne_eq, qy] at hne;have := zP (T := T) lo hi nl P1 U [] V R1 (m - i) m i (by omega) (by omega) hU (by omega) (by simp) (by omega) hlen;refine ACall.mono (by simpa using this) ?_
  rintro r h' ⟨rfl, rfl⟩;refine ⟨_, ⟨rfl, rfl⟩, ⟨trivial, ⟨rfl, rfl, lens _ _ (by simp only [qb]; omega)⟩, trivial⟩, rfl, ?_⟩;rw [<- he]
end
end Go.Eng
namespace Go.Eng.Srt
open Go Go.Eng
variable {key : Int -> Int}
theorem Srtd.get {l : List Int} (h : Srtd key l) {i j : Nat} (hij : i <= j) (hj : j < l.length) : key (l.getD i 0) <= key (l.getD j 0) := by
 have hi : i < l.length := by omega
 simp only [qac, qao hi, qao hj, qci];rcases qaz i j with h1 | h1
 ·exact (List.pairwise_iff_getElem.1 h) i j hi hj h1
 ·have : i = j := by omega
  subst this; exact qd _
theorem lN {l : List Int} {x : Int} (h : x ∈ l) : ∃ i, i < l.length /\ l.getD i 0 = x := by
 obtain ⟨i, hi, rfl⟩ := qbj h;exact ⟨i, hi, by simp [qac, hi]⟩
theorem qI {l : List Int} {i : Nat} (h : i < l.length) : l[i]? = some (l.getD i 0) := by simp [qac, h]
theorem Srtd.sub {l m : List Int} (h : Srtd key l) (hs : m.Sublist l) : Srtd key m := List.Pairwise.sublist hs h
theorem zg6 {x : Int} {A B : List Int} (hs : Srtd key (A ++ B)) (h1 : ∀ y ∈ A, key y <= key x) (h2 : ∀ y ∈ B, key x <= key y) : Srtd key (A ++ x :: B) := by
 obtain ⟨s1, s2, s3⟩ := iR.1 hs;refine iR.2 ⟨s1, List.pairwise_cons.2 ⟨h2, s2⟩, fun y hy z hz => ?_⟩;rcases List.mem_cons.1 hz with rfl | hz
 ·exact h1 y hy
 ·exact s3 y hy z hz
theorem zp7 {X1 X2 Y1 Y2 S1 S2 : List Int} (hX : Srtd key (X1 ++ X2)) (hY : Srtd key (Y1 ++ Y2)) (f1 : ∀ x ∈ X2, ∀ y ∈ Y1, key y < key x) (f2 : ∀ x ∈ X1, ∀ y ∈ Y2, key x <= key y)
 (h1 : Srtd key S1) (k1 : Stab key (X1 ++ Y1) S1) (h2 : Srtd key S2) (k2 : Stab key (X2 ++ Y2) S2) : Srtd key (S1 ++ S2) /\ Stab key ((X1 ++ X2) ++ (Y1 ++ Y2)) (S1 ++ S2) := by
 obtain ⟨_, _, x3⟩ := iR.1 hX;obtain ⟨_, _, y3⟩ := iR.1 hY;refine ⟨iR.2 ⟨h1, h2, fun x hx y hy => ?_⟩, ?_⟩
 ·rcases List.mem_append.1 (k1.mem.2 hx) with hx | hx <;> rcases List.mem_append.1 (k2.mem.2 hy) with hy | hy
  ·exact x3 x hx y hy
  ·exact f2 x hx y hy
  ·exact qav (f1 y hy x hx)
  ·exact y3 x hx y hy
 ·refine Stab.trans ?_ (k1.app k2);have := Stab.rot1 (key := key) (u := X1) (v := Y2) (a := X2) (b := Y1) (fun x hx y hy => by have := f1 x hx y hy; omega);simpa using this
end Go.Eng.Srt
namespace Go.Eng
open Go Go.Proofs Go.Eng.Rows Go.Eng.Srt
def jI (key : Int -> Int) (nl : Bool) (T : PV) (P S R : List Int) (r : LV) (h' : Hp) : Prop := ∃ S' : List Int, r = .tup [] /\ h' = [.sl (21, 1) false nl (aA (P ++ (S' ++ R))), .box [.pv T]] /\ Srtd key S' /\ Stab key S S'
section
variable {key : Int -> Int} {T : PV}
theorem qJ {i j : Int} (h0 : 0 <= i) (h1 : i <= j) (h2 : j <= 1000000000000) : i64.wrap ((IntKind.u64.wrap (i64.wrap (i + j))).fdiv (2 ^ 1)) = (i + j) / 2 := zfj h0 h1 (by omega)
theorem zp8 (hc : jH T key) (lo hi : Nat) (nl : Bool) (P Y R : List Int) (x : Int) (a m b : Int) (ha : 0 <= a) (hP : P.length = lo + a.toNat) (hm : m = a + 1) (hb : b = m + Y.length) (hhi : (lo : Int) + b <= hi) (hr : R32 (P ++ ([x] ++ (Y ++ R)))) (hlen : hi < 1000000000000) (hY : Srtd key Y) :
 ACall qa 102 [.sub 0 lo hi, .pv (.int .i64 a), .pv (.int .i64 m), .pv (.int .i64 b), .fn 82 [.box 1 0]] [.sl (21, 1) false nl (aA (P ++ ([x] ++ (Y ++ R)))), .box [.pv T]] (jI key nl T P ([x] ++ Y) R) := by
 have hat : ∀ h : Int, m <= h -> h < b -> (P ++ ([x] ++ (Y ++ R)))[lo + h.toNat]? = some (Y.getD (h - m).toNat 0) := fun h h1 h2 => by
  have e : P ++ ([x] ++ (Y ++ R)) = (P ++ [x]) ++ (Y ++ R) := by simp
  rw [e, qn (by simp; omega), show lo + h.toNat - (P ++ [x]).length = (h - m).toNat by simp; omega, qan (by omega)];exact qI (by omega)
 have hax : (P ++ ([x] ++ (Y ++ R)))[lo + a.toNat]? = some x := by rw [<- hP]; exact nR P (Y ++ R) x
 refine xB _ _ _ _ _ _ _ _
  (fun i j s => s = aA (P ++ ([x] ++ (Y ++ R))) /\ m <= i /\ i <= j /\ j <= b /\ (∀ h, m <= h -> h < i -> key (Y.getD (h - m).toNat 0) < key x) /\ (∀ h, j <= h -> h < b -> ¬ key (Y.getD (h - m).toNat 0) < key x)) (fun i j _ => (j - i).toNat)
  (fun i k s => m <= i /\ i <= b /\ (∀ h, m <= h -> h < i -> key (Y.getD (h - m).toNat 0) < key x) /\ (∀ h, i <= h -> h < b -> ¬ key (Y.getD (h - m).toNat 0) < key x) /\ a <= k /\ k <= i - 1 /\ s = aA (P ++ (Y.take (k - a).toNat ++ (x :: (Y.drop (k - a).toNat ++ R))))) (fun i k _ => (i - 1 - k).toNat)
  (fun _ _ _ => True) (fun _ _ _ => 0) (fun _ _ _ => True) (fun _ _ _ => 0) (fun _ _ _ => True) (fun _ _ _ => 0) ?_
 unfold sZ;have w1 : i64.wrap (m - a) = 1 := by rw [aD (by omega) (by omega)]; omega
 refine bG (by rw [w1]; rfl) ⟨⟨rfl, rfl, qd _, by omega, qd _, fun h h1 h2 => by omega, fun h h1 h2 => by omega⟩, ?_⟩;rintro i j _ ⟨rfl, i0, hij, hjb, hlt, hge⟩;refine aG (fun hc1 => ?_) (fun hc1 => ?_)
 ·simp only [aB] at hc1;rw [qJ (by omega) (by omega) (by omega)];obtain ⟨h, hh⟩ : ∃ h, h = (i + j) / 2 := ⟨_, rfl⟩;rw [<- hh];have b1 : i <= h /\ h < j := by omega
  have gy := hat h (by omega) (by omega);have wh : i64.wrap (h + 1) = h + 1 := aD (by omega) (by omega);rw [wh];refine ⟨⟨by omega, by omega, by rw [cT gy]; rfl⟩, _, by rw [cT gy]; rfl, ⟨by omega, by omega, by rw [cT hax]; rfl⟩, x, by rw [cT hax]; rfl, ?_⟩;refine (hc _ x (lL hr gy) (lL hr hax)).mono ?_;rintro _ ⟨n2, rfl, hn2⟩;refine ⟨n2, rfl, rfl, aG (fun hl => ?_) (fun hl => ?_)⟩
  ·simp only [aB] at hl;have hk := hn2.1 hl;refine ⟨rfl, ⟨rfl, by omega, by omega, by omega, fun q q1 q2 => ?_, hge⟩, by dsimp only; omega⟩;have := hY.get (i := (q - m).toNat) (j := (h - m).toNat) (by omega) (by omega);omega
  ·simp only [aB] at hl;have hk : ¬ key (Y.getD (h - m).toNat 0) < key x := fun h => hl (hn2.2 h);refine ⟨rfl, ⟨rfl, by omega, by omega, by omega, hlt, fun q q1 q2 => ?_⟩, by dsimp only; omega⟩;have := hY.get (i := (h - m).toNat) (j := (q - m).toNat) (by omega) (by omega);omega
 ·simp only [aB] at hc1;have : i = j := by omega
  subst this;refine ⟨⟨rfl, i0, hjb, hlt, hge, qd _, by omega, by simp⟩, ?_⟩;clear hc1 hij hjb hlt hge i0;rintro i k _ ⟨i0, ib, hlt, hge, k0, k1, rfl⟩;have wi : i64.wrap (i - 1) = i - 1 := aD (by omega) (by omega);rw [wi];refine aG (fun hc2 => ?_) (fun hc2 => ?_)
  ·simp only [aB] at hc2;have wk : i64.wrap (k + 1) = k + 1 := aD (by omega) (by omega);rw [wk];have hlk : (k - a).toNat < Y.length := by omega
   have hn : (k + 1 - a).toNat = (k - a).toNat + 1 := by omega
   have dy : Y.drop (k - a).toNat = Y[(k - a).toNat] :: Y.drop ((k - a).toNat + 1) := qad hlk;have ty : Y.take ((k - a).toNat + 1) = Y.take (k - a).toNat ++ [Y[(k - a).toNat]] := dH hlk;have lt : (Y.take (k - a).toNat).length = (k - a).toNat := by rw [qi]; omega
   obtain ⟨D, hDe⟩ : ∃ D, D = P ++ (Y.take (k - a).toNat ++ (x :: (Y.drop (k - a).toNat ++ R))) := ⟨_, rfl⟩
   have hRD : R32 D := fun y hy => hr y (by
    rw [hDe] at hy;simp only [qae, qal] at hy ⊢;rcases hy with hy | hy | hy | hy | hy
    ·exact .inl hy
    ·exact .inr (.inr (.inl (qbg hy)))
    ·exact .inr (.inl (by simp [hy]))
    ·exact .inr (.inr (.inl (qbv hy)))
    ·exact .inr (.inr (.inr hy)))
   rw [<- hDe];have hD : D = (P ++ Y.take (k - a).toNat) ++ x :: Y[(k - a).toNat] :: (Y.drop ((k - a).toNat + 1) ++ R) := by rw [hDe, dy]; simp only [qf, qm, qv]
   have hk0 : lo + k.toNat = (P ++ Y.take (k - a).toNat).length := by rw [qb, lt]; omega
   have hk1 : lo + (k + 1).toNat = (P ++ Y.take (k - a).toNat).length + 1 := by rw [qb, lt]; omega
   have gx : D[lo + k.toNat]? = some x := by rw [hD, hk0, nR]
   have gy : D[lo + (k + 1).toNat]? = some Y[(k - a).toNat] := by rw [hD, hk1, qn (by omega)]; simp
   have hsw : (D.set (lo + k.toNat) Y[(k - a).toNat]).set (lo + (k + 1).toNat) x = P ++ (Y.take (k + 1 - a).toNat ++ (x :: (Y.drop (k + 1 - a).toNat ++ R))) := by
    rw [hD, hk0, hk1, zp4, hn, ty]; simp only [qf, qm, qv]
   obtain ⟨t1, t2, t3, t4⟩ := tQ D gx gy (by omega) Y[(k - a).toNat] x;rw [hsw] at t1;have hla : 1 <= ((aA D).getD (lo + k.toNat) []).length := by rw [t2]; exact qu _
   refine ⟨⟨by omega, by omega, t3⟩, Y[(k - a).toNat], by rw [cT gy]; rfl, ⟨by omega, by omega, t2⟩, x, by rw [cT gx]; rfl, ⟨by omega, by omega, t2⟩, ?_⟩;refine ⟨?_, ?_⟩
   all_goals exact ⟨⟨rfl, hla⟩, ⟨by omega, by omega, t4⟩, ⟨rfl, by rw [t4]; exact qu _⟩, rfl, ⟨i0, ib, hlt, hge, by omega, by omega, t1⟩, by dsimp only; omega⟩
  ·simp only [aB] at hc2;have hk : (k - a).toNat = (i - m).toNat := by omega
   rw [hk]
   have h1 : ∀ y ∈ Y.take (i - m).toNat, key y < key x := fun y hy => by
    obtain ⟨q, hq, rfl⟩ := lN hy;rw [qi] at hq;have e : (Y.take (i - m).toNat).getD q 0 = Y.getD q 0 := by simp only [qac]; rw [qba (by omega)]
    rw [e];have := hlt (m + q) (by omega) (by omega);rwa [show (m + (q : Int) - m).toNat = q by omega] at this
   have h2 : ∀ y ∈ Y.drop (i - m).toNat, key x <= key y := fun y hy => by
    obtain ⟨q, hq, rfl⟩ := lN hy;rw [qag] at hq;have e : (Y.drop (i - m).toNat).getD q 0 = Y.getD ((i - m).toNat + q) 0 := by simp only [qac, qar]
    rw [e];have := hge (i + q) (by omega) (by omega);rw [show (i + (q : Int) - m).toNat = (i - m).toNat + q by omega] at this;omega
   have hYs : Srtd key (Y.take (i - m).toNat ++ Y.drop (i - m).toNat) := by rw [qk]; exact hY
   refine ⟨Y.take (i - m).toNat ++ x :: Y.drop (i - m).toNat, rfl, by simp, zg6 hYs (fun y hy => qav (h1 y hy)) h2, ?_⟩;have := Stab.rot1 (key := key) (u := []) (v := Y.drop (i - m).toNat) (a := [x]) (b := Y.take (i - m).toNat) (fun p hp q hq => by simp at hp; subst hp; have := h1 q hq; omega);simpa using this
end
section
variable {key : Int -> Int} {T : PV}
theorem zp9 (hc : jH T key) (lo hi : Nat) (nl : Bool) (P X R : List Int) (y : Int) (a m b : Int) (ha : 0 <= a) (hP : P.length = lo + a.toNat) (hm : m = a + X.length) (hX1 : X.length ≠ 1) (hb : b = m + 1) (hhi : (lo : Int) + b <= hi) (hr : R32 (P ++ (X ++ ([y] ++ R)))) (hlen : hi < 1000000000000) (hX : Srtd key X) :
 ACall qa 102 [.sub 0 lo hi, .pv (.int .i64 a), .pv (.int .i64 m), .pv (.int .i64 b), .fn 82 [.box 1 0]] [.sl (21, 1) false nl (aA (P ++ (X ++ ([y] ++ R)))), .box [.pv T]] (jI key nl T P (X ++ [y]) R) := by
 have hat : ∀ h : Int, a <= h -> h < m -> (P ++ (X ++ ([y] ++ R)))[lo + h.toNat]? = some (X.getD (h - a).toNat 0) := fun h h1 h2 => by
  rw [qn (by omega), show lo + h.toNat - P.length = (h - a).toNat by omega, qan (by omega)];exact qI (by omega)
 have hay : (P ++ (X ++ ([y] ++ R)))[lo + m.toNat]? = some y := by
  have e : P ++ (X ++ ([y] ++ R)) = (P ++ X) ++ y :: R := by simp
  rw [e, show lo + m.toNat = (P ++ X).length by simp; omega, nR]
 refine xB _ _ _ _ _ _ _ _
  (fun _ _ _ => True) (fun _ _ _ => 0) (fun _ _ _ => True) (fun _ _ _ => 0)
  (fun i j s => s = aA (P ++ (X ++ ([y] ++ R))) /\ a <= i /\ i <= j /\ j <= m /\ (∀ h, a <= h -> h < i -> ¬ key y < key (X.getD (h - a).toNat 0)) /\ (∀ h, j <= h -> h < m -> key y < key (X.getD (h - a).toNat 0))) (fun i j _ => (j - i).toNat)
  (fun i k s => a <= i /\ i <= m /\ (∀ h, a <= h -> h < i -> ¬ key y < key (X.getD (h - a).toNat 0)) /\ (∀ h, i <= h -> h < m -> key y < key (X.getD (h - a).toNat 0)) /\ i <= k /\ k <= m /\ s = aA (P ++ (X.take (k - a).toNat ++ (y :: (X.drop (k - a).toNat ++ R))))) (fun i k _ => (k - i).toNat)
  (fun _ _ _ => True) (fun _ _ _ => 0) ?_
 unfold sZ;have w1 : i64.wrap (m - a) = X.length := by rw [aD (by omega) (by omega)]; omega
 have w2 : i64.wrap (b - m) = 1 := by rw [aD (by omega) (by omega)]; omega
 refine bI (by rw [w1]; simp; omega) (bG (by rw [w2]; rfl) ⟨⟨rfl, rfl, qd _, by omega, qd _, fun h h1 h2 => by omega, fun h h1 h2 => by omega⟩, ?_⟩);rintro i j _ ⟨rfl, i0, hij, hjb, hlt, hge⟩;refine aG (fun hc1 => ?_) (fun hc1 => ?_)
 ·simp only [aB] at hc1;rw [qJ (by omega) (by omega) (by omega)];obtain ⟨h, hh⟩ : ∃ h, h = (i + j) / 2 := ⟨_, rfl⟩;rw [<- hh];have b1 : i <= h /\ h < j := by omega
  have gx := hat h (by omega) (by omega);have wh : i64.wrap (h + 1) = h + 1 := aD (by omega) (by omega);rw [wh];refine ⟨⟨by omega, by omega, by rw [cT hay]; rfl⟩, y, by rw [cT hay]; rfl, ⟨by omega, by omega, by rw [cT gx]; rfl⟩, _, by rw [cT gx]; rfl, ?_⟩;refine (hc y _ (lL hr hay) (lL hr gx)).mono ?_;rintro _ ⟨n2, rfl, hn2⟩;refine ⟨n2, rfl, rfl, aG (fun hl => ?_) (fun hl => ?_)⟩
  ·simp only [qj, dA] at hl;have hk : ¬ key y < key (X.getD (h - a).toNat 0) := fun h => hl (hn2.2 h);refine ⟨rfl, ⟨rfl, by omega, by omega, by omega, fun q q1 q2 => ?_, hge⟩, by dsimp only; omega⟩;have := hX.get (i := (q - a).toNat) (j := (h - a).toNat) (by omega) (by omega);omega
  ·simp only [qj, dA, qy] at hl;have hk := hn2.1 hl;refine ⟨rfl, ⟨rfl, by omega, by omega, by omega, hlt, fun q q1 q2 => ?_⟩, by dsimp only; omega⟩;have := hX.get (i := (h - a).toNat) (j := (q - a).toNat) (by omega) (by omega);omega
 ·simp only [aB] at hc1;have : i = j := by omega
  subst this;have hml : (m - a).toNat = X.length := by omega
  refine ⟨⟨rfl, i0, hjb, hlt, hge, by omega, qd _, by rw [hml]; simp⟩, ?_⟩;clear hc1 hij hjb hlt hge i0;rintro i k _ ⟨i0, ib, hlt, hge, k0, k1, rfl⟩;refine aG (fun hc2 => ?_) (fun hc2 => ?_)
  ·simp only [aB, gt_iff_lt] at hc2;have wk : i64.wrap (k - 1) = k - 1 := aD (by omega) (by omega);rw [wk];have hlk : (k - 1 - a).toNat < X.length := by omega
   have hn : (k - a).toNat = (k - 1 - a).toNat + 1 := by omega
   have dx : X.drop (k - 1 - a).toNat = X[(k - 1 - a).toNat] :: X.drop ((k - 1 - a).toNat + 1) := qad hlk;have tx : X.take ((k - 1 - a).toNat + 1) = X.take (k - 1 - a).toNat ++ [X[(k - 1 - a).toNat]] := dH hlk;have lt : (X.take (k - 1 - a).toNat).length = (k - 1 - a).toNat := by rw [qi]; omega
   obtain ⟨D, hDe⟩ : ∃ D, D = P ++ (X.take (k - a).toNat ++ (y :: (X.drop (k - a).toNat ++ R))) := ⟨_, rfl⟩
   have hRD : R32 D := fun z hz => hr z (by
    rw [hDe] at hz;simp only [qae, qal] at hz ⊢;rcases hz with hz | hz | hz | hz | hz
    ·exact .inl hz
    ·exact .inr (.inl (qbg hz))
    ·exact .inr (.inr (.inl (by simp [hz])))
    ·exact .inr (.inl (qbv hz))
    ·exact .inr (.inr (.inr hz)))
   rw [<- hDe];have hD : D = (P ++ X.take (k - 1 - a).toNat) ++ X[(k - 1 - a).toNat] :: y :: (X.drop ((k - 1 - a).toNat + 1) ++ R) := by rw [hDe, hn, tx]; simp only [qf, qm, qv]
   have hk0 : lo + (k - 1).toNat = (P ++ X.take (k - 1 - a).toNat).length := by rw [qb, lt]; omega
   have hk1 : lo + k.toNat = (P ++ X.take (k - 1 - a).toNat).length + 1 := by rw [qb, lt]; omega
   have gx : D[lo + (k - 1).toNat]? = some X[(k - 1 - a).toNat] := by rw [hD, hk0, nR]
   have gy : D[lo + k.toNat]? = some y := by rw [hD, hk1, qn (by omega)]; simp
   have hsw : (D.set (lo + k.toNat) X[(k - 1 - a).toNat]).set (lo + (k - 1).toNat) y = P ++ (X.take (k - 1 - a).toNat ++ (y :: (X.drop (k - 1 - a).toNat ++ R))) := by
    rw [hD, hk0, hk1, zg3, dx]; simp only [qf, qm, qv]
   obtain ⟨t1, t2, t3, t4⟩ := tQ D gy gx (by omega) X[(k - 1 - a).toNat] y;rw [hsw] at t1;have hla : 1 <= ((aA D).getD (lo + k.toNat) []).length := by rw [t2]; exact qu _
   refine ⟨⟨by omega, by omega, t3⟩, X[(k - 1 - a).toNat], by rw [cT gx]; rfl, ⟨by omega, by omega, t2⟩, y, by rw [cT gy]; rfl, ⟨by omega, by omega, t2⟩, ?_⟩;refine ⟨?_, ?_⟩
   all_goals exact ⟨⟨rfl, hla⟩, ⟨by omega, by omega, t4⟩, ⟨rfl, by rw [t4]; exact qu _⟩, rfl, ⟨i0, ib, hlt, hge, by omega, by omega, t1⟩, by dsimp only; omega⟩
  ·simp only [aB, gt_iff_lt] at hc2;have hk : k = i := by omega
   subst hk
   have h1 : ∀ z ∈ X.take (k - a).toNat, key z <= key y := fun z hz => by
    obtain ⟨q, hq, rfl⟩ := lN hz;rw [qi] at hq;have e : (X.take (k - a).toNat).getD q 0 = X.getD q 0 := by simp only [qac]; rw [qba (by omega)]
    rw [e];have := hlt (a + q) (by omega) (by omega);rw [show (a + (q : Int) - a).toNat = q by omega] at this;omega
   have h2 : ∀ z ∈ X.drop (k - a).toNat, key y < key z := fun z hz => by
    obtain ⟨q, hq, rfl⟩ := lN hz;rw [qag] at hq;have e : (X.drop (k - a).toNat).getD q 0 = X.getD ((k - a).toNat + q) 0 := by simp only [qac, qar]
    rw [e];have := hge (k + q) (by omega) (by omega);rwa [show (k + (q : Int) - a).toNat = (k - a).toNat + q by omega] at this
   have hXs : Srtd key (X.take (k - a).toNat ++ X.drop (k - a).toNat) := by rw [qk]; exact hX
   refine ⟨X.take (k - a).toNat ++ y :: X.drop (k - a).toNat, rfl, by simp, zg6 hXs h1 (fun z hz => qav (h2 z hz)), ?_⟩;have := Stab.rot1 (key := key) (u := X.take (k - a).toNat) (v := []) (a := X.drop (k - a).toNat) (b := [y]) (fun p hp q hq => by simp at hq; subst hq; have := h2 p hp; omega);rw [<- qf, qk] at this;simpa using this
end
section
variable {key : Int -> Int} {T : PV} (lo hi : Nat) (nl : Bool)
abbrev jJ (nl : Bool) (T : PV) (t : List (List PV)) : Hp := [.sl (21, 1) false nl t, .box [.pv T]]
abbrev zQ (nl : Bool) (T : PV) (t : List (List PV)) (K : List (List PV) -> Prop) : LV -> Hp -> Prop := fun r h' => ∃ t1, (r = .tup [] /\ h' = jJ nl T t1) /\ (True /\ ((21, 1) = (21, 1) /\ nl = nl /\ t.length = t1.length) /\ True) /\ K t1
def tR (T : PV) (mid e b : Int) (Q : LV -> Hp -> Prop) (t : List (List PV)) : Prop :=
 if (decide (mid < e) && decide (e < b)) = true then ACall qa 102 [.sub 0 lo hi, .pv (.int .i64 mid), .pv (.int .i64 e), .pv (.int .i64 b), .fn 82 [.box 1 0]] (jJ nl T t) (zQ nl T t fun t1 => Q (.tup []) (jJ nl T t1)) else Q (.tup []) (jJ nl T t)
def tS (T : PV) (a s mid e b : Int) (Q : LV -> Hp -> Prop) (t : List (List PV)) : Prop :=
 if (decide (a < s) && decide (s < mid)) = true then ACall qa 102 [.sub 0 lo hi, .pv (.int .i64 a), .pv (.int .i64 s), .pv (.int .i64 mid), .fn 82 [.box 1 0]] (jJ nl T t) (zQ nl T t (tR lo hi nl T mid e b Q)) else tR lo hi nl T mid e b Q t
def zR (T : PV) (a s m mid e b : Int) (Q : LV -> Hp -> Prop) (t : List (List PV)) : Prop :=
 if (decide (s < m) && decide (m < e)) = true then ACall qa 104 [.sub 0 lo hi, .pv (.int .i64 s), .pv (.int .i64 m), .pv (.int .i64 e), .fn 82 [.box 1 0]] (jJ nl T t) (zQ nl T t (tS lo hi nl T a s mid e b Q)) else tS lo hi nl T a s mid e b Q t
theorem R32.of {l m : List Int} (h : R32 l) (hm : ∀ x ∈ m, x ∈ l) : R32 m := fun x hx => h x (hm x hx)
def zg7 (T : PV) (key : Int -> Int) (N : Int) : Prop := ∀ (P X Y R : List Int) (a m b : Int), 0 <= a -> P.length = lo + a.toNat -> m = a + X.length -> b = m + Y.length -> X ≠ [] -> Y ≠ [] -> (lo : Int) + b <= hi -> R32 (P ++ (X ++ (Y ++ R))) -> Srtd key X -> Srtd key Y -> b - a < N ->
 ACall qa 102 [.sub 0 lo hi, .pv (.int .i64 a), .pv (.int .i64 m), .pv (.int .i64 b), .fn 82 [.box 1 0]] (jJ nl T (aA (P ++ (X ++ (Y ++ R))))) (jI key nl T P (X ++ Y) R)
theorem zqa {N : Int} (ih : zg7 lo hi nl T key N) (hlen : hi < 1000000000000) (P X1 X2 Y1 Y2 R : List Int) (a s m mid e b : Int) (ha : 0 <= a) (hP : P.length = lo + a.toNat) (h1 : s = a + X1.length) (h2 : m = s + X2.length) (h3 : e = m + Y1.length) (h4 : b = e + Y2.length) (h5 : mid = s + Y1.length)
 (hhi : (lo : Int) + b <= hi) (hr : R32 (P ++ (X1 ++ (X2 ++ (Y1 ++ (Y2 ++ R)))))) (hX : Srtd key (X1 ++ X2)) (hY : Srtd key (Y1 ++ Y2)) (f1 : ∀ x ∈ X2, ∀ y ∈ Y1, key y < key x) (f2 : ∀ x ∈ X1, ∀ y ∈ Y2, key x <= key y) (n1 : mid - a < N) (n2 : b - mid < N) :
 zR lo hi nl T a s m mid e b (jI key nl T P ((X1 ++ X2) ++ (Y1 ++ Y2)) R) (aA (P ++ (X1 ++ (X2 ++ (Y1 ++ (Y2 ++ R)))))) := by
 have hl1 : ∀ {u v : List Int}, u.length = v.length -> (aA u).length = (aA v).length := fun h => by simp [h]
 obtain ⟨x1, x2, x3⟩ := iR.1 hX;obtain ⟨y1, y2, y3⟩ := iR.1 hY
 have t3 : ∀ S1 : List Int, Srtd key S1 -> Stab key (X1 ++ Y1) S1 -> tR lo hi nl T mid e b (jI key nl T P ((X1 ++ X2) ++ (Y1 ++ Y2)) R) (aA (P ++ (S1 ++ (X2 ++ (Y2 ++ R))))) := fun S1 s1 k1 => by
  have kl := k1.len;rw [qb] at kl
  have fin : ∀ S2 : List Int, Srtd key S2 -> Stab key (X2 ++ Y2) S2 -> jI key nl T P ((X1 ++ X2) ++ (Y1 ++ Y2)) R (.tup []) (jJ nl T (aA (P ++ (S1 ++ (S2 ++ R))))) := fun S2 s2 k2 => by
   obtain ⟨c1, c2⟩ := zp7 hX hY f1 f2 s1 k1 s2 k2;exact ⟨S1 ++ S2, rfl, by simp, c1, c2⟩
  unfold tR;refine aG (fun hc => ?_) (fun hc => ?_)
  ·simp only [qe, aB] at hc;have nx : X2 ≠ [] := fun h => by subst h; simp at h2; omega
   have ny : Y2 ≠ [] := fun h => by subst h; simp at h4; omega
   have := ih (P ++ S1) X2 Y2 R mid e b (by omega) (by rw [qb]; omega) (by omega) h4 nx ny hhi (hr.of fun x hx => by
    simp only [qae] at hx ⊢;rcases hx with (hx | hx) | hx | hx | hx
    ·exact .inl hx
    ·rcases List.mem_append.1 (k1.mem.2 hx) with hx | hx
     ·exact .inr (.inl hx)
     ·exact .inr (.inr (.inr (.inl hx)))
    ·exact .inr (.inr (.inl hx))
    ·exact .inr (.inr (.inr (.inr (.inl hx))))
    ·exact .inr (.inr (.inr (.inr (.inr hx))))) x2 y2 n2
   rw [show P ++ (S1 ++ (X2 ++ (Y2 ++ R))) = (P ++ S1) ++ (X2 ++ (Y2 ++ R)) by simp];refine this.mono ?_;rintro r h' ⟨S2, rfl, rfl, s2, k2⟩;refine ⟨_, ⟨rfl, rfl⟩, ⟨trivial, ⟨rfl, rfl, hl1 ?_⟩, trivial⟩, ?_⟩
   ·have := k2.len;simp only [qb] at this ⊢; omega
   ·have := fin S2 s2 k2;rw [<- qf P] at this;exact this
  ·simp only [qe, aB] at hc
   have hz : X2 = [] ∨ Y2 = [] := by
    rcases qbk X2.length with h | h
    ·exact .inl (List.length_eq_zero_iff.1 h)
    ·exact .inr (List.length_eq_zero_iff.1 (by omega))
   have s2 : Srtd key (X2 ++ Y2) := by
    rcases hz with h | h
    ·subst h; exact y2
    ·subst h; simpa using x2
   have := fin (X2 ++ Y2) s2 (.refl _);rw [qf X2 Y2] at this;exact this
 have t2 : tS lo hi nl T a s mid e b (jI key nl T P ((X1 ++ X2) ++ (Y1 ++ Y2)) R) (aA (P ++ (X1 ++ (Y1 ++ (X2 ++ (Y2 ++ R)))))) := by
  unfold tS;refine aG (fun hc => ?_) (fun hc => ?_)
  ·simp only [qe, aB] at hc;have nx : X1 ≠ [] := fun h => by subst h; simp at h1; omega
   have ny : Y1 ≠ [] := fun h => by subst h; simp at h5; omega
   refine (ih P X1 Y1 (X2 ++ (Y2 ++ R)) a s mid ha hP h1 h5 nx ny (by omega) (hr.of fun x hx => by
    simp only [qae] at hx ⊢;rcases hx with hx | hx | hx | hx | hx | hx
    ·exact .inl hx
    ·exact .inr (.inl hx)
    ·exact .inr (.inr (.inr (.inl hx)))
    ·exact .inr (.inr (.inl hx))
    ·exact .inr (.inr (.inr (.inr (.inl hx))))
    ·exact .inr (.inr (.inr (.inr (.inr hx))))) x1 y1 n1).mono ?_
   rintro r h' ⟨S1, rfl, rfl, s1, k1⟩;refine ⟨_, ⟨rfl, rfl⟩, ⟨trivial, ⟨rfl, rfl, hl1 ?_⟩, trivial⟩, t3 S1 s1 k1⟩;have := k1.len;simp only [qb] at this ⊢; omega
  ·simp only [qe, aB] at hc
   have hz : X1 = [] ∨ Y1 = [] := by
    rcases qbk X1.length with h | h
    ·exact .inl (List.length_eq_zero_iff.1 h)
    ·exact .inr (List.length_eq_zero_iff.1 (by omega))
   have s2 : Srtd key (X1 ++ Y1) := by
    rcases hz with h | h
    ·subst h; exact y1
    ·subst h; simpa using x1
   have := t3 (X1 ++ Y1) s2 (.refl _);rw [qf X1 Y1] at this;exact this
 unfold zR;refine aG (fun hc => ?_) (fun hc => ?_)
 ·simp only [qe, aB] at hc;have nx : X2 ≠ [] := fun h => by subst h; simp at h2; omega
  have ny : Y1 ≠ [] := fun h => by subst h; simp at h3; omega
  have := zp6 (T := T) lo hi nl (P ++ X1) X2 Y1 (Y2 ++ R) s m e (by omega) (by rw [qb]; omega) h2 h3 nx ny (by omega) hlen;rw [show P ++ (X1 ++ (X2 ++ (Y1 ++ (Y2 ++ R)))) = (P ++ X1) ++ (X2 ++ (Y1 ++ (Y2 ++ R))) by simp];refine this.mono ?_;rintro r h' ⟨rfl, rfl⟩;refine ⟨_, ⟨rfl, rfl⟩, ⟨trivial, ⟨rfl, rfl, hl1 ?_⟩, trivial⟩, ?_⟩
  ·simp only [qb]; omega
  ·rw [qf P]; exact t2
 ·simp only [qe, aB] at hc
  have hz : X2 = [] ∨ Y1 = [] := by
   rcases qbk X2.length with h | h
   ·exact .inl (List.length_eq_zero_iff.1 h)
   ·exact .inr (List.length_eq_zero_iff.1 (by omega))
  have e : P ++ (X1 ++ (X2 ++ (Y1 ++ (Y2 ++ R)))) = P ++ (X1 ++ (Y1 ++ (X2 ++ (Y2 ++ R)))) := by
   rcases hz with h | h <;> subst h <;> simp
  rw [e]; exact t2
end
section
variable {key : Int -> Int} {T : PV}
theorem zg8 (hc : jH T key) (lo hi : Nat) (nl : Bool) (hlen : hi < 1000000000000) : ∀ N : Nat, zg7 lo hi nl T key N := by
 intro N
 induction N with
 | zero =>
   intro P X Y R a m b ha hP hm hb hx hy hhi hr hX hY hN;omega
 | succ N ih =>
   intro P X Y R a m b ha hP hm hb hx hy hhi hr hX hY hN;have hxl := List.length_pos_iff.2 hx;have hyl := List.length_pos_iff.2 hy;by_cases hx1 : X.length = 1
   ·obtain ⟨x, rfl⟩ := List.length_eq_one_iff.1 hx1;exact zp8 hc lo hi nl P Y R x a m b ha hP (by simpa using hm) hb hhi hr hlen hY
   by_cases hy1 : Y.length = 1
   ·obtain ⟨y, rfl⟩ := List.length_eq_one_iff.1 hy1;exact zp9 hc lo hi nl P X R y a m b ha hP hm hx1 (by simpa using hb) hhi hr hlen hX
   obtain ⟨mid, hmid⟩ : ∃ mid, mid = (a + b) / 2 := ⟨_, rfl⟩
   have hat : ∀ h : Int, a <= h -> h < m -> (P ++ (X ++ (Y ++ R)))[lo + h.toNat]? = some (X.getD (h - a).toNat 0) := fun h h1 h2 => by
    rw [qn (by omega), show lo + h.toNat - P.length = (h - a).toNat by omega, qan (by omega)];exact qI (by omega)
   have hbt : ∀ h : Int, m <= h -> h < b -> (P ++ (X ++ (Y ++ R)))[lo + h.toNat]? = some (Y.getD (h - m).toNat 0) := fun h h1 h2 => by
    rw [<- qf, qn (by rw [qb]; omega), show lo + h.toNat - (P ++ X).length = (h - m).toNat by rw [qb]; omega, qan (by omega)];exact qI (by omega)
   obtain ⟨s0, hs0⟩ : ∃ s0, s0 = if m > mid then mid + m - b else a := ⟨_, rfl⟩;obtain ⟨r0, hr0⟩ : ∃ r0, r0 = if m > mid then mid else m := ⟨_, rfl⟩
   have rng : a <= s0 /\ s0 <= r0 /\ r0 <= m /\ mid + m - s0 <= b /\ m <= mid + m - r0 := by
    rw [hs0, hr0]; split <;> omega
   refine xB _ _ _ _ _ _ _ _
    (fun _ _ _ => True) (fun _ _ _ => 0) (fun _ _ _ => True) (fun _ _ _ => 0) (fun _ _ _ => True) (fun _ _ _ => 0) (fun _ _ _ => True) (fun _ _ _ => 0)
    (fun i j s => s = aA (P ++ (X ++ (Y ++ R))) /\ s0 <= i /\ i <= j /\ j <= r0 /\ (∀ c, s0 <= c -> c < i -> ¬ key (Y.getD (mid - 1 - c).toNat 0) < key (X.getD (c - a).toNat 0)) /\ (∀ c, j <= c -> c < r0 -> key (Y.getD (mid - 1 - c).toNat 0) < key (X.getD (c - a).toNat 0))) (fun i j _ => (j - i).toNat) ?_
   unfold sZ;have w1 : i64.wrap (m - a) = X.length := by rw [aD (by omega) (by omega)]; omega
   have w2 : i64.wrap (b - m) = Y.length := by rw [aD (by omega) (by omega)]; omega
   have w3 : i64.wrap (mid + m) = mid + m := aD (by omega) (by omega);have w4 : i64.wrap (mid + m - b) = mid + m - b := aD (by omega) (by omega);have w5 : i64.wrap (mid + m - 1) = mid + m - 1 := aD (by omega) (by omega);rw [w1, w2, qJ ha (by omega) (by omega), <- hmid, w3, w4, w5]
   -- what the loop is, and what follows it
   have body : ∀ (x20 x21 : Int) (s : List (List PV)), (s = aA (P ++ (X ++ (Y ++ R))) /\ s0 <= x20 /\ x20 <= x21 /\ x21 <= r0 /\ (∀ c, s0 <= c -> c < x20 -> ¬ key (Y.getD (mid - 1 - c).toNat 0) < key (X.getD (c - a).toNat 0)) /\ (∀ c, x21 <= c -> c < r0 -> key (Y.getD (mid - 1 - c).toNat 0) < key (X.getD (c - a).toNat 0))) ->
    (x20 < x21 -> ∃ h, h = (x20 + x21) / 2 /\ i64.wrap (mid + m - 1 - h) = mid + m - 1 - h /\ i64.wrap (h + 1) = h + 1 /\ (0 <= mid + m - 1 - h /\ mid + m - 1 - h < (hi : Int) - lo /\ (s.getD (lo + (mid + m - 1 - h).toNat) []).length = 1) /\ (0 <= h /\ h < (hi : Int) - lo /\ (s.getD (lo + h.toNat) []).length = 1) /\
     ∃ n n1, (qh 0 (s.getD (lo + (mid + m - 1 - h).toNat) [])).head? = some (PV.int .i32 n) /\ (qh 0 (s.getD (lo + h.toNat) [])).head? = some (PV.int .i32 n1) /\ (-2147483648 <= n /\ n <= 2147483647) /\ (-2147483648 <= n1 /\ n1 <= 2147483647) /\
     (¬ key n < key n1 -> (s = aA (P ++ (X ++ (Y ++ R))) /\ s0 <= h + 1 /\ h + 1 <= x21 /\ x21 <= r0 /\ (∀ c, s0 <= c -> c < h + 1 -> ¬ key (Y.getD (mid - 1 - c).toNat 0) < key (X.getD (c - a).toNat 0)) /\ (∀ c, x21 <= c -> c < r0 -> key (Y.getD (mid - 1 - c).toNat 0) < key (X.getD (c - a).toNat 0))) /\ (x21 - (h + 1)).toNat < (x21 - x20).toNat) /\
     (key n < key n1 -> (s = aA (P ++ (X ++ (Y ++ R))) /\ s0 <= x20 /\ x20 <= h /\ h <= r0 /\ (∀ c, s0 <= c -> c < x20 -> ¬ key (Y.getD (mid - 1 - c).toNat 0) < key (X.getD (c - a).toNat 0)) /\ (∀ c, h <= c -> c < r0 -> key (Y.getD (mid - 1 - c).toNat 0) < key (X.getD (c - a).toNat 0))) /\ (h - x20).toNat < (x21 - x20).toNat)) /\
    (¬ x20 < x21 -> i64.wrap (mid + m - x20) = mid + m - x20 /\ zR lo hi nl T a x20 m mid (mid + m - x20) b (jI key nl T P (X ++ Y) R) s) := by
    rintro i j _ ⟨rfl, i0, hij, hjr, hge, hlt⟩;refine ⟨fun hc1 => ?_, fun hc1 => ?_⟩
    ·obtain ⟨h, hh⟩ : ∃ h, h = (i + j) / 2 := ⟨_, rfl⟩;have b1 : i <= h /\ h < j := by omega
     have gx := hat h (by omega) (by omega);have gy := hbt (mid + m - 1 - h) (by omega) (by omega);rw [show (mid + m - 1 - h - m).toNat = (mid - 1 - h).toNat by omega] at gy;refine ⟨h, hh, aD (by omega) (by omega), aD (by omega) (by omega), ⟨by omega, by omega, by rw [cT gy]; rfl⟩, ⟨by omega, by omega, by rw [cT gx]; rfl⟩, _, _, by rw [cT gy]; rfl, by rw [cT gx]; rfl, lL hr gy, lL hr gx, fun hk => ?_, fun hk => ?_⟩
     ·refine ⟨⟨rfl, by omega, by omega, hjr, fun c c1 c2 => ?_, hlt⟩, by omega⟩;have u := hX.get (i := (c - a).toNat) (j := (h - a).toNat) (by omega) (by omega);have v := hY.get (i := (mid - 1 - h).toNat) (j := (mid - 1 - c).toNat) (by omega) (by omega);omega
     ·refine ⟨⟨rfl, i0, by omega, by omega, hge, fun c c1 c2 => ?_⟩, by omega⟩;have u := hX.get (i := (h - a).toNat) (j := (c - a).toNat) (by omega) (by omega);have v := hY.get (i := (mid - 1 - c).toNat) (j := (mid - 1 - h).toNat) (by omega) (by omega);omega
    ·have hij2 : i = j := by omega
     subst hij2;refine ⟨aD (by omega) (by omega), ?_⟩;have l1 : (X.take (i - a).toNat).length = (i - a).toNat := by rw [qi]; omega
     have l2 : (X.drop (i - a).toNat).length = X.length - (i - a).toNat := qag;have l3 : (Y.take (mid - i).toNat).length = (mid - i).toNat := by rw [qi]; omega
     have l4 : (Y.drop (mid - i).toNat).length = Y.length - (mid - i).toNat := qag;have eX : X.take (i - a).toNat ++ X.drop (i - a).toNat = X := qk _ _;have eY : Y.take (mid - i).toNat ++ Y.drop (mid - i).toNat = Y := qk _ _;have tk : ∀ (L : List Int) (k q : Nat), q < k -> (L.take k).getD q 0 = L.getD q 0 := fun L k q h => by simp only [qac]; rw [qba h]
     have dk : ∀ (L : List Int) (k q : Nat), (L.drop k).getD q 0 = L.getD (k + q) 0 := fun L k q => by simp only [qac, qar]
     have f1 : ∀ x ∈ X.drop (i - a).toNat, ∀ y ∈ Y.take (mid - i).toNat, key y < key x := fun x hx y hy => by
      obtain ⟨q, hq, rfl⟩ := lN hx;obtain ⟨p, hp, rfl⟩ := lN hy;rw [l2] at hq;rw [l3] at hp;rw [tk _ _ _ hp, dk];have hir : i < r0 := by rw [hr0]; split <;> omega
      have k0 := hlt i (qd _) hir;have u := hX.get (i := (i - a).toNat) (j := (i - a).toNat + q) (by omega) (by omega);have v := hY.get (i := p) (j := (mid - 1 - i).toNat) (by omega) (by omega);omega
     have f2 : ∀ x ∈ X.take (i - a).toNat, ∀ y ∈ Y.drop (mid - i).toNat, key x <= key y := fun x hx y hy => by
      obtain ⟨q, hq, rfl⟩ := lN hx;obtain ⟨p, hp, rfl⟩ := lN hy;rw [l1] at hq;rw [l4] at hp;rw [tk _ _ _ hq, dk];have his : s0 <= i - 1 := by rw [hs0]; split <;> omega
      have k0 := hge (i - 1) his (by omega);rw [show (mid - 1 - (i - 1)).toNat = (mid - i).toNat by omega] at k0;have u := hX.get (i := q) (j := (i - 1 - a).toNat) (by omega) (by omega);have v := hY.get (i := (mid - i).toNat) (j := (mid - i).toNat + p) (by omega) (by omega);omega
     have := zqa lo hi nl (N := N) ih hlen P (X.take (i - a).toNat) (X.drop (i - a).toNat) (Y.take (mid - i).toNat) (Y.drop (mid - i).toNat) R a i m mid (mid + m - i) b ha hP (by omega) (by omega) (by omega) (by omega) (by omega) hhi
      (by rw [<- qf (Y.take _), eY, <- qf (X.take _), eX]; exact hr) (by rw [eX]; exact hX) (by rw [eY]; exact hY) f1 f2 (by omega) (by omega)
     rw [<- qf (Y.take _) _ R, eY, <- qf (X.take _) _ (Y ++ R), eX] at this;exact this
   refine bI (by simp; omega) (bI (by simp; omega) ?_);refine aG (fun hm2 => ?_) (fun hm2 => ?_)
   ·simp only [aB] at hm2;rw [if_pos hm2] at hs0 hr0;refine ⟨⟨rfl, rfl, by omega, by omega, by omega, fun c c1 c2 => by omega, fun c c1 c2 => by omega⟩, ?_⟩;rintro i j s hJ;obtain ⟨b1, b2⟩ := body i j s hJ;refine aG (fun hc1 => ?_) (fun hc1 => ?_)
    ·simp only [aB] at hc1;obtain ⟨h, hh, e1, e2, e3, e4, n, n1, g1, g2, r1, r2, k1, k2⟩ := b1 hc1;rw [qJ (by omega) (by omega) (by omega), <- hh, e1, e2];refine ⟨e3, n, g1, e4, n1, g2, ?_⟩;refine (hc n n1 r1 r2).mono ?_;rintro _ ⟨n2, rfl, hn2⟩;refine ⟨n2, rfl, rfl, aG (fun hl => ?_) (fun hl => ?_)⟩
     ·simp only [qj, dA] at hl;obtain ⟨q1, q2⟩ := k1 fun h => hl (hn2.2 h);exact ⟨rfl, q1, q2⟩
     ·simp only [qj, dA, qy] at hl;obtain ⟨q1, q2⟩ := k2 (hn2.1 hl);exact ⟨rfl, q1, q2⟩
    ·simp only [aB] at hc1;obtain ⟨e1, e2⟩ := b2 hc1;rw [e1];exact e2
   ·simp only [aB] at hm2;rw [if_neg hm2] at hs0 hr0;refine ⟨⟨rfl, rfl, by omega, by omega, by omega, fun c c1 c2 => by omega, fun c c1 c2 => by omega⟩, ?_⟩;rintro i j s hJ;obtain ⟨b1, b2⟩ := body i j s hJ;refine aG (fun hc1 => ?_) (fun hc1 => ?_)
    ·simp only [aB] at hc1;obtain ⟨h, hh, e1, e2, e3, e4, n, n1, g1, g2, r1, r2, k1, k2⟩ := b1 hc1;rw [qJ (by omega) (by omega) (by omega), <- hh, e1, e2];refine ⟨e3, n, g1, e4, n1, g2, ?_⟩;refine (hc n n1 r1 r2).mono ?_;rintro _ ⟨n2, rfl, hn2⟩;refine ⟨n2, rfl, rfl, aG (fun hl => ?_) (fun hl => ?_)⟩
     ·simp only [qj, dA] at hl;obtain ⟨q1, q2⟩ := k1 fun h => hl (hn2.2 h);exact ⟨rfl, q1, q2⟩
     ·simp only [qj, dA, qy] at hl;obtain ⟨q1, q2⟩ := k2 (hn2.1 hl);exact ⟨rfl, q1, q2⟩
    ·simp only [aB] at hc1;obtain ⟨e1, e2⟩ := b2 hc1;rw [e1];exact e2
end
section
variable {key : Int -> Int} {T : PV}
def mI (key : Int -> Int) (k : Nat) (Bs : List (List Int)) : Prop := ∀ B ∈ Bs, B.length = k /\ Srtd key B
theorem zS {k : Nat} : ∀ {Bs : List (List Int)}, mI key k Bs -> Bs.flatten.length = k * Bs.length
 | [], _ => by simp
 | B :: Bs, h => by
   rw [qo, qb, (h B qp).1, zS (Bs := Bs) fun C hC => h C (qz _ hC), ql, Nat.mul_add]; omega
theorem tT (Bs : List (List Int)) : Bs = [] ∨ (∃ X, Bs = [X]) ∨ ∃ X Y Bs', Bs = X :: Y :: Bs' := by
 match Bs with
 | [] => exact .inl rfl
 | [X] => exact .inr (.inl ⟨X, rfl⟩)
 | X :: Y :: Bs' => exact .inr (.inr ⟨X, Y, Bs', rfl⟩)
theorem zg9 {k : Nat} {Bs : List (List Int)} {B : List Int} (h : mI key k Bs) (hl : B.length = k) (hs : Srtd key B) : mI key k (Bs ++ [B]) := fun C hC => by
 rcases List.mem_append.1 hC with hC | hC
 ·exact h C hC
 ·simp only [qaq] at hC; subst hC; exact ⟨hl, hs⟩
theorem zT {P S R S' : List Int} (h : R32 (P ++ (S ++ R))) (k : Stab key S S') : R32 (P ++ (S' ++ R)) := h.of fun x hx => by
 simp only [qae] at hx ⊢;rcases hx with hx | hx | hx
 ·exact .inl hx
 ·exact .inr (.inl (k.mem.2 hx))
 ·exact .inr (.inr hx)
theorem zqb (hc : jH T key) (lo hi : Nat) (nl : Bool) (P S R : List Int) (hP : P.length = lo) (hS : hi = lo + S.length) (hr : R32 (P ++ (S ++ R))) (hlen : hi < 1000000000000) :
 ACall qa 95 [.sub 0 lo hi, .pv (.int .i64 ((hi - lo : Nat) : Int)), .fn 82 [.box 1 0]] (jJ nl T (aA (P ++ (S ++ R)))) (jI key nl T P S R) := by
 have hl1 : ∀ {u v : List Int}, u.length = v.length -> (aA u).length = (aA v).length := fun h => by simp [h]
 obtain ⟨n, hn⟩ : ∃ n : Int, n = ((hi - lo : Nat) : Int) := ⟨_, rfl⟩;rw [<- hn];have hnS : n = S.length := by omega
 refine zmr _ _ _ _ _ _
  (fun a b s => b = a + 20 /\ 0 <= a /\ ∃ Bs C, s = aA (P ++ (Bs.flatten ++ C ++ R)) /\ mI key 20 Bs /\ (Bs.flatten.length : Int) = a /\ Stab key S (Bs.flatten ++ C)) (fun a _ _ => (n + 1 - a).toNat)
  (fun k s => 0 < k /\ ∃ Bs C, s = aA (P ++ (Bs.flatten ++ C ++ R)) /\ mI key k.toNat Bs /\ Srtd key C /\ (C.length : Int) < k /\ Stab key S (Bs.flatten ++ C)) (fun k _ => (n - k).toNat)
  (fun k _ _ _ k' a b s => k = k' /\ b = a + 2 * k /\ 0 <= a /\ ∃ B2 Bs C, s = aA (P ++ (B2.flatten ++ (Bs.flatten ++ C) ++ R)) /\ mI key (2 * k).toNat B2 /\ mI key k.toNat Bs /\ Srtd key C /\ (C.length : Int) < k /\ (B2.flatten.length : Int) = a /\ Stab key S (B2.flatten ++ (Bs.flatten ++ C))) (fun k a _ _ => (n + 1 - a).toNat) ?_
 unfold zed;refine ⟨⟨rfl, rfl, qd _, [], S, by simp, fun B hB => (by cases hB), rfl, by simpa using Stab.refl S⟩, ?_⟩
 rintro a b _ ⟨rfl, a0, Bs, C, rfl, hBs, hBl, hst⟩;have hsl := hst.len;rw [qb] at hsl;refine aG (fun hc1 => ?_) (fun hc1 => ?_)
 ·simp only [aB] at hc1;have wa : i64.wrap (a + 20 + 20) = a + 20 + 20 := aD (by omega) (by omega);rw [wa];have hC : C.take 20 ++ C.drop 20 = C := qk _ _;have hCl : (C.take 20).length = 20 := by rw [qi]; omega
  have e1 : P ++ (Bs.flatten ++ C ++ R) = (P ++ Bs.flatten) ++ C.take 20 ++ (C.drop 20 ++ R) := by
   rw [show Bs.flatten ++ C ++ R = Bs.flatten ++ ((C.take 20 ++ C.drop 20) ++ R) by rw [hC]; simp];simp only [qf]
  have := zg5 hc lo hi nl (P ++ Bs.flatten) (C.take 20) (C.drop 20 ++ R) a (a + 20) a0 (by rw [qb]; omega) (by omega) (by omega) (by rw [<- e1]; exact zT hr hst) hlen;rw [e1];refine this.mono ?_;rintro r h' ⟨S1, rfl, rfl, s1, k1⟩;have k1l := k1.len;refine ⟨_, ⟨rfl, rfl⟩, ⟨trivial, ⟨rfl, rfl, hl1 (by simp only [qb]; omega)⟩, trivial⟩, rfl, ⟨rfl, by omega, Bs ++ [S1], C.drop 20, by simp, zg9 hBs (by omega) s1, by simp only [qax, qo, qx, qt, qb]; omega, ?_⟩, by dsimp only; omega⟩;refine hst.trans ?_;have := (Stab.refl (key := key) Bs.flatten).app (k1.app (Stab.refl (C.drop 20)));rw [hC] at this;simpa using this
 ·simp only [aB] at hc1;have e1 : P ++ (Bs.flatten ++ C ++ R) = (P ++ Bs.flatten) ++ C ++ R := by simp
  have := zg5 hc lo hi nl (P ++ Bs.flatten) C R a n a0 (by rw [qb]; omega) (by omega) (by omega) (by rw [<- e1]; exact zT hr hst) hlen;rw [e1];refine this.mono ?_;rintro r h' ⟨C1, rfl, rfl, s1, k1⟩;have k1l := k1.len;refine ⟨_, ⟨rfl, rfl⟩, ⟨trivial, ⟨rfl, rfl, hl1 (by simp only [qb]; omega)⟩, trivial⟩, ⟨rfl, by omega, Bs, C1, by simp, hBs, s1, by omega, hst.trans ((Stab.refl _).app k1)⟩, ?_⟩;clear hBs hBl hst hsl hc1 e1 this s1 k1 k1l;rintro k _ ⟨k0, Bs, C, rfl, hBs, hCs, hCk, hst⟩;have hsl := hst.len;rw [qb] at hsl;have hbl := zS hBs;refine aG (fun hc2 => ?_) (fun hc2 => ?_)
  ·simp only [aB] at hc2;have w2 : i64.wrap (2 * k) = 2 * k := aD (by omega) (by omega);have w3 : i64.wrap (k * 2) = 2 * k := by rw [aD (by omega) (by omega)]; omega
   rw [w2];refine ⟨⟨rfl, rfl, by omega, qd _, [], Bs, C, by simp, fun B hB => (by cases hB), hBs, hCs, hCk, rfl, by simpa using hst⟩, ?_⟩
   clear hBs hCs hCk hst hsl hbl;rintro _ a b _ ⟨rfl, rfl, a0, B2, Bs, C, rfl, hB2, hBs, hCs, hCk, hBl, hst⟩;have hsl := hst.len;rw [qb, qb] at hsl;have hbl := zS hBs;have hRs : R32 (P ++ (B2.flatten ++ (Bs.flatten ++ C) ++ R)) := zT hr hst;rw [w2, w3];have hkn : (k.toNat : Int) = k := by omega
   refine aG (fun hc3 => ?_) (fun hc3 => ?_)
   ·simp only [aB] at hc3;have w4 : i64.wrap (a + k) = a + k := aD (by omega) (by omega);have w5 : i64.wrap (a + 2 * k + 2 * k) = a + 2 * k + 2 * k := aD (by omega) (by omega);rw [w4, w5]
    obtain ⟨X, Y, Bs', rfl⟩ : ∃ X Y Bs', Bs = X :: Y :: Bs' := by
     rcases tT Bs with rfl | ⟨X, rfl⟩ | h
     ·simp only [qx, qr] at hsl; omega
     ·have h1 := (hBs X (by simp)).1;simp only [qo, qx, qt] at hsl; omega
     ·exact h
    obtain ⟨hXl, hXs⟩ := hBs X (by simp);obtain ⟨hYl, hYs⟩ := hBs Y (by simp);have nx : X ≠ [] := fun h => by subst h; simp at hXl; omega
    have ny : Y ≠ [] := fun h => by subst h; simp at hYl; omega
    have e1 : P ++ (B2.flatten ++ ((X :: Y :: Bs').flatten ++ C) ++ R) = (P ++ B2.flatten) ++ (X ++ (Y ++ (Bs'.flatten ++ C ++ R))) := by simp
    have := zg8 hc lo hi nl hlen (2 * k + 1).toNat (P ++ B2.flatten) X Y (Bs'.flatten ++ C ++ R) a (a + k) (a + 2 * k) a0 (by rw [qb]; omega) (by omega) (by omega) nx ny (by omega) (by rw [<- e1]; exact hRs) hXs hYs (by omega);rw [e1];refine this.mono ?_;rintro r h' ⟨S1, rfl, rfl, s1, k1⟩;have k1l := k1.len;rw [qb] at k1l;refine ⟨_, ⟨rfl, rfl⟩, ⟨trivial, ⟨rfl, rfl, hl1 (by simp only [qb]; omega)⟩, trivial⟩, rfl, ⟨rfl, rfl, by omega, B2 ++ [S1], Bs', C, by simp, zg9 hB2 (by omega) s1, fun B hB => hBs B (by simp [hB]), hCs, hCk, by simp only [qax, qo, qx, qt, qb]; omega, ?_⟩, by dsimp only; omega⟩;refine hst.trans ?_;have := (Stab.refl (key := key) B2.flatten).app (k1.app (Stab.refl (Bs'.flatten ++ C)));simpa using this
   ·simp only [aB] at hc3;have w4 : i64.wrap (a + k) = a + k := aD (by omega) (by omega);rw [w4];refine aG (fun hc4 => ?_) (fun hc4 => ?_)
    ·simp only [aB] at hc4
     obtain ⟨X, rfl⟩ : ∃ X, Bs = [X] := by
      rcases tT Bs with rfl | h | ⟨X, Y, Bs', rfl⟩
      ·simp only [qx, qr] at hsl; omega
      ·exact h
      ·have h1 := (hBs X (by simp)).1;have h2 := (hBs Y (by simp)).1;simp only [qo, qb] at hsl;omega
     obtain ⟨hXl, hXs⟩ := hBs X (by simp);have nx : X ≠ [] := fun h => by subst h; simp at hXl; omega
     simp only [qo, qx, qt] at hsl hst;have ny : C ≠ [] := fun h => by subst h; simp only [qr] at hsl; omega
     have e1 : P ++ (B2.flatten ++ ([X].flatten ++ C) ++ R) = (P ++ B2.flatten) ++ (X ++ (C ++ R)) := by simp
     have := zg8 hc lo hi nl hlen (2 * k + 1).toNat (P ++ B2.flatten) X C R a (a + k) n a0 (by rw [qb]; omega) (by omega) (by omega) nx ny (by omega) (by rw [<- e1]; exact hRs) hXs hCs (by omega);rw [e1];refine this.mono ?_;rintro r h' ⟨S1, rfl, rfl, s1, k1⟩;have k1l := k1.len;rw [qb] at k1l;exact ⟨_, ⟨rfl, rfl⟩, ⟨trivial, ⟨rfl, rfl, hl1 (by simp only [qb]; omega)⟩, trivial⟩, rfl, ⟨by omega, B2, S1, by simp, hB2, s1, by omega, hst.trans ((Stab.refl _).app k1)⟩, by dsimp only; omega⟩
    ·simp only [aB] at hc4
     have hCs2 : Srtd key (Bs.flatten ++ C) /\ ((Bs.flatten ++ C).length : Int) < 2 * k := by
      rcases tT Bs with rfl | ⟨X, rfl⟩ | ⟨X, Y, Bs', rfl⟩
      ·exact ⟨by simpa using hCs, by simp; omega⟩
      ·have h1 := hBs X (by simp);simp only [qo, qx, qt] at hsl ⊢;have hC0 : C = [] := List.length_eq_zero_iff.1 (by omega);subst hC0;exact ⟨by simpa using h1.2, by simp; omega⟩
      ·exfalso;have h1 := (hBs X (by simp)).1;have h2 := (hBs Y (by simp)).1;simp only [qo, qb] at hsl;omega
     exact ⟨rfl, ⟨by omega, B2, Bs.flatten ++ C, by simp, hB2, hCs2.1, hCs2.2, hst⟩, by dsimp only; omega⟩
  ·simp only [aB] at hc2
   have hz : Srtd key (Bs.flatten ++ C) := by
    rcases tT Bs with rfl | ⟨X, rfl⟩ | ⟨X, Y, Bs', rfl⟩
    ·simpa using hCs
    ·have h1 := hBs X (by simp);simp only [qo, qx, qt] at hsl ⊢;have hC0 : C = [] := List.length_eq_zero_iff.1 (by omega);subst hC0;simpa using h1.2
    ·exfalso;have h1 := (hBs X (by simp)).1;have h2 := (hBs Y (by simp)).1;simp only [qo, qb] at hsl;omega
   exact ⟨Bs.flatten ++ C, rfl, rfl, hz, hst⟩
theorem zqc (hc : jH T key) (lo hi : Nat) (nl : Bool) (P S R : List Int) (hP : P.length = lo) (hS : hi = lo + S.length) (hr : R32 (P ++ (S ++ R))) (hlen : hi < 1000000000000) :
 ACall qa 81 [.sub 0 lo hi, .fn 82 [.box 1 0]] (jJ nl T (aA (P ++ (S ++ R)))) (jI key nl T P S R) := by
 refine zms _ _ _ _ _ ?_;unfold zee;refine (zqb hc lo hi nl P S R hP hS hr hlen).mono ?_;rintro r h' ⟨S1, rfl, rfl, s1, k1⟩;exact ⟨_, ⟨rfl, rfl⟩, ⟨trivial, ⟨rfl, rfl, by have := k1.len; simp; omega⟩, trivial⟩, S1, rfl, rfl, s1, k1⟩
end
section
variable {Z : World -> (Nat -> Prop) -> (Nat -> Pl) -> Hp -> Prop} {key : Int -> Int} {nl : Bool} {T : PV} {l : Nat}
def YQ (key : Int -> Int) (L : List Int) (f i : Nat) (L' : List Int) : Prop := ∃ S', L' = L.take f ++ (S' ++ L.drop i) /\ Srtd key S' /\ Stab key ((L.take i).drop f) S'
def zU (Z : World -> (Nat -> Prop) -> (Nat -> Pl) -> Hp -> Prop) (key : Int -> Int) (nl : Bool) (T : PV) (l N0 : Nat) : Prop :=
 ∀ (w : World) (I : Nat -> Prop) (G : Nat -> Pl) (L : List Int) (f i : Nat), HRel w I G (aK nl T (aA L)) -> Z w I G (aK nl T (aA L)) -> f + 1 < i -> i <= L.length -> R32 L -> L.length < 1000000000000 -> L.length = N0 ->
  ∃ fn tmps assign body, (Instr.yield l #[.int .i64 f, .int .i64 i]).run qa w = .ok (.round l fn tmps assign body) w /\ RoundIn Fence.wide 0 qa l fn tmps assign body w fun e w' =>
   e = .returned (.bool true) /\ ∃ L' I' G', YQ key L f i L' /\ HRel w' I' G' (aK nl T (aA L')) /\ Keeps w I w' I' /\ Like G G' (aK nl T (aA L)) (aK nl T (aA L')) /\ Z w' I' G' (aK nl T (aA L'))
def o8 (ops : Array Oper) : Oper := ops.toList.getD 8 default
theorem e6a (y : Value) (es : List (List PV)) (i f : Int) (K : Env -> Hp -> Prop) : bR qa (fun _ => none) 39 (bU (dC Try.f94)).toList ((bU (dC Try.f94)).toList.take 8) (eM y i f) (aK nl T es) K =
 K ((35, LV.spec 32 true (.pv (.int .i64 i))) :: (34, LV.spec 32 true (.pv (.int .i64 f))) :: (33, LV.spec 32 true (.pv (.raw y))) :: (32, .pv (.bool (decide (i64.wrap (i - f) > (1 : Int))))) :: (31, .pv (.bool (decide (i64.wrap (i - f) > (1 : Int))))) ::
  (30, .pv (.int .i64 (i64.wrap (i - f)))) :: (29, .pv (.int .i64 f)) :: (28, .pv (.int .i64 i)) :: eM y i f) (aK nl T es) := by kernel_rfl
theorem e6b (y : Value) (es : List (List PV)) (i f : Int) (K : Env -> Hp -> Prop) : bR qa (fun _ => none) 39 (bU (dC Try.f94)).toList ((bU (dC Try.f94)).toList.drop 9) ((36, .pv (.bool true)) :: (32, .pv (.bool true)) :: eM y i f) (aK nl T es) K =
 K ((38, .pv (.bool false)) :: (37, .spec 32 true (.pv (.bool false))) :: (36, .pv (.bool true)) :: (32, .pv (.bool true)) :: eM y i f) (aK nl T es) := by kernel_rfl
theorem e6c (y : Value) (es : List (List PV)) (i f : Int) (K : Env -> Hp -> Prop) : bR qa (fun _ => none) 39 (bU (dC Try.f94)).toList ((bU (dC Try.f94)).toList.drop 9) ((32, .pv (.bool false)) :: eM y i f) (aK nl T es) K =
 K ((38, .pv (.bool false)) :: (37, .pv .unit) :: (32, .pv (.bool false)) :: (32, .pv (.bool false)) :: eM y i f) (aK nl T es) := by kernel_rfl
theorem zqd : dC Try.f94 = .region 6 (bU (dC Try.f94)) false := by kernel_rfl
theorem zqe : (bU (dC Try.f94)).size = 11 /\ jF (bU (dC Try.f94)).toList = true /\ (bU (dC Try.f94)).toList.length = 11 /\ (bU (dC Try.f94))[8]? = some (o8 (bU (dC Try.f94))) /\
 (o8 (bU (dC Try.f94))).dst = some 36 /\ (o8 (bU (dC Try.f94))).guard = some (4, true) /\ (o8 (bU (dC Try.f94))).op = .call { callee := .value (.tmp 33), args := #[.tmp 34, .tmp 35], argTypes := #[3, 3] } /\
 ((bU (dC Try.f94))[4]?).bind (·.dst) = some 32 :=
 ⟨by kernel_rfl, by kernel_rfl, by kernel_rfl, by kernel_rfl, by kernel_rfl, by kernel_rfl, by kernel_rfl, by kernel_rfl⟩
theorem zqf {F : Fence} {n : Nat} {P : Program} {ops : Array Oper} {Q : Exit -> Act -> World -> Prop} {i : Nat} {rest : List Nat} {a : Act} {w : World} {o : Oper} (ho : ops[i]? = some o)
 (h : if Region.wanted o (yielded ops a.tmps) then o.wpIn F n P a w (wpOpsIn F n P ops Q rest) Q else (∀ f, o.about P w a.eval = some f -> F.fn f) /\ wpOpsIn F n P ops Q rest (a.put o.dst undef) w) : wpOpsIn F n P ops Q (i :: rest) a w := by
 simp only [wpOpsIn, ho]; exact h
theorem zqg {w : World} {I : Nat -> Prop} {G : Nat -> Pl} {h : Hp} {tm : Array Value} {s : Nat} {b : Bool} (hr : LRel w I G h (.pv (.bool b)) (tm.getD s undef)) : tm[s]? = some (.bool b) := by
 have := hr.bool_eq;rw [qw] at this;cases hx : tm[s]? with
 | none => rw [hx] at this; simp [undef] at this
 | some v => rw [hx] at this; simpa using this
theorem LRel.raw_eq {w : World} {I : Nat -> Prop} {G : Nat -> Pl} {h : Hp} {v cv : Value} (hr : LRel w I G h (.pv (.raw v)) cv) : cv = v := by cases hr with | pv _ _ h1 => cases h1; rfl
theorem zqh {N0 : Nat} (hY : zU Z key nl T l N0) (hZ : ∀ w I G h w' I' G' h', Z w I G h -> HRel w I G h -> HRel w' I' G' h' -> TrN 5 w I G h w' I' G' h' -> Z w' I' G' h') (L : List Int) (f i : Nat) (hf : f <= i) (hi : i <= L.length) (hr : R32 L) (hL : L.length < 1000000000000) (hN : L.length = N0) :
 CodeZ Z qa 39 (dC Try.f94) (eM (.func (.yield l) #[] #[]) i f) (aK nl T (aA L)) fun x e h => ∃ L', x = .normal /\ (if f + 1 < i then YQ key L f i L' else L' = L) /\ e = (38, .pv (.bool false)) :: eM (.func (.yield l) #[] #[]) i f /\ h = aK nl T (aA L') := by
 intro w I G a Qx hs hz hq;obtain ⟨q1, q2, q3, q4, q5, q6, q7, q8⟩ := zqe;rw [zqd];have ea := e6a (nl := nl) (T := T) (.func (.yield l) #[] #[]) (aA L) i f;have eb := fun es => e6b (nl := nl) (T := T) (.func (.yield l) #[] #[]) es i f;have ec := e6c (nl := nl) (T := T) (.func (.yield l) #[] #[]) (aA L) i f;generalize bU (dC Try.f94) = O at *;generalize o8 O = o at *;have ww : i64.wrap ((i : Int) - f) = (i : Int) - f := aD (by omega) (by omega);rw [ww] at ea;refine wp_mono (Q := fun x a' w' => x = .normal /\ ∃ L' I' G', (if f + 1 < i then YQ key L f i L' else L' = L) /\ SRel w' I' G' ((38, .pv (.bool false)) :: eM (.func (.yield l) #[] #[]) i f) (aK nl T (aA L')) 39 a' /\ a'.defers = a.defers /\ Z w' I' G' (aK nl T (aA L'))) ((wpIn_wide (n := 0)).1 (wpIn_region (F := wd none) ?_)) ?_
 rotate_left
 ·rintro x a' w' ⟨rfl, L', I', G', h1, h2, h3, h4⟩;exact hq .normal _ _ w' I' G' a' ⟨L', rfl, h1, rfl, rfl⟩ h2 h3 h4
 rw [q1, show List.range 11 = qcg 0 8 ++ (8 :: qcg 9 2) from rfl];refine sX ?_;rw [show (8 : Nat) = (O.toList.take 8).length by simp [q3]];have hsuf : ∀ j, j < (O.toList.drop 9).length -> (O.toList.drop 9)[j]? = O[9 + j]? := fun j _ => by rw [qar]; simp
 have hl2 : (O.toList.drop 9).length = 2 := by simp [q3]
 refine wV (ro := none) q2 (fun j hj => ?_) (by rw [ea]; exact ⟨rfl, rfl⟩ : bR qa (fun _ => none) 39 O.toList (O.toList.take 8) _ _ (fun e' h' => e' = _ /\ h' = aK nl T (aA L))) hs (fun a w h => nomatch h.1) ?_
 ·rw [qca, if_pos (by simp only [qi] at hj; omega)]; simp
 rintro _ _ w1 I1 G1 a1 ⟨rfl, rfl⟩ hs1 hd1 ht1;rw [show (O.toList.take 8).length = 8 by simp [q3]];have hz1 := hZ _ _ _ _ _ _ _ _ hz hs.hh hs1.hh ht1.toN;have h32 := zqg (hs1.he 32 _ rfl)
 have hyl : yielded O a1.tmps 4 = some (decide ((i : Int) - f > 1)) := by
  unfold yielded;rw [q8]; simp [h32]
 have hwd : Region.wanted o (yielded O a1.tmps) = decide ((i : Int) - f > 1) := by unfold Region.wanted; rw [q6]; simp [hyl]
 show wpOpsIn (wd none) 0 qa O _ (8 :: qcg 9 2) a1 w1;refine zqf q4 ?_;rw [hwd];have hdst : iK 39 o = true := by unfold iK; rw [q5]; rfl
 by_cases hc : f + 1 < i
 ·have hd' : decide ((i : Int) - f > 1) = true := by simp; omega
  rw [hd'] at hs1 h32 ⊢;rw [if_pos rfl];refine ⟨fun _ _ => trivial, ?_⟩;have h32' : a1.tmps.getD 32 undef = .bool true := (hs1.he 32 _ rfl).bool_eq;have v33 := ((hs1.he 33 _ rfl).1 h32').raw_eq;have v34 := ((hs1.he 34 _ rfl).1 h32').int_eq;have v35 := ((hs1.he 35 _ rfl).1 h32').int_eq;obtain ⟨fn, tmps, assign, body, hy, hR⟩ := hY w1 I1 G1 L f i hs1.hh hz1 hc hi hr hL hN
  have hrun : (o.semAt none a1.eval).run qa w1 = .ok (.round l fn tmps assign body) w1 := by
   rw [Oper.semAt_none];unfold execOp;rw [q7];have e33 : a1.eval (.tmp 33) = .func (.yield l) #[] #[] := v33;have e34 : a1.eval (.tmp 34) = .int .i64 f := v34;have e35 : a1.eval (.tmp 35) = .int .i64 i := v35
   have hres : resolve a1.eval { callee := .value (.tmp 33), args := #[.tmp 34, .tmp 35], argTypes := #[3, 3] } o.type = pure { target := .fn (.yield l) #[], args := #[.int .i64 f, .int .i64 i] } := by
    simp [resolve, e33, e34, e35, Deferred.ofValue]
   simp only [hres, pure_bind];exact hy
  rw [hrun];refine ⟨(fun x => by cases x), hR.mono ?_⟩;rintro e w2 ⟨rfl, L', I2, G2, y1, y2, y3, y4, y5⟩
  have hs2 : SRel w2 I2 G2 ((36, .pv (.bool true)) :: (32, .pv (.bool true)) :: eM (.func (.yield l) #[] #[]) i f) (aK nl T (aA L')) 39 (a1.put o.dst (.bool true)) := by
   have s1 : SRel w1 I1 G1 ((32, .pv (.bool true)) :: eM (.func (.yield l) #[] #[]) i f) (aK nl T (aA L)) 39 a1 := hs1.le (LeE.le ⟨rfl, rfl, rfl, rfl, rfl, rfl, trivial⟩);obtain ⟨p1, p2⟩ := kW (v := .pv (.bool true)) hdst s1.hn y2 (s1.he.mono y3 y4) (.pv _ _ (.bool true));have : put o (.pv (.bool true)) ((32, .pv (.bool true)) :: eM (.func (.yield l) #[] #[]) i f) = (36, .pv (.bool true)) :: (32, .pv (.bool true)) :: eM (.func (.yield l) #[] #[]) i f := by unfold put; rw [q5]; rfl
   rwa [this] at p1
  have := wV (ro := none) (n := 0) (k := 9) q2 hsuf (by rw [eb]; exact ⟨rfl, rfl⟩ : bR qa (fun _ => none) 39 O.toList (O.toList.drop 9) _ _ (fun e' h' => e' = _ /\ h' = aK nl T (aA L'))) hs2 (Q := fun x a' w' => x = .normal /\ ∃ L' I' G', (if f + 1 < i then YQ key L f i L' else L' = L) /\ SRel w' I' G' ((38, .pv (.bool false)) :: eM (.func (.yield l) #[] #[]) i f) (aK nl T (aA L')) 39 a' /\ a'.defers = a.defers /\ Z w' I' G' (aK nl T (aA L'))) (fun a w h => nomatch h.1) (by
   rintro _ _ w3 I3 G3 a3 ⟨rfl, rfl⟩ hs3 hd3 ht3
   refine ⟨rfl, L', I3, G3, by rw [if_pos hc]; exact y1, hs3.le (LeE.le ⟨rfl, rfl, rfl, rfl, rfl, rfl, trivial⟩), hd3.trans ((by unfold Act.put; cases o.dst <;> rfl : (a1.put o.dst (.bool true)).defers = a1.defers).trans hd1), hZ _ _ _ _ _ _ _ _ y5 hs2.hh hs3.hh ht3.toN⟩)
  rw [hl2] at this;exact this
 ·have hd' : decide ((i : Int) - f > 1) = false := by simp; omega
  rw [hd'] at hs1 h32 ⊢;rw [if_neg (by simp)];refine ⟨fun _ _ => trivial, ?_⟩;have hlt : 36 < a1.tmps.size := by rw [hs1.hn]; omega
  have hs2 : SRel w1 I1 G1 ((32, .pv (.bool false)) :: eM (.func (.yield l) #[] #[]) i f) (aK nl T (aA L)) 39 (a1.put o.dst undef) := by
   have s1 : SRel w1 I1 G1 ((32, .pv (.bool false)) :: eM (.func (.yield l) #[] #[]) i f) (aK nl T (aA L)) 39 a1 := hs1.le (LeE.le ⟨rfl, rfl, rfl, rfl, rfl, rfl, trivial⟩);obtain ⟨p1, p2⟩ := kW (v := .bot) (cv := undef) hdst s1.hn s1.hh s1.he (.bot _);have : put o .bot ((32, .pv (.bool false)) :: eM (.func (.yield l) #[] #[]) i f) = (36, .bot) :: (32, .pv (.bool false)) :: eM (.func (.yield l) #[] #[]) i f := by unfold put; rw [q5]; rfl
   rw [this] at p1;exact p1.le (LeE.le ⟨rfl, rfl, rfl, rfl, rfl, rfl, trivial⟩)
  have := wV (ro := none) (n := 0) (k := 9) q2 hsuf (by rw [ec]; exact ⟨rfl, rfl⟩ : bR qa (fun _ => none) 39 O.toList (O.toList.drop 9) _ _ (fun e' h' => e' = _ /\ h' = aK nl T (aA L))) hs2 (Q := fun x a' w' => x = .normal /\ ∃ L' I' G', (if f + 1 < i then YQ key L f i L' else L' = L) /\ SRel w' I' G' ((38, .pv (.bool false)) :: eM (.func (.yield l) #[] #[]) i f) (aK nl T (aA L')) 39 a' /\ a'.defers = a.defers /\ Z w' I' G' (aK nl T (aA L'))) (fun a w h => nomatch h.1) (by
   rintro _ _ w3 I3 G3 a3 ⟨rfl, rfl⟩ hs3 hd3 ht3
   exact ⟨rfl, L, I3, G3, by rw [if_neg hc], hs3.le (LeE.le ⟨rfl, rfl, rfl, rfl, rfl, rfl, trivial⟩), hd3.trans ((by unfold Act.put; cases o.dst <;> rfl : (a1.put o.dst undef).defers = a1.defers).trans hd1), hZ _ _ _ _ _ _ _ _ hz1 hs2.hh hs3.hh ht3.toN⟩)
  rw [hl2] at this;exact this
end
end Go.Eng
namespace Go.Eng.Srt
open Go Go.Eng
section
variable (key : Int -> Int)
def e9 (x y : Int) : Bool := decide (key x ≠ 0) && decide (key x < key y)
def qK (x : Int) : List Int -> List Int
 | [] => [x]
 | y :: r => if e9 key x y = true then y :: qK x r else x :: y :: r
def ins (l : List Int) (x : Int) : List Int := (qK key x l.reverse).reverse
def dD (l : List Int) : List Int := l.foldl (ins key) []
inductive Eqv : List Int -> List Int -> Prop
 | refl (a : List Int) : Eqv a a
 | swap (u v w : List Int) (x y : Int) (hx : key x ≠ 0) (hy : key y ≠ 0) (hxy : key x ≠ key y) (h : Eqv (u ++ y :: x :: v) w) : Eqv (u ++ x :: y :: v) w
def bY : List Int -> Prop
 | x :: y :: r => (key y ≠ 0 -> key x <= key y) /\ bY (y :: r)
 | _ => True
end
variable {key : Int -> Int}
theorem qL {x y : Int} : e9 key x y = true ↔ key x ≠ 0 /\ key x < key y := by simp [e9]
theorem zha {x y : Int} : e9 key x y = false ↔ key x = 0 ∨ key y <= key x := by
 simp only [e9, Bool.and_eq_false_imp, aB, dA];constructor
 ·intro h; by_cases h0 : key x = 0
  ·exact .inl h0
  ·exact .inr (by have := h h0; omega)
 ·rintro (h | h) h0
  ·exact absurd h h0
  ·omega
theorem zhb {x : Int} : ∀ {B A : List Int}, (∀ y ∈ B, e9 key x y = true) -> (A = [] ∨ ∃ z A', A = z :: A' /\ e9 key x z = false) -> qK key x (B ++ A) = B ++ x :: A
 | [], A, _, h => by
   rcases h with rfl | ⟨z, A', rfl, h⟩
   ·rfl
   ·simp [qK, h]
 | y :: B, A, hB, h => by
   rw [qm, qK, if_pos (hB y qp), zhb (fun z hz => hB z (qz _ hz)) h]; rfl
theorem nS {x : Int} {A B : List Int} (h1 : ∀ y ∈ B, e9 key x y = true) (h2 : A = [] ∨ ∃ A' z, A = A' ++ [z] /\ e9 key x z = false) : ins key (A ++ B) x = A ++ x :: B := by
 unfold ins;rw [qbx, zhb (fun y hy => h1 y (List.mem_reverse.1 hy)) (h2.elim (fun e => .inl (by rw [e]; rfl)) fun ⟨A', z, e, h⟩ => .inr ⟨z, A'.reverse, by rw [e]; simp, h⟩)];simp
theorem zV (l : List Int) (x : Int) : ∃ A B, l = A ++ B /\ (∀ y ∈ B, e9 key x y = true) /\ (A = [] ∨ ∃ A' z, A = A' ++ [z] /\ e9 key x z = false) := by
 have : ∀ r : List Int, ∃ B A, r = B ++ A /\ (∀ y ∈ B, e9 key x y = true) /\ (A = [] ∨ ∃ z A', A = z :: A' /\ e9 key x z = false) := by
  intro r
  induction r with
  | nil => exact ⟨[], [], rfl, (fun y hy => by cases hy), .inl rfl⟩
  | cons y r ih =>
    cases hp : e9 key x y with
    | true =>
      obtain ⟨B, A, e, h1, h2⟩ := ih;exact ⟨y :: B, A, by rw [e]; rfl, fun z hz => by rcases List.mem_cons.1 hz with rfl | hz; exact hp; exact h1 z hz, h2⟩
    | false => exact ⟨[], y :: r, rfl, (fun y hy => by cases hy), .inr ⟨y, r, rfl, hp⟩⟩
 obtain ⟨B, A, e, h1, h2⟩ := this l.reverse;refine ⟨A.reverse, B.reverse, by rw [<- qbx, <- e]; simp, fun y hy => h1 y (List.mem_reverse.1 hy), h2.elim (fun e => .inl (by rw [e]; rfl)) fun ⟨z, A', e, h⟩ => .inr ⟨A'.reverse, z, by rw [e]; simp, h⟩⟩
theorem zhc {l : List Int} {x y : Int} (hx : key x ≠ 0) (hxy : key x < key y) : ins key (ins key l y) x = ins key (ins key l x) y := by
 obtain ⟨B1, B2, rfl, b1, b2⟩ := zV (key := key) l y;obtain ⟨C1, C2, rfl, c1, c2⟩ := zV (key := key) B1 x;have px : ∀ z ∈ B2, e9 key x z = true := fun z hz => qL.2 ⟨hx, by have := (qL.1 (b1 z hz)).2; omega⟩;rw [nS b1 b2];have e1 : C1 ++ C2 ++ y :: B2 = C1 ++ (C2 ++ y :: B2) := by simp
 have e2 : C1 ++ C2 ++ B2 = C1 ++ (C2 ++ B2) := by simp
 rw [e1, nS (B := C2 ++ y :: B2) (fun z hz => ?_) c2, e2, nS (B := C2 ++ B2) (fun z hz => ?_) c2]
 ·have e3 : C1 ++ x :: (C2 ++ B2) = (C1 ++ x :: C2) ++ B2 := by simp
  rw [e3, nS b1 (.inr ?_)]
  ·simp
  ·rcases C2.eq_nil_or_concat with rfl | ⟨D, z, rfl⟩
   ·exact ⟨C1, x, rfl, zha.2 (.inr (by omega))⟩
   ·refine ⟨C1 ++ x :: D, z, by simp, ?_⟩;rcases b2 with e | ⟨A', z', e, h⟩
    ·simp at e
    ·have : z = z' := by
      have := congrArg List.getLast? e;simp at this; exact this
     rw [this]; exact h
 ·rcases List.mem_append.1 hz with hz | hz
  ·exact c1 z hz
  ·exact px z hz
 ·rcases List.mem_append.1 hz with hz | hz
  ·exact c1 z hz
  ·rcases List.mem_cons.1 hz with rfl | hz
   ·exact qL.2 ⟨hx, hxy⟩
   ·exact px z hz
theorem zqi {l : List Int} {x y : Int} (hx : key x ≠ 0) (hy : key y ≠ 0) (hxy : key x ≠ key y) : ins key (ins key l x) y = ins key (ins key l y) x := by
 rcases Int.lt_or_gt_of_ne hxy with h | h
 ·exact (zhc hx h).symm
 ·exact zhc hy h
theorem zhd (l : List Int) (x : Int) : dD key (l ++ [x]) = ins key (dD key l) x := by simp [dD]
theorem Eqv.trans {a b c : List Int} (h : Eqv key a b) (k : Eqv key b c) : Eqv key a c := by
 induction h with
 | refl a => exact k
 | swap u v w x y hx hy hxy h ih => exact .swap u v c x y hx hy hxy (ih k)
theorem Eqv.app {a b : List Int} (h : Eqv key a b) (p q : List Int) : Eqv key (p ++ (a ++ q)) (p ++ (b ++ q)) := by
 induction h with
 | refl a => exact .refl _
 | swap u v w x y hx hy hxy h ih =>
   have := Eqv.swap (p ++ u) (v ++ q) _ x y hx hy hxy (by simpa using ih)
   simpa using this
theorem Eqv.symm {a b : List Int} (h : Eqv key a b) : Eqv key b a := by
 induction h with
 | refl a => exact .refl _
 | swap u v w x y hx hy hxy h ih => exact ih.trans (.swap u v _ y x hy hx (Ne.symm hxy) (.refl _))
theorem zqj {a b : List Int} (h : Eqv key a b) : dD key a = dD key b := by
 induction h with
 | refl a => rfl
 | swap u v w x y hx hy hxy h ih =>
   rw [<- ih];simp only [dD, qce, qcm];rw [zqi hx hy hxy]
theorem Eqv.len {a b : List Int} (h : Eqv key a b) : a.length = b.length := by
 induction h with
 | refl a => rfl
 | swap u v w x y hx hy hxy h ih => rw [<- ih]; simp
theorem Eqv.mem {a b : List Int} (h : Eqv key a b) {z : Int} : z ∈ a ↔ z ∈ b := by
 induction h with
 | refl a => exact Iff.rfl
 | swap u v w x y hx hy hxy h ih => rw [<- ih]; simp only [qae, qal]; exact or_congr_right ⟨fun h => h.elim (fun e => .inr (.inl e)) (fun h => h.elim .inl fun h => .inr (.inr h)), fun h => h.elim (fun e => .inr (.inl e)) (fun h => h.elim .inl fun h => .inr (.inr h))⟩
theorem Eqv.ahead {x : Int} (hx : key x ≠ 0) : ∀ {B : List Int} (q : List Int), (∀ y ∈ B, key y ≠ 0 /\ key y ≠ key x) -> Eqv key (B ++ x :: q) (x :: (B ++ q))
 | [], q, _ => .refl _
 | y :: B, q, h => by
   have h1 := Eqv.ahead hx (B := B) q fun z hz => h z (qz _ hz);have h2 := h1.app [y] [];simp only [qt, qm, qv] at h2;obtain ⟨hy, hyx⟩ := h y qp;exact h2.trans (.swap [] (B ++ q) _ y x hy hx hyx (.refl _))
theorem zqk (hk : ∀ x, 0 <= key x) (l : List Int) (x : Int) : Eqv key (l ++ [x]) (ins key l x) := by
 obtain ⟨A, B, rfl, h1, h2⟩ := zV (key := key) l x;rw [nS h1 h2];by_cases hB : B = []
 ·subst hB; simp; exact .refl _
 ·obtain ⟨y, hy⟩ := qbp B hB;have hx := (qL.1 (h1 y hy)).1;have := (Eqv.ahead hx (B := B) [] fun z hz => by have := (qL.1 (h1 z hz)).2; have := hk x; omega).app A [];simpa using this
theorem iS {p : List Int -> Prop} (h0 : p []) (h1 : ∀ l x, p l -> p (l ++ [x])) (l : List Int) : p l := by
 have : ∀ r : List Int, p r.reverse := by
  intro r
  induction r with
  | nil => exact h0
  | cons x r ih => rw [qcf]; exact h1 _ _ ih
 have := this l.reverse;rwa [qbw] at this
theorem tU (hk : ∀ x, 0 <= key x) (l : List Int) : Eqv key l (dD key l) := by
 induction l using iS with
 | h0 => exact .refl _
 | h1 l x ih =>
   rw [zhd];have := ih.app [] [x];exact Eqv.trans (by simpa using this) (zqk hk _ x)
theorem mJ : ∀ {A B : List Int}, bY key (A ++ B) ↔ bY key A /\ bY key B /\ (∀ z x, A.getLast? = some z -> B.head? = some x -> key x ≠ 0 -> key z <= key x)
 | [], B => by simp [bY]
 | [a], [] => by simp [bY]
 | [a], b :: B => by simp [bY, and_comm]
 | a :: c :: A, B => by
   have := mJ (A := c :: A) (B := B);simp only [qm, bY] at this ⊢;rw [this, List.getLast?_cons_cons, and_assoc]
theorem zql {l : List Int} (h : bY key l) : dD key l = l := by
 revert h
 induction l using iS with
 | h0 => exact fun _ => rfl
 | h1 l x ih =>
   intro h;obtain ⟨q1, q2, q3⟩ := mJ.1 h;rw [zhd, ih q1]
   have := nS (key := key) (x := x) (A := l) (B := []) (fun y hy => by cases hy) (by
    rcases l.eq_nil_or_concat with rfl | ⟨D, z, rfl⟩
    ·exact .inl rfl
    ·refine .inr ⟨D, z, by simp, zha.2 ?_⟩;by_cases hx : key x = 0
     ·exact .inl hx
     ·exact .inr (q3 z x (by simp) rfl hx))
   simpa using this
theorem zhe : ∀ {S' S : List Int}, Stab key S S' -> (∀ x ∈ S, key x ≠ 0) -> Eqv key S S'
 | [], S, h, _ => by have := h.len; cases S with | nil => exact .refl _ | cons => simp at this
 | y :: r, S, h, h0 => by
   have hf := h.2 (key y);rw [qaf, if_pos (by simp)] at hf;obtain ⟨A, B, rfl, hA, hB⟩ := List.filter_eq_cons_iff.1 hf;have hy : key y ≠ 0 := h0 y (by simp);have hA' : ∀ z ∈ A, key z ≠ key y := fun z hz => by have := hA z hz; simpa using this
   have e1 := Eqv.ahead hy (B := A) B fun z hz => ⟨h0 z (by simp [hz]), hA' z hz⟩
   have hs : Stab key (A ++ B) r := by
    refine ⟨(qcn y).1 ((List.perm_middle.symm).trans h.1), fun c => ?_⟩;have := h.2 c;rw [qah, qaf, qaf] at this;rw [qah];by_cases hc : key y = c
    ·have hn : A.filter (fun x => decide (key x = c)) = [] := List.filter_eq_nil_iff.2 fun z hz => by simp only [aB]; intro e; exact hA' z hz (e.trans hc.symm)
     rw [hn] at this ⊢;simp only [hc, decide_true, if_true, qv, List.cons.injEq, true_and] at this;exact this
    ·simp only [hc, decide_false, qbl, if_false] at this;exact this
   have e2 := (zhe hs fun z hz => h0 z (by rcases List.mem_append.1 hz with hz | hz <;> simp [hz])).app [y] [];simp only [qt, qm, qv] at e2;exact e1.trans e2
theorem zhf : ∀ {S : List Int}, Srtd key S -> bY key S
 | [], _ => trivial
 | [a], _ => trivial
 | a :: b :: S, h => ⟨fun _ => (List.pairwise_cons.1 h).1 b qp, zhf (List.pairwise_cons.1 h).2⟩
theorem tV (L : List Int) {i j : Nat} (hij : i <= j) (hj : j <= L.length) : L = L.take i ++ ((L.take j).drop i ++ L.drop j) /\ (L.take i).length = i /\ ((L.take j).drop i).length = j - i := by
 refine ⟨?_, by rw [qi]; omega, by rw [qag, qi]; omega⟩;have h1 : L = L.take j ++ L.drop j := (qk j L).symm;have h2 : L.take j = (L.take j).take i ++ (L.take j).drop i := (qk i _).symm;rw [qco, Nat.min_eq_left hij] at h2;rw [<- qf, <- h2]; exact h1
theorem zqm (hk : ∀ x, 0 <= key x) {L : List Int} {i j : Nat} (hij : i <= j) (hj : j <= L.length) (hb : i = 0 ∨ key (L.getD (i - 1) 0) = 0) (hnz : ∀ k, i <= k -> k < j -> key (L.getD k 0) ≠ 0) (hend : j = L.length ∨ key (L.getD j 0) = 0)
 (hc : bY key (L.take i)) {S' : List Int} (hs : Srtd key S') (hst : Stab key ((L.take j).drop i) S') :
 Eqv key L (L.take i ++ (S' ++ L.drop j)) /\ bY key ((L.take i ++ (S' ++ L.drop j)).take (j + 1)) /\ (j < L.length -> key ((L.take i ++ (S' ++ L.drop j)).getD j 0) = 0) := by
 obtain ⟨c1, c2, c3⟩ := tV L hij hj;have hl : S'.length = j - i := by rw [<- hst.len]; exact c3
 refine ⟨?_, ?_, fun hlt => ?_⟩
 ·have hm : ∀ x ∈ (L.take j).drop i, key x ≠ 0 := fun x hx => by
   obtain ⟨k, hk1, hk2⟩ := qbj hx;have := hnz (i + k) (by omega) (by omega);rw [List.getElem_drop, qcd] at hk2;have hl2 : i + k < L.length := by omega
   simp only [qac, qao hl2, qci, hk2] at this;exact this
  have := (zhe hst hm).app (L.take i) (L.drop j);rwa [<- c1] at this
 ·rw [qcj, c2, qc (by omega), qcj, hl, qc (by omega : S'.length <= j + 1 - i), show j + 1 - i - (j - i) = 1 by omega]
  have hR : ∀ x, ((L.drop j).take 1).head? = some x -> key x = 0 := fun x hx => by
   rcases hend with e | e
   ·rw [qbs (by omega)] at hx; cases hx
   ·rcases qaz j L.length with h' | h'
    ·rw [qad h'] at hx;simp only [List.take_succ_cons, List.head?_cons, Option.some.injEq] at hx;rw [<- hx];simpa [qac, qao h'] using e
    ·rw [qbs h'] at hx; cases hx
  refine mJ.2 ⟨hc, mJ.2 ⟨zhf hs, ?_, fun z x _ hx h0 => absurd (hR x hx) h0⟩, fun z x hz hx h0 => ?_⟩
  ·cases L.drop j with
   | nil => trivial
   | cons a r => trivial
  ·have : key z = 0 := by
    rcases hb with rfl | hb
    ·simp at hz
    ·rw [List.getLast?_eq_getElem?, c2] at hz;by_cases h0 : i = 0
     ·subst h0; simp at hz
     ·rw [qca, if_pos (by omega)] at hz;simpa [qac, hz] using hb
   rw [this]; exact hk x
 ·rcases hend with e | e
  ·omega
  ·rw [<- qf];simp only [qac] at e ⊢;rw [qn (by simp only [qb]; omega), qb, c2, hl, qar, show j + (j - (i + (j - i))) = j by omega];exact e
theorem zqn {S : List Int} (h : S.length <= 1) : Srtd key S := by
 match S, h with
 | [], _ => exact List.Pairwise.nil
 | [a], _ => exact qbq _ _
end Go.Eng.Srt
namespace Go.Eng
open Go Go.Proofs Go.Eng.Rows Go.Eng.Srt
section
variable {Z : World -> (Nat -> Prop) -> (Nat -> Pl) -> Hp -> Prop} {key : Int -> Int} {nl : Bool} {T : PV} {l : Nat} {y : Value} {es : List (List PV)}
theorem eI0 (Q : Qt) : cY qa (fun _ => none) 5 39 lM (fun _ => none) (dG (cM Try.f94)) (fH [.pv (.raw y), .box 4 0, .box 3 0] 0) (aK nl T es) Q = Q .normal (eN y 0) (aK nl T es) := by kernel_rfl
theorem eI1 (i : Int) (Q : Qt) : cY qa (fun _ => none) 5 39 lM (fun _ => none) (dG (cL Try.f94)) (eN y i) (aK nl T es) Q =
 if decide (i < (es.length : Int)) = true then Q .normal [(0, .pv (.raw y)), (1, .box 4 0), (2, .box 3 0), (4, .pv (.int .i64 i)), (9, .pv (.bool (decide (i < (es.length : Int)))))] (aK nl T es)
 else Q (.exit 0) [(0, .pv (.raw y)), (1, .box 4 0), (2, .box 3 0), (4, .pv (.int .i64 i)), (9, .pv (.bool (decide (i < (es.length : Int)))))] (aK nl T es) := by kernel_rfl
theorem eI3 (i : Int) (Q : Qt) : cY qa (fun _ => none) 5 39 lM (fun _ => none) (dG (cB Try.f94)) (eN y i) (aK nl T es) Q = Q .normal (eM y i i) (aK nl T es) := by kernel_rfl
theorem eI2 (i : Int) (Q : Qt) : cY qa (fun _ => none) 5 39 lM (fun _ => none) (cH (cH (cL Try.f94))) (eN y i) (aK nl T es) Q = Q .normal (eN y (i64.wrap (i + 1))) (aK nl T es) := by kernel_rfl
def zW (y : Value) (i f : Int) (b : Bool) : Env := [(0, .pv (.raw y)), (1, .box 4 0), (2, .box 3 0), (4, .pv (.int .i64 i)), (5, .pv (.int .i64 f)), (25, .pv (.bool b))]
theorem eI4 (i f : Int) (J : Int -> Prop) (μ : Int -> Nat) (Q : Qt) : cY qa (fun _ => none) 5 39 lM (fun zz_ => match zz_ with | 4 => some ⟨Int × Unit, fun s => (eM y s.1 f, aK nl T es), fun _ s => J s.1, fun s => μ s.1, fun e h => (gI e 4, ()), [], [0, 1, 2, 4, 5], [], fun p => ∀ (x4 : Int), p (x4, ()), fun p h s => h s.1⟩ | _ => none) (dG (cH (cB Try.f94))) (eM y i f) (aK nl T es) Q =
 ((SameSt (eM y i f, aK nl T es) (eM y i f, aK nl T es) /\ J i) /\ ∀ (x4 : Int), J x4 -> if decide (x4 < (es.length : Int)) = true then aR es x4 1 /\ ∃ (n : Int), (qh 0 (es.getD x4.toNat [])).head? = some (.int .i32 n) /\ PCall qa 56 [T, .int .i32 n] fun (v : PV) => ∃ (n1 : Int), v = .int .i64 n1 /\
  if (n1 != (0 : Int)) = true then SameSt (eM y (i64.wrap (x4 + 1)) f, aK nl T es) (eM y (i64.wrap (x4 + 1)) f, aK nl T es) /\ J (i64.wrap (x4 + 1)) /\ μ (i64.wrap (x4 + 1)) < μ x4
  else Q .normal (zW y x4 f (n1 != (0 : Int))) (aK nl T es)
   else Q .normal (zW y x4 f false) (aK nl T es)) := by kernel_rfl
theorem zX : cM Try.f94 = .seq (dG (cM Try.f94)) (.block 0 (.loop (cL Try.f94))) /\
 cL Try.f94 = .seq (dG (cL Try.f94)) (.seq (.block 1 (cB Try.f94)) (cH (cH (cL Try.f94)))) /\
 cB Try.f94 = .seq (dG (cB Try.f94)) (.seq (dG (cH (cB Try.f94))) (.seq (dC Try.f94) (.cond (.tmp 38) .ret .skip))) := ⟨by kernel_rfl, by kernel_rfl, by kernel_rfl⟩
theorem CodeZ.le {P : Program} {N : Nat} {c : Code} {e e' : Env} {h : Hp} {Q : Qt} (hl : LeE e' e) (hK : CodeZ Z P N c e' h Q) : CodeZ Z P N c e h Q :=
 fun w I G a Qx hs hz hq => hK w I G a Qx (hs.le hl.le) hz hq
theorem zqo (hk : ∀ x, 0 <= key x) (hT : ∀ r : Int, (-2147483648 <= r /\ r <= 2147483647) -> PCall qa 56 [T, .int .i32 r] fun v => v = .int .i64 (key r)) 
 (hZ : ∀ w I G h w' I' G' h', Z w I G h -> HRel w I G h -> HRel w' I' G' h' -> TrN 5 w I G h w' I' G' h' -> Z w' I' G' h') (L0 : List Int) (hY : zU Z key nl T l L0.length) (hr : R32 L0) (hL : L0.length < 1000000000000) :
 CodeZ Z qa 39 (cM Try.f94) (fH [.pv (.raw (.func (.yield l) #[] #[])), .box 4 0, .box 3 0] 0) (aK nl T (aA L0)) fun x e h => x = .normal /\ h = aK nl T (aA (dD key L0)) := by
 obtain ⟨y, hy⟩ : ∃ y : Value, y = .func (.yield l) #[] #[] := ⟨_, rfl⟩;rw [zX.1, <- hy];refine CodeZ.seq (CodeZ.of (n0 := 5) hZ (gV (Eq.mpr (eI0 _) ?_)));show CodeZ Z qa 39 (.block 0 (.loop (cL Try.f94))) (eN y 0) (aK nl T (aA L0)) _;refine CodeZ.block (CodeZ.loop (σ := Nat × List Int) (fun s => (eN y s.1, aK nl T (aA s.2))) (fun s => s.1 <= L0.length + 1 /\ Eqv key L0 s.2 /\ bY key (s.2.take s.1) /\ (s.1 = 0 ∨ L0.length < s.1 ∨ key (s.2.getD (s.1 - 1) 0) = 0)) (fun s => L0.length + 1 - s.1) (0, L0) (LeE.le ⟨rfl, rfl, rfl, rfl, trivial⟩) rfl ⟨by omega, .refl _, by simp [bY], .inl rfl⟩ ?_);rintro ⟨i, L⟩ ⟨hi, hq, hc, hb⟩;have hlen := hq.len;have hr' : R32 L := fun x hx => hr x (hq.mem.2 hx);dsimp only at hi hq hc hb hlen ⊢;rw [zX.2.1];refine CodeZ.seq (CodeZ.of (n0 := 5) hZ (gV (Eq.mpr (eI1 _ _) ?_)));by_cases hlt : i < L.length
 ·rw [if_pos (by simpa using hlt)]
  show CodeZ Z qa 39 (.seq (.block 1 (cB Try.f94)) (cH (cH (cL Try.f94)))) _ _ _;refine CodeZ.le (e' := eN y i) ⟨rfl, rfl, rfl, rfl, trivial⟩ (CodeZ.seq (CodeZ.block ?_));rw [zX.2.2];refine CodeZ.seq (CodeZ.of (n0 := 5) hZ (gV (Eq.mpr (eI3 _ _) ?_)));show CodeZ Z qa 39 (.seq (dG (cH (cB Try.f94))) (.seq (dC Try.f94) (.cond (.tmp 38) .ret .skip))) (eM y i i) _ _;refine CodeZ.seq (CodeZ.of (n0 := 5) hZ (gV (Eq.mpr (eI4 _ _ (fun x => ∃ j : Nat, x = j /\ i <= j /\ j <= L.length /\ ∀ k, i <= k -> k < j -> key (L.getD k 0) ≠ 0) (fun x => ((L.length : Int) - x).toNat) _) ?_)));refine ⟨⟨rfl, i, rfl, qu _, by omega, fun k h1 h2 => by omega⟩, ?_⟩;rintro _ ⟨j, rfl, hij, hj, hnz⟩
  -- what follows the row of marks
  have rest : ∀ b, (j = L.length ∨ key (L.getD j 0) = 0) -> CodeZ Z qa 39 (.seq (dC Try.f94) (.cond (.tmp 38) .ret .skip)) (zW y j i b) (aK nl T (aA L)) fun x e h => match x with
   | .normal => CodeZ Z qa 39 (cH (cH (cL Try.f94))) e h fun x e h => match x with
     | .normal => ∃ s' : Nat × List Int, (∀ i v, get (eN y s'.1) i = some v -> get e i = some v) /\ h = aK nl T (aA s'.2) /\ (s'.1 <= L0.length + 1 /\ Eqv key L0 s'.2 /\ bY key (s'.2.take s'.1) /\ (s'.1 = 0 ∨ L0.length < s'.1 ∨ key (s'.2.getD (s'.1 - 1) 0) = 0)) /\ L0.length + 1 - s'.1 < L0.length + 1 - i
     | _ => False
   | _ => False := fun b hend => by
   refine CodeZ.le (e' := eM y j i) ⟨rfl, rfl, rfl, rfl, rfl, trivial⟩ (CodeZ.seq ?_);rw [hy];refine (zqh hY hZ L i j hij hj hr' (by omega) hlen.symm).mono ?_;rintro _ _ _ ⟨L', rfl, hL', rfl, rfl⟩;refine CodeZ.cond (t := false) rfl ?_;simp only [qbl, if_false];refine CodeZ.skip ?_;rw [<- hy];refine CodeZ.le (e' := eN y j) ⟨rfl, rfl, rfl, rfl, trivial⟩ (CodeZ.of (n0 := 5) hZ (gV (Eq.mpr (eI2 _ _) ?_)));have wj : i64.wrap ((j : Int) + 1) = ((j + 1 : Nat) : Int) := by rw [aD (by omega) (by omega)]; omega
   rw [wj]
   have hb' : i = 0 ∨ key (L.getD (i - 1) 0) = 0 := by
    rcases hb with h | h | h
    ·exact .inl h
    ·omega
    ·exact .inr h
   obtain ⟨S', hs, hst, rfl⟩ : ∃ S', Srtd key S' /\ Stab key ((L.take j).drop i) S' /\ L' = L.take i ++ (S' ++ L.drop j) := by
    by_cases h1 : i + 1 < j
    ·rw [if_pos h1] at hL';obtain ⟨S', e, h2, h3⟩ := hL';exact ⟨S', h2, h3, e⟩
    ·rw [if_neg h1] at hL';obtain ⟨c1, c2, c3⟩ := tV L hij hj;exact ⟨_, zqn (by omega), Stab.refl _, hL'.trans c1⟩
   obtain ⟨g1, g2, g3⟩ := zqm hk hij hj hb' hnz hend hc hs hst;refine ⟨(j + 1, _), LeE.le ⟨rfl, rfl, rfl, rfl, trivial⟩, rfl, ⟨by dsimp only; omega, hq.trans g1, g2, ?_⟩, by dsimp only; omega⟩;rcases qaz j L.length with h | h
   ·exact .inr (.inr (g3 h))
   ·exact .inr (.inl (by dsimp only; omega))
  by_cases hjl : j < L.length
  ·rw [if_pos (by simpa using hjl)]
   refine ⟨cD (enc := fun n => [PV.int .i32 n]) (l := L) (fun _ => rfl) (by omega) (by omega), L.getD j 0, by rw [qat, zma hjl]; rfl, (hT _ (hr' _ (qbu (qI hjl)))).mono ?_⟩;rintro _ rfl;refine ⟨_, rfl, ?_⟩;by_cases hz : key (L.getD j 0) = 0
   ·rw [if_neg (by simpa using hz)]
    exact (rest _ (.inr hz)).mono fun x e h hx => by cases x <;> first | exact hx.elim | exact CodeZ.mono hx fun x e h hx => (by cases x <;> first | exact hx | exact hx.elim)
   ·rw [if_pos (by simpa using hz)]
    have wj : i64.wrap ((j : Int) + 1) = ((j + 1 : Nat) : Int) := by rw [aD (by omega) (by omega)]; omega
    rw [wj];refine ⟨rfl, ⟨j + 1, rfl, by omega, hjl, fun k h1 h2 => ?_⟩, by omega⟩;rcases qaz k j with h | h
    ·exact hnz k h1 h
    ·have : k = j := by omega
     subst this; exact hz
  ·rw [if_neg (by simpa using hjl)]
   exact (rest _ (.inl (by omega))).mono fun x e h hx => by cases x <;> first | exact hx.elim | exact CodeZ.mono hx fun x e h hx => (by cases x <;> first | exact hx | exact hx.elim)
 ·rw [if_neg (by simpa using hlt)]
  refine ⟨rfl, ?_⟩;rw [qc (by omega)] at hc;rw [zqj hq, zql hc]
end
section
variable {w w' : World} {I I' : Nat -> Prop} {G G' : Nat -> Pl} {h h' : Hp}
theorem HRel.off (hh : HRel w I G h) {l : Nat} (o : Obj) (hI : ¬ I l) (ho : ¬ aU h G l) : HRel (w.putObj l o) I G h := by
 have hw : ∀ b, b ≠ l -> (w.putObj l o).heap[b]? = w.heap[b]? := fun b hb => World.putObj_heap_other hb;have hk : Keeps w I (w.putObj l o) I := ⟨fun b hb _ => hw b fun e => hI (e ▸ hb), fun b hb _ => hb⟩;have blk : ∀ (i : Nat) x, h[i]? = some x -> x.alive (G i) -> (G i).blk ≠ l := fun i x hx ha e => ho ⟨i, x, hx, ha, e⟩;refine ⟨fun i x hx => ?_, hh.sep, hh.nI, fun b hb => by rw [World.putObj_size]; exact hh.cl b hb⟩;have := hh.obs i x hx;cases x with
 | dead => trivial
 | box cs => obtain ⟨vs, ty, e1, e2, e3⟩ := this; exact ⟨vs, ty, by rw [hw _ (blk i _ hx trivial)]; exact e1, e2, fun k v hv => ⟨(e3 k v hv).1.mono hk (.refl _ _), (e3 k v hv).2⟩⟩
 | arr cs => obtain ⟨vs, ty, e1, e2, e3⟩ := this; exact ⟨vs, ty, by rw [hw _ (blk i _ hx trivial)]; exact e1, e2, fun k v hv => ⟨(e3 k v hv).1.mono hk.1 hk.2, (e3 k v hv).2⟩⟩
 | sl ty m n es =>
   cases n with
   | true => exact this
   | false =>
     obtain ⟨e1, e2, e3, e3', e4, e5⟩ := this;refine ⟨e1, e2, e3, e3', e4, fun hc => ?_⟩;obtain ⟨vs, f1, f2, f3⟩ := e5 hc;exact ⟨vs, by rw [hw _ (blk i _ hx ⟨rfl, hc⟩)]; exact f1, f2, fun i' e he k v hv => ⟨(f3 i' e he k v hv).1.mono hk.1 hk.2, (f3 i' e he k v hv).2⟩⟩
 | mp kvs => obtain ⟨es, ck, e1, e2, e3⟩ := this; exact ⟨es, ck, by rw [hw _ (blk i _ hx trivial)]; exact e1, e2, fun k kv hv => ⟨(e3 k kv hv).1.mono hk.1 hk.2, (e3 k kv hv).2.mono hk.1 hk.2⟩⟩
 | iter ty rem cur => exact IterRel.mono this (hw _ (blk i _ hx trivial)) hk
theorem kK (hh : HRel w I G h) {b : Nat} {o : Obj} (ho : w.heap[b]? = some o) (hn : (match o with | .cells .. => true | .map .. => true | .mapIter .. => true | _ => false) = false) : ¬ aU h G b := by
 rintro ⟨i, ob, hi, ha, rfl⟩;have := hh.obs i ob hi;cases ob with
 | dead => exact ha
 | box cs => obtain ⟨vs, ty, e1, _⟩ := this; rw [ho] at e1; cases e1; cases hn
 | arr cs => obtain ⟨vs, ty, e1, _⟩ := this; rw [ho] at e1; cases e1; cases hn
 | sl ty m n es =>
   cases n with
   | true => exact absurd ha.1 (by simp)
   | false => obtain ⟨vs, e1, _⟩ := this.2.2.2.2.2 ha.2; rw [ho] at e1; cases e1; cases hn
 | mp kvs => obtain ⟨es, ck, e1, _⟩ := this; rw [ho] at e1; cases e1; cases hn
 | iter ty rem cur => obtain ⟨_, _, _, _, _, _, e1, _⟩ := this; rw [ho] at e1; cases e1; cases hn
theorem Tr.off {own own' : Nat -> Prop} (t : Tr w I own w' I' own') {l : Nat} (hl : w.heap.size <= l) (o : Obj) : Tr w I own (w'.putObj l o) I' own' :=
 ⟨t.os, t.tape, t.output, by rw [World.putObj_size]; exact t.size, fun b hb hn => (World.putObj_heap_other (by omega)).trans (t.keep b hb hn), t.i1, t.i2, t.own2,
  fun a ha => (World.frozen?_of_block (World.putObj_heap_other (by omega))).trans (t.frz a ha), t.drawn⟩
theorem TrN.off {n0 : Nat} (t : TrN n0 w I G h w' I' G' h') {l : Nat} (hl : w.heap.size <= l) (o : Obj) : TrN n0 w I G h (w'.putObj l o) I' G' h' := ⟨t.t.off hl o, t.len, t.stay⟩
theorem qM (hh : HRel w I G h) (t : Tr w I (aU h G) w' I' (aU h' G')) : Keeps w I w' I' :=
 ⟨fun b hb hlt => t.keep b hlt fun ⟨o, ob, h1, h2, e⟩ => hh.nI o ob h1 h2 (e ▸ hb), fun b hb _ => t.i1 b hb⟩
theorem Keeps.trans {w1 w2 : World} {I1 I2 : Nat -> Prop} (h : Keeps w I w1 I1) (hs : w.heap.size <= w1.heap.size) (k : Keeps w1 I1 w2 I2) : Keeps w I w2 I2 :=
 ⟨fun b hb hlt => (k.1 b (h.2 b hb hlt) (qcb hlt hs)).trans (h.1 b hb hlt), fun b hb hlt => k.2 b (h.2 b hb hlt) (qcb hlt hs)⟩
theorem Keeps.off {l : Nat} (hI : ¬ I l) (o : Obj) : Keeps w I (w.putObj l o) I := ⟨fun b hb _ => World.putObj_heap_other fun e => hI (e ▸ hb), fun b hb _ => hb⟩
structure ZR (W0 : World) (I0 : Nat -> Prop) (G0 : Nat -> Pl) (h0 : Hp) (l D : Nat) (rec : Loop) (W : World) (I : Nat -> Prop) (G : Nat -> Pl) (h : Hp) : Prop where
 t : TrN 5 W0 I0 G0 h0 W I G h
 hl : W.heap[l]? = some (.loop rec)
 hD : W.heap[D]? = some (.deferred (some []))
 nl : ¬ I l
 nD : ¬ I D
theorem ZR.step {W0 : World} {I0 : Nat -> Prop} {G0 : Nat -> Pl} {h0 : Hp} {l D : Nat} {rec : Loop} (z : ZR W0 I0 G0 h0 l D rec w I G h) (hh : HRel w I G h) (t : TrN 5 w I G h w' I' G' h') : ZR W0 I0 G0 h0 l D rec w' I' G' h' := by
 have l1 := (Array.getElem?_eq_some_iff.1 z.hl).1;have l2 := (Array.getElem?_eq_some_iff.1 z.hD).1;have n1 := kK hh z.hl rfl;have n2 := kK hh z.hD rfl;exact ⟨z.t.trans t, (t.t.keep l l1 n1).trans z.hl, (t.t.keep D l2 n2).trans z.hD, fun x => (t.t.i2 l x).elim z.nl (fun x => x.elim n1 fun x => by omega), fun x => (t.t.i2 D x).elim z.nD (fun x => x.elim n2 fun x => by omega)⟩
end
section
variable {key : Int -> Int} {nl : Bool} {T : PV}
theorem zY {G G' : Nat -> Pl} {es es' : List (List PV)} (hl : es.length = es'.length) (hG : ∀ o, o < 5 -> G' o = G o) : Like G G' (aK nl T es) (aK nl T es') := by
 intro o ob ho;have hlt : o < 5 := (List.getElem?_eq_some_iff.1 ho).1;refine ⟨?_, fun _ => hG o hlt⟩
 match o, ho with
 | 0, ho => cases ho; exact ⟨_, rfl, trivial⟩
 | 1, ho => cases ho; exact ⟨_, rfl, rfl, rfl, hl⟩
 | 2, ho => cases ho; exact ⟨_, rfl, trivial⟩
 | 3, ho => cases ho; exact ⟨_, rfl, trivial⟩
 | 4, ho => cases ho; exact ⟨_, rfl, trivial⟩
theorem tW {w w' : World} {I I' : Nat -> Prop} {G G' : Nat -> Pl} {es es' : List (List PV)} (t : TrN 5 w I G (aK nl T es) w' I' G' (aK nl T es')) : ∀ o, o < 5 -> G' o = G o := by
 intro o ho;have hs := t.stay (qu _)
 match o, ho with
 | 0, _ => exact (hs 0 _ (by omega) rfl rfl).1
 | 1, _ => exact (hs 1 _ (by omega) rfl rfl).1
 | 2, _ => exact (hs 2 _ (by omega) rfl rfl).1
 | 3, _ => exact (hs 3 _ (by omega) rfl rfl).1
 | 4, _ => exact (hs 4 _ (by omega) rfl rfl).1
theorem eA3 (es : List (List PV)) (i f : Int) (K : Env -> Hp -> Prop) : bR qa (fun _ => none) 22 (bU (dG (fQ (cJ Try.f60)))).toList (bU (dG (fQ (cJ Try.f60)))).toList (eO f i) (aK nl T es) K = K ((6, .pv (.int .i64 f)) :: eO f i) (aK nl T es) := by kernel_rfl
theorem eA4 (es : List (List PV)) (i f : Int) (K : Env -> Hp -> Prop) : bR qa (fun _ => none) 22 (bU (cH (fQ (cJ Try.f60)))).toList (bU (cH (fQ (cJ Try.f60)))).toList ((6, .pv (.int .i64 f)) :: eO f i) (aK nl T es) K = K ((7, .pv (.int .i64 i)) :: (6, .pv (.int .i64 f)) :: eO f i) (aK nl T es) := by kernel_rfl
theorem eA5 (es : List (List PV)) (i f : Int) (K : Env -> Hp -> Prop) : bR qa wT 22 (bU (iP (fR (cJ Try.f60)))).toList (bU (iP (fR (cJ Try.f60)))).toList ((7, .pv (.int .i64 i)) :: (6, .pv (.int .i64 f)) :: eO f i) (aK nl T es) K =
 (eQ es.length (some f) (some i) none /\ ACall qa 81 [.sub 0 f.toNat i.toNat, .fn 82 [.box 1 0]] [.sl (21, 1) false nl es, .box [.pv T]] fun (r : LV) (h' : Hp) => ∃ (t : List (List PV)), (r = .tup [] /\ h' = [.sl (21, 1) false nl t, .box [.pv T]]) /\
  (True /\ (((21, 1) : Nat × Nat) = (21, 1) /\ nl = nl /\ es.length = t.length) /\ True) /\ K ((20, .tup []) :: (19, .fn 82 [.box 0 0]) :: (18, .sub 1 f.toNat i.toNat) :: (17, .pv (.int .i64 i)) :: (16, .pv (.int .i64 f)) :: (15, .own 1) :: (7, .pv (.int .i64 i)) :: (6, .pv (.int .i64 f)) :: eO f i) (aK nl T t)) := by kernel_rfl
theorem zhg : fQ (cJ Try.f60) = .seq (.region 3 (bU (dG (fQ (cJ Try.f60)))) false) (.region 4 (bU (cH (fQ (cJ Try.f60)))) false) /\ fR (cJ Try.f60) = .block 1 (.region 5 (bU (iP (fR (cJ Try.f60)))) false) /\
 cJ Try.f60 = .rangeFunc (.tmp 12) #[13, 14] (fQ (cJ Try.f60)) (fR (cJ Try.f60)) /\ jF (bU (dG (fQ (cJ Try.f60)))).toList = true /\ jF (bU (cH (fQ (cJ Try.f60)))).toList = true /\ jF (bU (iP (fR (cJ Try.f60)))).toList = true :=
 ⟨by kernel_rfl, by kernel_rfl, by kernel_rfl, by kernel_rfl, by kernel_rfl, by kernel_rfl⟩
theorem zqp (hc : jH T key) {W0 : World} {I0 : Nat -> Prop} {G0 : Nat -> Pl} {L0 : List Int} {a : Act} {v12 : LV} (hs0 : SRel W0 I0 G0 [(2, .box 0 0), (5, .box 2 0), (12, v12)] (aK nl T (aA L0)) 22 a) (rec : Loop)
 (r1 : rec.state = .ready) (r2 : rec.pending = none) (r3 : rec.tmps = a.tmps) (r4 : rec.params = #[13, 14]) (r5 : rec.assign = fQ (cJ Try.f60)) (r6 : rec.body = fR (cJ Try.f60)) :
 zU (ZR W0 I0 G0 (aK nl T (aA L0)) (W0.heap.size + 1) W0.heap.size rec) key nl T (W0.heap.size + 1) L0.length := by
 intro w I G L f i hh hz hfi hil hr hLn hN;obtain ⟨l, hl⟩ : ∃ l, l = W0.heap.size + 1 := ⟨_, rfl⟩;have hWl : W0.heap.size <= l := by omega
 rw [<- hl] at hz ⊢;refine ⟨_, _, _, _, run_yield (P := qa) hz.hl (by rw [r4]; rfl), roundIn_of_wpIn trivial ?_⟩;have hlt := (Array.getElem?_eq_some_iff.1 hz.hl).1;have hel : ∀ L' : List Int, L'.length = L.length -> (aA L0).length = (aA L').length := fun L' h => by simp [hN, h]
 have hs : SRel w I G (eO f i) (aK nl T (aA L)) 22 { tmps := (a.tmps.setIfInBounds 13 (.int .i64 f)).setIfInBounds 14 (.int .i64 i), defers := [] } := by
  have h1 := hs0.he.mono (qM hs0.hh hz.t.t) (zY (hel L rfl) (tW hz.t));have h2 := h1.set (d := 13) (v := .pv (.int .i64 f)) (by rw [hs0.hn]; omega) (.pv _ _ (.int .i64 f)) (fun _ _ _ e => by cases e);have h3 := h2.set (d := 14) (v := .pv (.int .i64 i)) (by simp [hs0.hn]) (.pv _ _ (.int .i64 i)) (fun _ _ _ e => by cases e);exact ⟨hh, fun k v hk => h3 k v ((LeE.le (e' := eO f i) ⟨rfl, rfl, rfl, rfl, trivial⟩) k v hk), by simp [hs0.hn]⟩
 obtain ⟨q1, q2, q3, q4, q5, q6⟩ := zhg;rw [r5, q1, r4, r3];have hfold : ∀ x y : Value, (((#[13, 14] : Array Tmp).zip #[x, y]).foldl (fun tmps (t, a) => tmps.setIfInBounds t a) a.tmps) = (a.tmps.setIfInBounds 13 x).setIfInBounds 14 y := fun x y => by simp
 rw [hfold];refine wpIn_seq ?_;show Code.wpIn (wd (some l)) 0 qa _ (Exit.then (Code.wpIn (wd (some l)) 0 qa _ _) _) { tmps := (a.tmps.setIfInBounds 13 (.int .i64 f)).setIfInBounds 14 (.int .i64 i), defers := [] } w;refine wU q4 (by rw [eA3]; exact ⟨rfl, rfl⟩ : bR qa (fun _ => none) 22 _ _ _ _ (fun e' h' => e' = _ /\ h' = _)) hs ?_ ?_
 ·exact fun a w h => h
 rintro _ _ w1 I1 G1 a1 ⟨rfl, rfl⟩ hs1 hd1 ht1;refine wU q5 (by rw [eA4]; exact ⟨rfl, rfl⟩ : bR qa (fun _ => none) 22 _ _ _ _ (fun e' h' => e' = _ /\ h' = _)) hs1 ?_ ?_
 ·exact fun a w h => h
 rintro _ _ w2 I2 G2 a2 ⟨rfl, rfl⟩ hs2 hd2 ht2;have z1 := hz.step hh ht1.toN;have z2 := z1.step hs1.hh ht2.toN;refine ⟨_, run_beginRound z2.hl r1, ?_⟩;have n2 := kK hs2.hh z2.hl rfl;have l2 := (Array.getElem?_eq_some_iff.1 z2.hl).1;have hs3 : SRel (w2.putObj l (.loop { rec with state := .busy })) I2 G2 _ _ 22 a2 := ⟨hs2.hh.off _ z2.nl n2, hs2.he.mono (Keeps.off z2.nl _) (.refl _ _), hs2.hn⟩;have hp3 : (w2.putObj l (.loop { rec with state := .busy })).heap[l]? = some (.loop { rec with state := .busy }) := World.putObj_heap_same l2;have hb : ∀ {c : Code} {Q a w}, c = fR (cJ Try.f60) -> Code.wpIn (wd (some l)) 0 qa (.block 1 (.region 5 (bU (iP (fR (cJ Try.f60)))) false)) Q a w -> Code.wpIn (wd (some l)) 0 qa c Q a w := fun e h => by rw [e, q2]; exact h
 refine hb r6 ?_
 have h5 : bR qa wT 22 (bU (iP (fR (cJ Try.f60)))).toList (bU (iP (fR (cJ Try.f60)))).toList ((7, .pv (.int .i64 i)) :: (6, .pv (.int .i64 f)) :: eO f i) (aK nl T (aA L)) (fun _ h' => ∃ L', YQ key L f i L' /\ h' = aK nl T (aA L')) := by
  rw [eA5, qat, qat];obtain ⟨c1, c2, c3⟩ := tV L (show f <= i by omega) hil;have e : aA L = aA (L.take f ++ ((L.take i).drop f ++ L.drop i)) := congrArg aA c1;refine ⟨⟨by simp, by simp; omega, by simp; omega, trivial⟩, ?_⟩;rw [e];refine (zqc hc f i nl (L.take f) ((L.take i).drop f) (L.drop i) c2 (by omega) (by rw [<- c1]; exact hr) (by omega)).mono ?_;rintro r h' ⟨S', rfl, rfl, s1, k1⟩;refine ⟨_, ⟨rfl, rfl⟩, ⟨trivial, ⟨rfl, rfl, ?_⟩, trivial⟩, _, ⟨S', rfl, s1, k1⟩, rfl⟩;have := k1.len;simp only [cA, qb]; omega
 refine wpIn_block ?_;show Code.wpIn (wd (some l)) 0 qa _ _ _ _;refine wU (H := wT) (ro := some l) (n := 0) (id := 5) q6 h5 hs3 ?_ ?_
 ·exact fun a w h => h
 rintro e4 _ w4 I4 G4 a4 ⟨L', hYQ, rfl⟩ hs4 hd4 ht4;have n3 := kK hs3.hh hp3 rfl;have hl4 : w4.heap[l]? = some (.loop { rec with state := .busy }) := (ht4.t.keep l (by rw [World.putObj_size]; exact l2) n3).trans hp3;have l4 := (Array.getElem?_eq_some_iff.1 hl4).1;have nI4 : ∀ b, ¬ I2 b -> ¬ aU (aK nl T (aA L)) G2 b -> b < w2.heap.size -> ¬ I4 b := fun b x y z h => (ht4.t.i2 b h).elim x fun h => h.elim y fun h => by rw [World.putObj_size] at h; omega
 have nl4 := nI4 l z2.nl n2 l2;have hDne : W0.heap.size ≠ l := by omega
 have nD2 := kK hs2.hh z2.hD rfl;have lD := (Array.getElem?_eq_some_iff.1 z2.hD).1
 have hrec : ({ { rec with state := .busy } with state := if (none : Option Code).isNone then .ready else .done, pending := none } : Loop) = rec := by
  cases rec; simp only at r1 r2; subst r1; subst r2; rfl
 have hrun := run_endRound (P := qa) none hl4;rw [hrec] at hrun
 have hLL : L'.length = L.length := by
  obtain ⟨S', rfl, s1, k1⟩ := hYQ;obtain ⟨c1, c2, c3⟩ := tV L (show f <= i by omega) hil;have := k1.len;rw [qb, qb, c2, <- this, c3, qag]; omega
 have tB : TrN 5 W0 I0 G0 (aK nl T (aA L0)) (w4.putObj l (.loop rec)) I4 G4 (aK nl T (aA L')) := ((z2.t.off hWl _).trans ht4.toN).off hWl _;refine ⟨_, _, hrun, rfl, L', I4, G4, hYQ, hs4.hh.off _ nl4 (kK hs4.hh hl4 rfl), ?_, zY (by simp [hLL]) (fun o ho => (tW tB o ho).trans (tW hz.t o ho).symm), ⟨tB, World.putObj_heap_same l4, ?_, nl4, nI4 _ z2.nD nD2 lD⟩⟩
 ·have k1 := (qM hh ht1.t).trans ht1.t.size (qM hs1.hh ht2.t);have s2 := Nat.le_trans ht1.t.size ht2.t.size;have k2 := (k1.trans s2 (Keeps.off z2.nl (.loop { rec with state := .busy }))).trans (by rw [World.putObj_size]; exact s2) (qM hs3.hh ht4.t);exact k2.trans (by have := ht4.t.size; rw [World.putObj_size] at this; omega) (Keeps.off nl4 _)
 ·rw [World.putObj_heap_other hDne];exact (ht4.t.keep _ (by rw [World.putObj_size]; exact lD) (kK hs3.hh ((World.putObj_heap_other hDne).trans z2.hD) rfl)).trans ((World.putObj_heap_other hDne).trans z2.hD)
end
end Go.Eng
namespace Go.Eng
open Go Go.Proofs
section
variable (nl fl : Bool) (es : LL)
def zhh (R : LV -> Hp -> Prop) : Prop :=
 if (bif true then nl else !nl) = true then R (LV.pv (PV.sl true true [])) [] else pA true [] es 1 4 /\ R (LV.own 0) [Ob.sl (21, 1) false false ([] ++ es)]
theorem zqq {R : LV -> Hp -> Prop} (h : zhh nl es R) : ACall qa 37 [.pv (.sl nl fl es)] [] R :=
 ACall.wA Try.func37 aT [0, 2, 4] bE h
end
section
variable (nl : Bool) (ts : List PV) (es : LL)
def zqr (R : LV -> Hp -> Prop) : Prop :=
 R (LV.fn 94 [LV.box 2 0, LV.box 1 0]) [Ob.sl (21, 1) false nl es, Ob.box [LV.pv (PV.ptr ts)], Ob.box [LV.own 0]]
theorem zqs {R : LV -> Hp -> Prop} (h : zqr nl ts es R) : ACall qa 80 [.pv (.ptr ts), .own 0] [.sl (21, 1) false nl es] R :=
 ACall.wz Try.func80 aT [0, 1, 2, 3, 4] bE [0, 1, 2] h
end
end Go.Eng
namespace Go.Eng
open Go Go.Proofs Go.Eng.Rows Go.Eng.Srt
theorem ACall.nilOwn {P : Program} {f : Nat} {args : List LV} {Q Q' : LV -> Hp -> Prop} {ty : Nat × Nat} (hc : ACall P f args [] Q) (hq : ∀ r h', Q r h' -> Q' r h' ∨ ∃ fl, r = .pv (.sl true fl []) /\ h' = [] /\ Q' (.own 0) [.sl ty false true []]) : ACall P f args [] Q' :=
 ⟨hc.1, fun w I G cargs h1 h2 h3 => (hc.2 w I G cargs h1 h2 h3).mono fun e w' ⟨cv, r, h', I', G', e1, e2, e3, e4, e5⟩ => (hq r h' e2).elim (fun q => ⟨cv, r, h', I', G', e1, q, e3, e4, e5⟩) fun ⟨fl, hr, hh, q⟩ => by
  subst hr; subst hh;have hcv : cv = .slice none 0 0 := by cases e4 with | pv _ _ h => cases h; rfl
  subst hcv
  have one : ∀ {o : Nat} {ob : Ob}, [Ob.sl ty false true []][o]? = some ob -> ob = .sl ty false true [] := fun {o ob} h => by
   cases o with
   | zero => cases h; rfl
   | succ o => simp at h
  have dead : ∀ {p : Pl}, ¬ (Ob.sl ty false true []).alive p := fun h => by cases h.1
  have noB : ∀ b, ¬ aU [Ob.sl ty false true []] G' b := fun b ⟨o, ob, ho, ha, _⟩ => by rw [one ho] at ha; exact dead ha
  refine ⟨_, .own 0, [.sl ty false true []], I', G', e1, q, ⟨fun o ob ho => by rw [one ho]; rfl, fun o o' ob ob' ho ha => by rw [one ho] at ha; exact (dead ha).elim, fun o ob ho ha => by rw [one ho] at ha; exact (dead ha).elim, e3.cl⟩, .ownNil 0 ty false [] rfl, ?_, by simp, fun o ob' ho => by simp at ho⟩;have t := e5.t
  exact ⟨t.os, t.tape, t.output, t.size, t.keep, t.i1, t.i2, fun b hb => (noB b hb).elim, t.frz, t.drawn⟩⟩
theorem zhi (nl fl : Bool) (es : List (List PV)) (hn : nl = true -> es = []) (ha : pA true [] es 1 4) : ACall qa 37 [.pv (.sl nl fl es)] [] fun r h' => r = .own 0 /\ h' = [.sl (21, 1) false nl es] := by
 refine ACall.nilOwn (ty := (21, 1)) (Q := fun r h' => (nl = true /\ r = .pv (.sl true true []) /\ h' = []) ∨ (nl = false /\ r = .own 0 /\ h' = [.sl (21, 1) false nl es])) (zqq nl fl es ?_) ?_
 ·unfold zhh;cases nl with
  | true => exact .inl ⟨rfl, rfl, rfl⟩
  | false => exact ⟨ha, .inr ⟨rfl, rfl, by simp⟩⟩
 ·rintro r h' (⟨rfl, rfl, rfl⟩ | ⟨rfl, rfl, rfl⟩)
  ·rw [hn rfl]; exact .inr ⟨true, rfl, rfl, rfl, rfl⟩
  ·exact .inl ⟨rfl, rfl⟩
theorem tX {P : Program} {n0 N : Nat} {c : Code} {e E : Env} {h Hh : Hp} (hS : CodeS P n0 N c e h fun x e' h' => x = .normal /\ e' = E /\ h' = Hh) {w : World} {I : Nat -> Prop} {G : Nat -> Pl} {a : Act} (hs : SRel w I G e h N a) {Q : Exit -> Act -> World -> Prop}
 (hq : ∀ w' I' G' a', SRel w' I' G' E Hh N a' -> a'.defers = a.defers -> TrN n0 w I G h w' I' G' Hh -> Q .normal a' w') : c.wp P Q a w :=
 hS w I G a Q hs fun x e' h' w' I' G' a' hk hs' hd ht => by obtain ⟨rfl, rfl, rfl⟩ := hk; exact hq w' I' G' a' hs' hd ht
section
variable {nl fl : Bool} {ts : List PV} {es : List (List PV)}
theorem eB0 (Q : Qt) : cY qa (fun _ => none) 0 22 [1, 2, 4] (fun _ => none) (cO0 Try.f60) (fH [.pv (.ptr ts), .pv (.sl nl fl es)] 0) [] Q = Q .normal [(1, .pv (.sl nl fl es)), (2, .box 0 0), (4, .pv (.sl true true []))] [.box [.pv (.ptr ts)]] := by kernel_rfl
theorem eB1 (Q : Qt) : cY qa zd7 0 22 [2, 5] (fun _ => none) (cO1 Try.f60) [(1, .pv (.sl nl fl es)), (2, .box 0 0)] [.box [.pv (.ptr ts)]] Q =
 ACall qa 37 [.pv (.sl nl fl es)] [] fun (r : LV) (h' : Hp) => ∃ (_ : Unit), (r = .own 0 /\ h' = [.sl (21, 1) false nl es]) /\ True /\ Q .normal [(2, .box 0 0), (5, .box 2 0)] [.box [.pv (.ptr ts)], .sl (21, 1) false nl es, .box [.own 1]] := by kernel_rfl
theorem eB2 (Q : Qt) : cY qa zd7 0 22 [2, 5, 12] (fun _ => none) (cO2 Try.f60) [(2, .box 0 0), (5, .box 2 0)] [.box [.pv (.ptr ts)], .sl (21, 1) false nl es, .box [.own 1]] Q =
 ACall qa 80 [.pv (.ptr ts), .own 0] [.sl (21, 1) false nl es] fun (r : LV) (h' : Hp) => ∃ (_ : Unit), (r = .fn 94 [.box 2 0, .box 1 0] /\ h' = [.sl (21, 1) false nl es, .box [.pv (.ptr ts)], .box [.own 0]]) /\
  ((((21, 1) : Nat × Nat) = (21, 1) /\ nl = nl /\ es.length = es.length) /\ True) /\ Q .normal [(2, .box 0 0), (5, .box 2 0), (12, .fn 94 [.box 4 0, .box 3 0])] (aK nl (.ptr ts) es) := by kernel_rfl
theorem eB6 (Q : Qt) : cY qa (fun _ => none) 5 22 [4] (fun _ => none) (cO6 Try.f60) [(2, .box 0 0), (5, .box 2 0)] (aK nl (.ptr ts) es) Q = Q .normal [(4, .own 1)] (aK nl (.ptr ts) es) := by kernel_rfl
theorem zZ : cM Try.f60 = .seq (cO0 Try.f60) (.seq (cO1 Try.f60) (.seq (.seq (cO2 Try.f60) (.block 0 (cJ Try.f60))) (.seq (cO6 Try.f60) .ret))) /\ Try.f60.body = some (cM Try.f60) /\ Try.f60.ntmps = 22 /\
 Try.f94.body = some (cM Try.f94) /\ Try.f94.ntmps = 39 /\ Try.f60.results = #[.tmp 4] /\ Try.f94.results = #[] /\ Try.f60.body.isNone = false /\ (Try.f60.name == "runtime.NumGoroutine") = false /\ Try.f94.body.isNone = false /\ (Try.f94.name == "runtime.NumGoroutine") = false :=
 ⟨by kernel_rfl, by kernel_rfl, by kernel_rfl, by kernel_rfl, by kernel_rfl, by kernel_rfl, by kernel_rfl, by kernel_rfl, by kernel_rfl, by kernel_rfl, by kernel_rfl⟩
variable {key : Int -> Int}
theorem Tr.alloc0 {w : World} {I own : Nat -> Prop} (o : Obj) : Tr w I own (w.alloc o) I own :=
 ⟨rfl, rfl, rfl, by simp, fun b hb _ => cQ w o hb, fun _ h => h, fun _ h => .inl h, fun _ h => .inl h, fun a ha => World.frozen?_of_block (cQ w o ha), qu _⟩
theorem KA.alloc0 (w : World) (o : Obj) : KA w (w.alloc o) := ⟨by simp, fun b hb => cQ w o hb⟩
theorem zqt (hk : ∀ x, 0 <= key x) (hT : ∀ r : Int, (-2147483648 <= r /\ r <= 2147483647) -> PCall qa 56 [.ptr ts, .int .i32 r] fun v => v = .int .i64 (key r)) (hc : jH (.ptr ts) key) (L : List Int) (hr : R32 L) (hL : L.length < 1000000000000)
 {w3 : World} {I3 : Nat -> Prop} {G3 : Nat -> Pl} {a3 : Act} {v12 : LV} (hs3 : SRel w3 I3 G3 [(2, .box 0 0), (5, .box 2 0), (12, v12)] (aK nl (.ptr ts) (aA L)) 22 a3) (rec : Loop) (r1 : rec.state = .ready) (r2 : rec.pending = none) (r3 : rec.tmps = a3.tmps) (r4 : rec.params = #[13, 14])
 (r5 : rec.assign = fQ (cJ Try.f60)) (r6 : rec.body = fR (cJ Try.f60)) (vs : Array Value) (hvsz : vs.size = 2) (hvs : ∀ (k : Nat) v, [LV.box 4 0, LV.box 3 0][k]? = some v -> LRel w3 I3 G3 (aK nl (.ptr ts) (aA L)) v (vs.getD k undef)) :
 Calls qa 94 (#[Value.func (.yield (w3.heap.size + 1)) #[] #[]] ++ vs) ((w3.alloc (.deferred (some []))).alloc (.loop rec)) fun e w4 => (∃ v, e = .returned v) /\ ∃ I4 G4, HRel w4 I4 G4 (aK nl (.ptr ts) (aA (dD key L))) /\
  ZR w3 I3 G3 (aK nl (.ptr ts) (aA L)) (w3.heap.size + 1) w3.heap.size rec w4 I4 G4 (aK nl (.ptr ts) (aA (dD key L))) := by
 obtain ⟨k1, k2, k3, k4, k5, k6, k7, k8, k9, k10, k11⟩ := zZ;obtain ⟨W1, hW1⟩ : ∃ W1, W1 = (w3.alloc (.deferred (some []))).alloc (.loop rec) := ⟨_, rfl⟩;rw [<- hW1];have tA : Tr w3 I3 (aU (aK nl (.ptr ts) (aA L)) G3) W1 I3 (aU (aK nl (.ptr ts) (aA L)) G3) := by rw [hW1]; exact (Tr.alloc0 _).trans (Tr.alloc0 _)
 have ka : KA w3 W1 := by rw [hW1]; exact (KA.alloc0 _ _).trans (KA.alloc0 _ _)
 have hl1 : W1.heap[w3.heap.size + 1]? = some (.loop rec) := by rw [hW1]; have := World.alloc_heap_new (w3.alloc (.deferred (some []))) (.loop rec); rwa [World.size_alloc] at this
 have hD1 : W1.heap[w3.heap.size]? = some (.deferred (some [])) := by rw [hW1]; exact (cQ _ _ (by simp)).trans (World.alloc_heap_new w3 _)
 have z1 : ZR w3 I3 G3 (aK nl (.ptr ts) (aA L)) (w3.heap.size + 1) w3.heap.size rec W1 I3 G3 (aK nl (.ptr ts) (aA L)) := ⟨(TrH.same tA).toN, hl1, hD1, fun h => by have := hs3.hh.cl _ h; omega, fun h => by have := hs3.hh.cl _ h; omega⟩;have hRd := zqp hc hs3 rec r1 r2 r3 r4 r5 r6;have hwalk := zqo hk hT (fun w I G h w' I' G' h' z hh _ t => z.step hh t) L hRd hr hL
 have hsW : SRel W1 I3 G3 (fH [.pv (.raw (Value.func (.yield (w3.heap.size + 1)) #[] #[])), .box 4 0, .box 3 0] 0) (aK nl (.ptr ts) (aA L)) 39 { tmps := (#[Value.func (.yield (w3.heap.size + 1)) #[] #[]] ++ vs) ++ qbh (39 - (#[Value.func (.yield (w3.heap.size + 1)) #[] #[]] ++ vs).size) undef, defers := [] } := by
  obtain ⟨y, hy⟩ : ∃ y, y = Value.func (.yield (w3.heap.size + 1)) #[] #[] := ⟨_, rfl⟩;rw [<- hy]
  obtain ⟨x0, x1, rfl⟩ : ∃ x0 x1, vs = #[x0, x1] := by
   obtain ⟨l⟩ := vs
   match l, hvsz with
   | [a, b], _ => exact ⟨a, b, rfl⟩
  have hk : Keeps w3 I3 W1 I3 := ⟨fun b _ hb => ka.2 b hb, fun b hb _ => hb⟩;have h1 := (hvs 0 _ rfl).mono hk (.refl _ _);have h2 := (hvs 1 _ rfl).mono hk (.refl _ _);have e0 : ∀ r : Array Value, (#[y] ++ #[x0, x1] ++ r).getD 0 undef = y := fun r => by rw [qw, qam (by simp)]; rfl
  have e1 : ∀ r : Array Value, (#[y] ++ #[x0, x1] ++ r).getD 1 undef = x0 := fun r => by rw [qw, qam (by simp)]; rfl
  have e2 : ∀ r : Array Value, (#[y] ++ #[x0, x1] ++ r).getD 2 undef = x1 := fun r => by rw [qw, qam (by simp)]; rfl
  refine ⟨hs3.hh.ka ka, ?_, by simp⟩
  have he : ERel W1 I3 G3 (aK nl (.ptr ts) (aA L)) [(0, .pv (.raw y)), (1, .box 4 0), (2, .box 3 0)] (#[y] ++ #[x0, x1] ++ qbh (39 - (#[y] ++ #[x0, x1]).size) undef) :=
   ((ERel.nil _ _ _ _ _).cons (s := 2) (v := .box 3 0) (by rw [e2]; exact h2)).cons (s := 1) (v := .box 4 0) (by rw [e1]; exact h1) |>.cons (s := 0) (v := .pv (.raw y)) (by rw [e0]; exact .pv _ _ (.raw _))
  exact he
 refine calls_of_wp Try.func94 k4 ?_;rw [k5];refine hwalk W1 I3 G3 _ _ hsW z1 ?_;rintro x e' _ w4 I4 G4 a4 ⟨rfl, rfl⟩ hs4 hd4 z4;exact ⟨hd4, _, results_none k7 _ _ _, ⟨_, rfl⟩, I4, G4, hs4.hh, z4⟩
theorem zqu (hk : ∀ x, 0 <= key x) (L : List Int) {w w3 w4 : World} {I I3 I4 : Nat -> Prop} {G G3 G4 : Nat -> Pl} {a3 : Act} {v12 : LV} (hs3 : SRel w3 I3 G3 [(2, .box 0 0), (5, .box 2 0), (12, v12)] (aK nl (.ptr ts) (aA L)) 22 a3) (hd30 : a3.defers = []) {rec : Loop}
 (ht3 : Tr w I (aU [] G) w3 I3 (aU (aK nl (.ptr ts) (aA L)) G3)) (hh4 : HRel w4 I4 G4 (aK nl (.ptr ts) (aA (dD key L)))) (z4 : ZR w3 I3 G3 (aK nl (.ptr ts) (aA L)) (w3.heap.size + 1) w3.heap.size rec w4 I4 G4 (aK nl (.ptr ts) (aA (dD key L)))) :
 (Code.seq (cO6 Try.f60) .ret).wp qa (bodyPostM Fence.wide 0 qa Try.f60 fun e w' => ∃ cv r h' I' G', e = .returned cv /\ (r = .own 0 /\ h' = [.sl (21, 1) false nl (aA (dD key L))]) /\ HRel w' I' G' h' /\ LRel w' I' G' h' r cv /\ TrH w I G [] w' I' G' h')
  { tmps := a3.tmps, defers := [{ target := .collected w3.heap.size, args := #[] }] ++ a3.defers } (w4.putObj (w3.heap.size + 1) (.loop { rec with state := .exhausted })) := by
 obtain ⟨k1, k2, k3, k4, k5, k6, k7, k8, k9, k10, k11⟩ := zZ;have hll := (tU (key := key) hk L).len;have n4 := kK hh4 z4.hl rfl;have l4 := (Array.getElem?_eq_some_iff.1 z4.hl).1
 have z5 : ZR w3 I3 G3 (aK nl (.ptr ts) (aA L)) (w3.heap.size + 1) w3.heap.size { rec with state := .exhausted } (w4.putObj (w3.heap.size + 1) (.loop { rec with state := .exhausted })) I4 G4 (aK nl (.ptr ts) (aA (dD key L))) :=
  ⟨z4.t.off (by omega) _, World.putObj_heap_same l4, (World.putObj_heap_other (by omega)).trans z4.hD, z4.nl, z4.nD⟩
 have hs5 : SRel (w4.putObj (w3.heap.size + 1) (.loop { rec with state := .exhausted })) I4 G4 [(2, .box 0 0), (5, .box 2 0)] (aK nl (.ptr ts) (aA (dD key L))) 22 { tmps := a3.tmps, defers := [{ target := .collected w3.heap.size, args := #[] }] ++ a3.defers } :=
  ⟨hh4.off _ z4.nl n4, fun i v hi => ((hs3.he.mono (qM hs3.hh z4.t.t) (zY (by simp [hll]) (tW z4.t))).mono (Keeps.off z4.nl _) (.refl _ _)) i v ((LeE.le (e' := [(2, .box 0 0), (5, .box 2 0)]) ⟨rfl, rfl, trivial⟩) i v hi), hs3.hn⟩
 refine wp_seq (tX (E := [(4, .own 1)]) (Hh := aK nl (.ptr ts) (aA (dD key L))) (gV (Eq.mpr (eB6 _) ⟨rfl, rfl, rfl⟩)) hs5 fun w6 I6 G6 a6 hs6 hd6 ht6 => ?_);have z6 := z5.step hs5.hh ht6;refine wp_ret ?_;show LeavesInM Fence.wide 0 qa _ a6.tmps _ a6.defers .returning w6;rw [hd6, hd30];refine ⟨by simp, .inl ⟨_, _, rfl, run_takeDeferred z6.hD, ?_⟩⟩;refine ⟨_, results_tmp k6 _ _ _, ?_⟩;have hh7 := hs6.hh.off (.deferred none) z6.nD (kK hs6.hh z6.hD rfl);have hv7 : LRel (w6.putObj w3.heap.size (.deferred none)) I6 G6 (aK nl (.ptr ts) (aA (dD key L))) (.own 1) (a6.tmps.getD 4 undef) := LRel.mono (hs6.he 4 _ rfl) (Keeps.off z6.nD (.deferred none)) (.refl _ _);have hs7 : SRel (w6.putObj w3.heap.size (.deferred none)) I6 G6 [(4, .own 1)] (aK nl (.ptr ts) (aA (dD key L))) 22 a6 := ⟨hh7, (ERel.nil _ _ _ _ _).cons (s := 4) (v := .own 1) hv7, hs6.hn⟩;obtain ⟨s1, s2⟩ := hs7.sub [1] [] rfl;have g2 := LRel.mapV (pL (os := [1])) (Keeps.refl _ _) hv7;have ht := (ht3.trans z6.t.t).off (l := w3.heap.size) ht3.size (.deferred none);exact ⟨_, .own 0, _, I6, _, rfl, ⟨rfl, rfl⟩, s1.hh, g2, ⟨ht.trans (Tr.less s2), Nat.zero_le _, fun o ob ho => by simp at ho⟩⟩
theorem zqv (hk : ∀ x, 0 <= key x) (hT : ∀ r : Int, (-2147483648 <= r /\ r <= 2147483647) -> PCall qa 56 [.ptr ts, .int .i32 r] fun v => v = .int .i64 (key r)) (hc : jH (.ptr ts) key) (L : List Int) (hr : R32 L) (hL : L.length < 1000000000000) :
 ACall qa 60 [.pv (.ptr ts), .pv (.sl nl fl (aA L))] [] fun r h' => r = .own 0 /\ h' = [.sl (21, 1) false nl (aA (dD key L))] := by
 obtain ⟨k1, k2, k3, k4, k5, k6, k7, k8, k9, k10, k11⟩ := zZ;refine ⟨⟨_, Try.func60, k8, k9⟩, fun w I G cargs hh hsz hrel => ?_⟩;simp only [qcl, ql, qr] at hsz
 have hn : nl = true -> L = [] := fun hn => by
  subst hn;have h1 := hrel 1 _ rfl;generalize cargs.getD 1 undef = c1 at h1;cases h1 with
  | pv _ _ h1 =>
    generalize hes : aA L = es at h1;cases h1 with
    | slnil => exact List.map_eq_nil_iff.1 hes
 refine (callsIn_wide (n := 0)).1 (callsIn_of_wp_marks Try.func60 k2 trivial (wpIn_wide.2 ?_));rw [k3]
 have hs : SRel w I G (fH [.pv (.ptr ts), .pv (.sl nl fl (aA L))] 0) [] 22 { tmps := cargs ++ qbh (22 - cargs.size) undef, defers := [] } := by
  refine ⟨hh, fun i v hi => ?_, by simp; omega⟩;obtain ⟨_, h2⟩ := pW hi;rw [Nat.sub_zero] at h2;have hlt : i < cargs.size := by have := (List.getElem?_eq_some_iff.1 h2).1; simp at this; omega
  have := hrel i v h2
  have e1 : (cargs ++ qbh (22 - cargs.size) undef).getD i undef = cargs.getD i undef := by
   rw [qw, qw, qam hlt]
  simp only [e1];exact VRel.of_plain this
 rw [k1]
 -- what begins it
 refine wp_seq (tX (E := [(1, .pv (.sl nl fl (aA L))), (2, .box 0 0), (4, .pv (.sl true true []))]) (Hh := [.box [.pv (.ptr ts)]]) (gV (Eq.mpr (eB0 _) ⟨rfl, rfl, rfl⟩)) hs fun w1 I1 G1 a1 hs1 hd1 ht1 => ?_);have hs1' := hs1.le (LeE.le (e' := [(1, .pv (.sl nl fl (aA L))), (2, .box 0 0)]) ⟨rfl, rfl, trivial⟩);refine wp_seq (tX (E := [(2, .box 0 0), (5, .box 2 0)]) (Hh := [.box [.pv (.ptr ts)], .sl (21, 1) false nl (aA L), .box [.own 1]]) (gV (Eq.mpr (eB1 _) ((zhi nl fl (aA L) (fun h => by rw [hn h]; rfl) ?_).mono fun r h' hq => ⟨(), hq, trivial, rfl, rfl, rfl⟩))) hs1' fun w2 I2 G2 a2 hs2 hd2 ht2 => ?_)
 ·exact ⟨rfl, .inl rfl, fun e he => (by cases he), fun e he => by obtain ⟨x, _, rfl⟩ := List.mem_map.1 (List.mem_of_mem_head? he); rfl, by simp; omega⟩
 refine wp_seq (wp_seq (tX (E := [(2, .box 0 0), (5, .box 2 0), (12, .fn 94 [.box 4 0, .box 3 0])]) (Hh := aK nl (.ptr ts) (aA L)) (gV (Eq.mpr (eB2 _) (zqs nl ts (aA L) ?_))) hs2 fun w3 I3 G3 a3 hs3 hd3 ht3 => ?_))
 ·exact ⟨(), ⟨rfl, rfl⟩, ⟨⟨rfl, rfl, rfl⟩, trivial⟩, rfl, rfl, rfl⟩
 -- the loop
 have hd30 : a3.defers = [] := hd3.trans (hd2.trans hd1);obtain ⟨q1, q2, q3, _, _, _⟩ := zhg;refine wp_block ?_;rw [q3]
 obtain ⟨vs, hv12, hvsz, hvs⟩ : ∃ vs : Array Value, a3.tmps.getD 12 undef = .func (.func 94) #[] vs /\ vs.size = 2 /\ ∀ (k : Nat) v, [LV.box 4 0, LV.box 3 0][k]? = some v -> LRel w3 I3 G3 (aK nl (.ptr ts) (aA L)) v (vs.getD k undef) := by
  have := hs3.he 12 _ rfl;generalize a3.tmps.getD 12 undef = cv at this;cases this with
  | fn f cs vs h1 h6 => exact ⟨vs, rfl, h1, h6⟩
 refine (wpIn_wide (n := 0)).1 (wpIn_rangeFunc (F := Fence.wide) fun fn _ => ?_);obtain ⟨rec, hrec⟩ : ∃ rec : Loop, rec = { state := .ready, pending := none, fn := fn, tmps := a3.tmps, params := #[13, 14], assign := fQ (cJ Try.f60), body := fR (cJ Try.f60), defers := w3.heap.size } := ⟨_, rfl⟩
 refine ⟨w3.heap.size + 1, [{ target := .collected w3.heap.size, args := #[] }], (w3.alloc (.deferred (some []))).alloc (.loop rec), { target := .fn (.func 94) vs, args := #[.func (.yield (w3.heap.size + 1)) #[] #[]] }, (w3.alloc (.deferred (some []))).alloc (.loop rec), 94,
  #[.func (.yield (w3.heap.size + 1)) #[] #[]] ++ vs, (w3.alloc (.deferred (some []))).alloc (.loop rec), ?_, ?_, fun _ _ => trivial, ?_, fun x => (by cases x), ?_⟩
 ·rw [hrec]; exact run_enterLoop_outer _ _ _ _ _
 ·have he : a3.eval (.tmp 12) = .func (.func 94) #[] vs := hv12;simp only [resolve, he];simp [go_sem]
 ·simp only [invoke];exact uY ⟨_, Try.func94, k10, k11⟩
 refine (callsIn_wide).2 (Calls.mono (zqt hk hT hc L hr hL hs3 rec (by rw [hrec]) (by rw [hrec]) (by rw [hrec]) (by rw [hrec]) (by rw [hrec]) (by rw [hrec]) vs hvsz hvs) ?_);rintro e w4 ⟨⟨v, rfl⟩, I4, G4, hh4, z4⟩;have hp : rec.pending = none := by rw [hrec]
 refine ⟨none, _, (run_endLoop z4.hl (by rw [hrec]; simp)).trans (congrArg (fun j => Result.ok j _) hp), ?_⟩;exact zqu hk L hs3 hd30 ((ht1.t.trans ht2.t).trans ht3.t) hh4 z4
end
end Go.Eng
namespace Go.Eng
open Go Go.Proofs
section
variable (n f : Bool) (es : LL) (k : Int)
def zhj (R : PV -> Prop) : Prop :=
 if decide ((↑es.length : Int) > k) = true then (eQ es.length none (some k) none /\ aS es 1) /\ R (PV.sl n (f && decide (k = (↑es.length : Int))) (qh 0 (qaa k.toNat es))) else R (PV.sl n f es)
theorem zqw {R : PV -> Prop} (h : zhj n f es k R) : PCall qa 9 [.sl n f es, .int .i64 k] R :=
 PCall.wz Try.func9 aT [0, 1, 4, 8] bE h
end
def z7 (tc tg tj tf tp : PV) (M S : List (PV × PV)) (n f : Bool) (es : LL) (x12 : Int) (h0_0 : PV) (n_1 : Bool) (s_1 : LL) : Env × Hp := ([(0, LV.pv (PV.ptr [tc, tg, tj, tf, tp, PV.mp M, PV.mp S])), (5, LV.box 0 0), (10, LV.pv (PV.sl n f es)), (11, LV.pv (PV.int i64 (es.length : Int))), (12, Y6 x12)], [.box [.pv h0_0, LV.own 1], .sl (21, 1) true n_1 s_1])
section
variable (tc tg tj tf tp : PV) (M S : List (PV × PV)) (n f : Bool) (es : LL) (J : Int -> PV -> Bool -> LL -> Prop) (μ : Int -> PV -> Bool -> LL -> Nat)
def zhk (R : PV -> Prop) : Prop :=
 eL (PV.ptr [tc, tg, tj, tf, tp, PV.mp M, PV.mp S]) = true /\ (aF (z7 tc tg tj tf tp M S n f es (0 : Int) (PV.ptr [tc, tg, tj, tf, tp, PV.mp M, PV.mp S]) true []) /\ J (0 : Int) (PV.ptr [tc, tg, tj, tf, tp, PV.mp M, PV.mp S]) true []) /\ ∀ (x12 : Int) (h0_0 : PV) (n_1 : Bool) (s_1 : LL), J x12 h0_0 n_1 s_1 -> if decide (x12 < (↑es.length : Int)) = true then aR es x12 1 /\ ∃ n1, (es.getD x12.toNat []).head? = some (Z3 n1) /\ ACall qa 59 [LV.box 0 0, LV.pv (Z3 n1), Y6 8] [Ob.box [LV.pv h0_0, LV.own 1], Ob.sl (21, 1) false n_1 s_1] fun (r : LV) (h' : Hp) => ∃ (t : Bool × LL), (r = LV.tup [] /\ h' = [Ob.box [LV.pv h0_0, LV.own 1], Ob.sl (21, 1) true t.fst t.snd]) /\ (True /\ True /\ True) /\ aF (z7 tc tg tj tf tp M S n f es (i64.wrap (x12 + 1)) h0_0 t.fst t.snd) /\ J (i64.wrap (x12 + 1)) h0_0 t.fst t.snd /\ μ (i64.wrap (x12 + 1)) h0_0 t.fst t.snd < μ x12 h0_0 n_1 s_1 else PCall qa 60 [PV.ptr [tc, tg, tj, tf, tp, PV.mp M, PV.mp S], PV.sl n_1 false s_1] fun v => ∃ n1 f1 es1, v = PV.sl n1 f1 es1 /\ R (PV.sl n1 f1 es1)
theorem zqx {R : PV -> Prop} (h : zhk tc tg tj tf tp M S n f es J μ R) : PCall qa 40 [.ptr [tc, tg, tj, tf, tp, .mp M, .mp S], .sl n f es] R :=
 PCall.wz Try.func40 (fun zz_ => match zz_ with | 59 => some ⟨Bool × LL, fun _ hs t => (.tup [], match hs with | [.box (x :: _), .sl ty _ _ _] => [.box [x, .own 1], .sl ty true t.1 t.2] | [.box (x :: _)] => [.box [x, .own 1], .sl (21, 1) true t.1 t.2] | h => h), none⟩ | _ => none) [0, 1, 4, 5, 7, 10, 11, 12, 13] (dB 3 (bF iO (z7 tc tg tj tf tp M S n f es) J μ (fun e h => (gI e 12, hP h 0 0, oN h 1, oS h 1)) [(1000001, 21, 1)] [0, 5, 10, 11, 12] [])) h
end
def z8 (n f : Bool) (es : LL) (n2 f2 : Bool) (ss : LL) (x13 : Int) : Env × Hp := ([(0, LV.pv (PV.sl n f es)), (1, LV.pv (PV.sl n2 f2 ss)), (12, LV.pv (PV.int i64 (es.length : Int))), (13, Y6 x13)], [])
section
variable (n f : Bool) (es : LL) (n2 f2 : Bool) (ss : LL) (J : Int -> Prop) (μ : Int -> Nat)
def zaa (R : PV -> Prop) : Prop :=
 if ((↑es.length : Int) != (↑ss.length : Int)) = true then R (Zb false) else (aF (z8 n f es n2 f2 ss (0 : Int)) /\ J (0 : Int)) /\ ∀ (x13 : Int), J x13 -> if decide (x13 < (↑es.length : Int)) = true then aR es x13 1 /\ ∃ n1, (es.getD x13.toNat []).head? = some (Z3 n1) /\ aR ss x13 1 /\ ∃ n3, (ss.getD x13.toNat []).head? = some (Z3 n3) /\ if (n1 != n3) = true then R (Zb false) else aF (z8 n f es n2 f2 ss (i64.wrap (x13 + 1))) /\ J (i64.wrap (x13 + 1)) /\ μ (i64.wrap (x13 + 1)) < μ x13 else R (Zb true)
theorem zqy {R : PV -> Prop} (h : zaa n f es n2 f2 ss J μ R) : PCall qa 18 [.sl n f es, .sl n2 f2 ss] R :=
 PCall.wz Try.func18 aT [0, 1, 4, 5, 10, 12, 13, 14, 24] (dB 4 (bF cz1 (z8 n f es n2 f2 ss) J μ (fun e h => (((gI e 13), ()))) [] [0, 1, 12, 13] [])) h
end
end Go.Eng
namespace Go.Eng.Rows
open Go Go.Eng Go.Eng.Trie
def qN (rows : List Row) : Bool -> Int -> List Int -> Int
 | m, _, [] => if m then 2 else 0
 | m, last, r :: l => if (decide (ofQ rows r = 1) || (!decide (aI rows 1 r = 0) && decide (aI rows 1 r < last))) then 1 else qN rows (m || decide (ofQ rows r = 2)) (aI rows 1 r) l
def zqz (rows : List Row) : Bool := rows.all fun x => !decide (x.kind = 2) || ((decide (1 <= x.a) && decide (x.a <= 1114111)) && (decide (0 <= x.b) && decide (x.b <= 1114111)))
theorem zq0 {rows : List Row} (h : zqz rows = true) : dP rows := fun x hx hk => by
 have := List.all_eq_true.1 h x hx;simpa [hk] using this
def zq1 (rows : List Row) : Bool := rows.all fun x => !decide (x.kind = 2) || (decide (x.fr = x.to) && ((decide (0 <= x.fr) && decide (x.fr <= 1114111)) && decide (first rows 2 x.fr = some (x.a, x.b))))
theorem zq2 {rows : List Row} (h : zq1 rows = true) : eI rows := fun x hx hk => by
 have := List.all_eq_true.1 h x hx;simpa [hk] using this
def zq3 (rows : List Row) : Bool := rows.all fun x => !decide (x.kind = 1) || decide (0 <= x.a)
def fA (rows : List Row) : Prop := ∀ r, 0 <= aI rows 1 r
theorem zq4 {rows : List Row} (h : zq3 rows = true) : fA rows := fun r => by
 unfold aI;cases hf : bW rows 1 r with
 | none => exact qd _
 | some p =>
   obtain ⟨x, hx, hk, ha, _⟩ := mG hf;have := List.all_eq_true.1 h x hx;simp only [hk, decide_true, qcr, qcq, aB] at this;simp only; omega
end Go.Eng.Rows
namespace Go.Eng
open Go Go.Proofs Go.Eng.Rows Go.Eng.Trie
theorem zab : dP tab := zq0 (by kernel_rfl)
theorem zac : eI tab := zq2 (by kernel_rfl)
theorem zad : fA tab := zq4 (by kernel_rfl)
theorem q1 : qN tab false 0 [101, 769] = 2 := by kernel_rfl
theorem q2 : qN tab false 0 [233] = 0 := by kernel_rfl
theorem q3 : qN tab false 0 [769, 807] = 1 := by kernel_rfl
theorem q4 : qN tab false 0 [8491] = 1 := by kernel_rfl
theorem q5 : zO tab 101 = true := by kernel_rfl
theorem q6 : zO tab 769 = false := by kernel_rfl
theorem q7 : zO tab 4449 = false := by kernel_rfl
end Go.Eng
namespace Go.Eng.Rows
open Go Go.Eng Go.Eng.Trie Go.Eng.Srt
def iT (rows : List Row) (l : List Int) : List Int := dD (aI rows 1) (l.flatMap (aW rows 8))
def dE (rows : List Row) (x : Int) : Bool := !bX x && decide (aM rows x = (0, 0))
def zq5 (rows : List Row) : Prop := ∀ r, ∀ x ∈ aW rows 8 r, dE rows x = true
theorem zq6 {rows : List Row} {r : Int} {p : Int × Int} (h : bW rows 2 r = some p) : ∃ x ∈ rows, x.kind = 2 /\ x.fr <= r /\ r <= x.to := by
 obtain ⟨x, h1, h2, _, _, h3, h4, _⟩ := mG h;exact ⟨x, h1, h2, h3, h4⟩
theorem tY {rows : List Row} {x : Int} (h : dE rows x = true) (d : Nat) : aW rows d x = [x] := by
 simp only [dE, qe, qj, aB] at h;exact qF h.1 h.2
theorem zhl {rows : List Row} : ∀ {l : List Int}, (∀ x ∈ l, dE rows x = true) -> l.flatMap (aW rows 8) = l
 | [], _ => rfl
 | x :: l, h => by
   rw [qbo, tY (h x qp), zhl fun y hy => h y (qz _ hy)]; rfl
section
variable {rows : List Row} (hk : fA rows)
include hk
theorem zq7 {l : List Int} {x : Int} : x ∈ iT rows l ↔ ∃ r ∈ l, x ∈ aW rows 8 r := by
 unfold iT;rw [<- (tU hk _).mem, qch]
theorem zhm (hp : dP rows) {l : List Int} (h : ∀ x ∈ l, -2147483648 <= x /\ x <= 2147483647) : ∀ x ∈ iT rows l, -2147483648 <= x /\ x <= 2147483647 := fun x hx => by
 obtain ⟨r, hr, h2⟩ := (zq7 hk).1 hx;rcases tO hp 8 r x h2 with rfl | h3
 ·exact h x hr
 ·omega
theorem zhn (l : List Int) : (iT rows l).length <= 768 * l.length := by
 unfold iT;rw [<- (tU hk _).len]
 induction l with
 | nil => simp
 | cons x l ih =>
   have := qH rows 8 x;rw [qbo, qb, ql]; omega
end
end Go.Eng.Rows
namespace Go.Eng
open Go Go.Proofs Go.Eng.Rows Go.Eng.Trie
theorem zho {α : Type} (p : α -> Bool) : ∀ {A : List α} (B : List α), (∀ x ∈ A, p x = false) -> (A ++ B).find? p = B.find? p
 | [], B, _ => rfl
 | a :: A, B, h => by
   rw [qm, qbr, h a qp];exact zho p B fun x hx => h x (qz _ hx)
theorem zhp {α : Type} (p : α -> Bool) : ∀ (A : List α) {B : List α}, (∀ x ∈ B, p x = false) -> (A ++ B).find? p = A.find? p
 | [], B, h => List.find?_eq_none.2 fun x hx => by rw [h x hx]; simp
 | a :: A, B, h => by
   rw [qm, qbr, qbr];cases p a with
   | true => rfl
   | false => exact zhp p A h
def noK (k : Int) (l : List Row) : Bool := l.all fun x => !decide (x.kind = k)
theorem zhq {k r : Int} {l : List Row} (h : noK k l = true) : ∀ x ∈ l, x.has k r = false := fun x hx => by
 have := List.all_eq_true.1 h x hx;simp only [qj, dA] at this;simp [Row.has, this]
theorem zq8 {A B C : List Row} {k : Int} (h1 : noK k A = true) (h2 : noK k C = true) (r : Int) : bW (A ++ (B ++ C)) k r = bW B k r := by
 unfold bW first
 rw [zho _ _ (zhq h1), zhp _ _ (zhq h2)]
theorem zhr : tab = yA ++ (tab73 ++ (yB ++ yC ++ yD ++ yE ++ yF ++ yG)) := by unfold tab; simp only [qf]
theorem zq9 : aM tab = aM tab73 := funext fun r => by
 unfold aM; rw [zhr, zq8 (by kernel_rfl) (by kernel_rfl)]
theorem zra {A B : List Row} (h : aM A = aM B) : ∀ d, aW A d = aW B d := fun d => by
 induction d with
 | zero => rfl
 | succ d ih => funext r; simp only [aW, h, ih]
theorem zrb (d : Nat) : aW tab d = aW tab73 d := zra zq9 d
theorem zrc {x : Row} (hx : x ∈ tab) (hk : x.kind = 2) : x ∈ tab73 := by
 rw [zhr] at hx
 have no : ∀ {l : List Row}, noK 2 l = true -> x ∉ l := fun h hx => by
  have := List.all_eq_true.1 h x hx;simp [hk] at this
 rcases List.mem_append.1 hx with h | h
 ·exact absurd h (no (by kernel_rfl))
 ·rcases List.mem_append.1 h with h | h
  ·exact h
  ·exact absurd h (no (by kernel_rfl))
end Go.Eng
namespace Go.Eng
open Go Go.Proofs Go.Eng.Rows Go.Eng.Trie
end Go.Eng
namespace Go.Eng
open Go Go.Proofs Go.Eng.Rows Go.Eng.Trie Go.Eng.Srt
theorem PCall.ofA {P : Program} {f : Nat} {args : List PV} {Q : LV -> Hp -> Prop} {R : PV -> Prop} (hc : ACall P f (args.map .pv) [] Q) (hq : ∀ r h', Q r h' -> ∃ p, jW h' r = some p /\ R p) : PCall P f args R :=
 ⟨hc.1, fun w I G cargs h1 h2 h3 => (hc.2 w I G cargs h1 h2 h3).mono fun e w' ⟨cv, r, h', I', G', e1, e2, e3, e4, e5⟩ => by
  obtain ⟨p, hp, hR⟩ := hq r h' e2;have ht := e5.t;have hno : ∀ b, ¬ aU [] G b := fun b ⟨o, ob, ho, _⟩ => by simp at ho
  exact ⟨cv, .pv p, [], AllB I' h' G', G', e1, ⟨p, rfl, hR⟩, HRel.nil G' (fun b hb => hb.elim (e3.cl b) e3.blk_lt), .pv _ _ (r9 e3 e4 hp),
   ⟨⟨ht.os, ht.tape, ht.output, ht.size, ht.keep, fun b hb => .inl (ht.i1 b hb), fun b hb => hb.elim (ht.i2 b) (fun ho => (ht.own2 b ho).elim (fun x => absurd x (hno b)) (fun x => .inr (.inr x))), fun b hb => absurd hb (fun ⟨o, ob, ho, _⟩ => by simp at ho), ht.frz, ht.drawn⟩, qu _, fun o ob ho => by simp at ho⟩⟩⟩
theorem zae (n f : Bool) (l : List Int) (k : Nat) (hk : k < 1000) : PCall qa 9 [.sl n f (aA l), .int .i64 k] fun v => ∃ n f, v = .sl n f (aA (l.take k)) := by
 refine zqw _ _ _ _ ?_; unfold zhj;refine aG (fun hc => ?_) (fun hc => ?_)
 ·simp only [aB, cA] at hc;refine ⟨⟨by unfold eQ; simp; omega, fI _⟩, n, _, by rw [show ((k : Int)).toNat = k by omega]; simp only [aA, List.map_take, qab]; rfl⟩
 ·simp only [aB, cA] at hc;rw [qc (by omega)];exact ⟨_, _, rfl⟩
theorem zrd (n f n2 f2 : Bool) (l m : List Int) (hl : l.length < 1000000000000) : zaa n f (aA l) n2 f2 (aA m) (fun i => 0 <= i /\ i <= l.length /\ l.take i.toNat = m.take i.toNat) (fun i => l.length - i.toNat) fun v => v = .bool (decide (l = m)) := by
 unfold zaa;refine aG (fun hc => ?_) (fun hc => ?_)
 ·simp only [cA, bne_iff_ne, ne_eq] at hc;have : l ≠ m := fun e => hc (by rw [e]);simp [this]
 ·simp only [cA, bne_iff_ne, ne_eq, qy] at hc;have hlm : l.length = m.length := by omega
  refine ⟨⟨rfl, qd _, by omega, rfl⟩, ?_⟩;rintro i ⟨i0, i1, he⟩;refine aG (fun h => ?_) (fun h => ?_)
  ·simp only [aB, cA] at h;have hi : i.toNat < l.length := by omega
   have hj : i.toNat < m.length := by omega
   obtain ⟨g1, g2⟩ := nQ i0 hi;obtain ⟨k1, k2⟩ := nQ i0 hj;have hw : i64.wrap (i + 1) = i + 1 := aD (by omega) (by omega);refine ⟨g1, l[i.toNat], by rw [g2]; rfl, k1, m[i.toNat], by rw [k2]; rfl, aG (fun hc2 => ?_) (fun hc2 => ?_)⟩
   ·simp only [bne_iff_ne, ne_eq] at hc2;have : l ≠ m := fun e => hc2 (by subst e; rfl);simp [this]
   ·simp only [bne_iff_ne, ne_eq, qy] at hc2;rw [hw];exact ⟨rfl, ⟨by omega, by omega, by rw [show (i + 1).toNat = i.toNat + 1 by omega, dH hi, dH hj, he, hc2]⟩, by dsimp only; omega⟩
  ·simp only [aB, cA] at h;rw [qc (by omega), qc (by omega)] at he;simp [he]
theorem zre (n f n2 f2 : Bool) (l m : List Int) (hl : l.length < 1000000000000) : PCall qa 18 [.sl n f (aA l), .sl n2 f2 (aA m)] fun v => v = .bool (decide (l = m)) :=
 zqy _ _ _ _ _ _ (fun i => 0 <= i /\ i <= l.length /\ l.take i.toNat = m.take i.toNat) (fun i => l.length - i.toNat) (zrd n f n2 f2 l m hl)
section
variable {rows : List Row}
end
section
variable {rows : List Row}
theorem set1 {es : List (List PV)} {k : Nat} {v x : PV} (h : es.getD k [] = [x]) : es.set k (v :: zq (qh 1 (es.getD k []))) = es.set k [v] := by rw [h]; rfl
end
theorem zrf : tab.length < 1000000 := by have := zn6; omega
theorem zhs (n f : Bool) : PCall qa 7 [.sl n f (cZ tab)] (dI tab) := zpv n f tab zrf zab
theorem R32.take {l : List Int} (h : R32 l) (k : Nat) : R32 (l.take k) := fun x hx => h x (qbg hx)
section
variable {rows : List Row} {v : PV}
theorem zrg {ts : List PV} {key : Int -> Int} (hT : ∀ r : Int, (-2147483648 <= r /\ r <= 2147483647) -> PCall qa 56 [.ptr ts, .int .i32 r] fun v => v = .int .i64 (key r)) : jH (.ptr ts) key := by
 intro a b ha hb;refine zmn _ _ _ ?_; unfold zd9;refine .inl ⟨ts, rfl, .inl ⟨ts, rfl, ?_⟩⟩;refine (hT a ha).mono ?_;rintro _ rfl;refine ⟨_, rfl, ?_⟩;refine (hT b hb).mono ?_;rintro _ rfl;refine ⟨_, rfl, ?_⟩;refine (p61 _ _).mono ?_;rintro _ rfl;refine ⟨_, rfl, _, rfl, ?_⟩;unfold cmpS; split <;> (try split) <;> omega
theorem zrh (hk : fA rows) (hv : dI rows v) (n f : Bool) (L : List Int) (hr : R32 L) (hL : L.length < 1000000000000) : PCall qa 60 [v, .sl n f (aA L)] fun x => ∃ n f, x = .sl n f (aA (dD (aI rows 1) L)) := by
 obtain ⟨tc, tg, tj, tf, tp, made, sec, rfl, ht, hm⟩ := hv;have hT : ∀ r : Int, (-2147483648 <= r /\ r <= 2147483647) -> PCall qa 56 [.ptr [tc, tg, tj, tf, tp, .mp (dQ made), .mp (iQ sec)], .int .i32 r] fun v => v = .int .i64 (aI rows 1 r) := fun r hr => tK _ _ ht hr;exact PCall.ofA (args := [_, _]) (zqv hk hT (zrg hT) L hr hL) fun r h' ⟨hr, hh⟩ => by subst hr; subst hh; exact ⟨_, rfl, _, _, rfl⟩
theorem zri (hp : dP rows) {l : List Int} (h : R32 l) : R32 (l.flatMap (aW rows 8)) := fun x hx => by
 obtain ⟨r, hr, h2⟩ := List.mem_flatMap.1 hx;rcases tO hp 8 r x h2 with rfl | h3
 ·exact h x hr
 ·omega
theorem zht (rows : List Row) (l : List Int) : (l.flatMap (aW rows 8)).length <= 768 * l.length := by
 induction l with
 | nil => simp
 | cons x l ih =>
   have := qH rows 8 x;rw [qbo, qb, ql]; omega
theorem zrj (rows : List Row) {l : List Int} {i : Nat} (hi : i < l.length) : (l.take (i + 1)).flatMap (aW rows 8) = (l.take i).flatMap (aW rows 8) ++ aW rows 8 l[i] := by
 rw [dH hi, qay]; simp
theorem zrk (hp : dP rows) (hk : fA rows) (hv : dI rows v) (n f : Bool) (L : List Int) (hr : R32 L) (hL : L.length < 1000000) : PCall qa 40 [v, .sl n f (aA L)] fun x => ∃ n f, x = .sl n f (aA (iT rows L)) := by
 have hv' := hv;obtain ⟨tc, tg, tj, tf, tp, made, sec, rfl, ht, hm⟩ := hv;refine zqx _ _ _ _ _ _ _ _ _ _ (fun i h0 _ s => h0 = .ptr [tc, tg, tj, tf, tp, .mp (dQ made), .mp (iQ sec)] /\ 0 <= i /\ i <= L.length /\ s = aA ((L.take i.toNat).flatMap (aW rows 8))) (fun i _ _ _ => L.length - i.toNat) ?_;unfold zhk;refine ⟨rfl, ⟨rfl, rfl, qd _, by omega, rfl⟩, ?_⟩;rintro i h0 n1 _ ⟨rfl, i0, i1, rfl⟩;refine aG (fun hc => ?_) (fun hc => ?_)
 ·simp only [aB, cA] at hc;have hi : i.toNat < L.length := by omega
  obtain ⟨g1, g2⟩ := nQ i0 hi;have hx := hr _ (qq hi);have hw : i64.wrap (i + 1) = i + 1 := aD (by omega) (by omega);have hfl := zht rows (L.take i.toNat);rw [qi] at hfl;refine ⟨g1, L[i.toNat], by rw [g2]; rfl, ?_⟩;refine (zp2 _ _ hp ht 8 _ n1 _ (by omega) hx (by omega)).mono ?_;rintro r h' ⟨nl, rfl, rfl⟩;rw [hw];exact ⟨(nl, _), ⟨rfl, rfl⟩, ⟨trivial, trivial, trivial⟩, rfl, ⟨rfl, by omega, by omega, by rw [show (i + 1).toNat = i.toNat + 1 by omega, zrj rows hi]; rfl⟩, by dsimp only; omega⟩
 ·simp only [aB, cA] at hc;rw [qc (by omega)];have hfl := zht rows L;refine (zrh hk hv' n1 false _ (zri hp hr) (by omega)).mono ?_;rintro _ ⟨n2, f2, rfl⟩;exact ⟨_, _, _, rfl, _, _, rfl⟩
theorem zrl (hk : fA rows) {l : List Int} (h : l.length < 1000000) : (iT rows l).length < 1000000000000 := by
 have := zhn hk l; omega
end
end Go.Eng
namespace Go.Eng.Rows
open Go Go.Eng Go.Eng.Trie Go.Eng.Srt
def iC (a b : Int) : Option Int :=
 if (4352 <= a /\ a < 4371) /\ 4449 <= b /\ b < 4470 then some (44032 + ((a - 4352) * 21 + (b - 4449)) * 28)
 else if (bX a = true /\ (a - 44032) % 28 = 0) /\ 4519 < b /\ b < 4547 then some (a + (b - 4519)) else none
def fX (rows : List Row) (a b : Int) (x : Row) : Bool := decide (x.kind = 2) && (decide (x.a = a) && (decide (x.b = b) && (!decide (b = 0) && !g9 rows x.fr)))
def cmpS (rows : List Row) (a b : Int) (o : Option Int) (x : Row) : Option Int :=
 if fX rows a b x then (match o with | none => some x.fr | some r => if x.fr < r then some x.fr else some r) else o
def qO (rows : List Row) (a b : Int) : Option Int := rows.foldl (cmpS rows a b) none
def iD (rows : List Row) (a b : Int) : Option Int := match iC a b with | some r => some r | none => qO rows a b
theorem zhu (rows : List Row) (a b : Int) (l : List Row) : match l.foldl (cmpS rows a b) none with
 | none => ∀ x ∈ l, fX rows a b x = false
 | some r => (∃ x ∈ l, fX rows a b x = true /\ x.fr = r) /\ ∀ x ∈ l, fX rows a b x = true -> r <= x.fr := by
 have : ∀ (m : List Row), match m.reverse.foldl (cmpS rows a b) none with
  | none => ∀ x ∈ m, fX rows a b x = false
  | some r => (∃ x ∈ m, fX rows a b x = true /\ x.fr = r) /\ ∀ x ∈ m, fX rows a b x = true -> r <= x.fr := by
  intro m
  induction m with
  | nil => intro x hx; cases hx
  | cons y m ih =>
    rw [qcf, qce, qcm, List.foldl_nil];generalize m.reverse.foldl (cmpS rows a b) none = o at ih;unfold cmpS;cases hc : fX rows a b y with
    | false =>
      simp only [qbl, if_false];cases o with
      | none => intro x hx; rcases List.mem_cons.1 hx with rfl | hx; exact hc; exact ih x hx
      | some r =>
        obtain ⟨⟨x, h1, h2⟩, h3⟩ := ih;exact ⟨⟨x, qz _ h1, h2⟩, fun z hz hz2 => by rcases List.mem_cons.1 hz with rfl | hz; rw [hc] at hz2; cases hz2; exact h3 z hz hz2⟩
    | true =>
      simp only [if_true];cases o with
      | none =>
        refine ⟨⟨y, qp, hc, rfl⟩, fun z hz hz2 => ?_⟩;rcases List.mem_cons.1 hz with rfl | hz
        ·exact qd _
        ·have := ih z hz; rw [this] at hz2; cases hz2
      | some r =>
        obtain ⟨⟨x, h1, h2, h4⟩, h3⟩ := ih;by_cases hlt : y.fr < r
        ·simp only [hlt, if_true];refine ⟨⟨y, qp, hc, rfl⟩, fun z hz hz2 => ?_⟩;rcases List.mem_cons.1 hz with rfl | hz
         ·exact qd _
         ·have := h3 z hz hz2; omega
        ·simp only [hlt, if_false];refine ⟨⟨x, qz _ h1, h2, h4⟩, fun z hz hz2 => ?_⟩;rcases List.mem_cons.1 hz with rfl | hz
         ·omega
         ·exact h3 z hz hz2
 have h := this l.reverse;rw [qbw] at h;generalize l.foldl (cmpS rows a b) none = o at h ⊢;cases o with
 | none => intro x hx; exact h x (List.mem_reverse.2 hx)
 | some r => exact ⟨by obtain ⟨⟨x, h1, h2⟩, _⟩ := h; exact ⟨x, List.mem_reverse.1 h1, h2⟩, fun x hx => h.2 x (List.mem_reverse.2 hx)⟩
theorem zaf {rows : List Row} (h1 : eI rows) {x : Row} (hx : x ∈ rows) (hk : x.kind = 2) : aM rows x.fr = (x.a, x.b) /\ 0 <= x.fr /\ x.fr <= 1114111 := by
 obtain ⟨e1, e2, e3⟩ := h1 x hx hk;have hf : bW rows 2 x.fr = some (x.a, x.b) := by unfold bW; rw [if_pos e2]; exact e3
 exact ⟨by unfold aM; rw [hf], e2⟩
theorem zag {rows : List Row} (h1 : eI rows) {r : Int} (h : aM rows r ≠ (0, 0)) : ∃ x ∈ rows, x.kind = 2 /\ x.fr = r /\ aM rows r = (x.a, x.b) := by
 cases hf : bW rows 2 r with
 | none => exact absurd (by unfold aM; rw [hf]) h
 | some p =>
   obtain ⟨y, hy, hk, f1, f2⟩ := zq6 hf;obtain ⟨e1, _⟩ := h1 y hy hk;have hr : y.fr = r := by omega
   have := (zaf h1 hy hk).1;rw [hr] at this;exact ⟨y, hy, hk, hr, this⟩
theorem zhv {rows : List Row} (h1 : eI rows) {a b r : Int} (h : qO rows a b = some r) : aM rows r = (a, b) /\ b ≠ 0 /\ g9 rows r = false /\ (0 <= r /\ r <= 1114111) /\ ∃ x ∈ rows, x.kind = 2 /\ x.fr = r := by
 have := zhu rows a b rows;unfold qO at h;rw [h] at this;obtain ⟨⟨x, hx, hc, rfl⟩, _⟩ := this;simp only [fX, qe, aB, qj, dA] at hc;obtain ⟨hk, ha, hb, h0, ho⟩ := hc;obtain ⟨hp, hr⟩ := zaf h1 hx hk;exact ⟨by rw [hp, ha, hb], h0, ho, hr, x, hx, hk, rfl⟩
theorem zrm {rows : List Row} (hp : dP rows) (h1 : eI rows) {made : List ((Int × Int) × Int)} {sec : List (Int × Bool)} (hm : MadeOK rows (fun r => 0 <= r /\ r <= 1114111) made sec) (a b : Int) :
 (if b = 0 then none else bM (a, b) made) = qO rows a b := by
 have hc := zhu rows a b rows
 have good : ∀ x ∈ rows, fX rows a b x = true -> b ≠ 0 /\ (0 <= x.fr /\ x.fr <= 1114111) /\ kI rows x.fr /\ aM rows x.fr = (a, b) := fun x hx hc => by
  simp only [fX, qe, aB, qj, dA] at hc;obtain ⟨hk, ha, hb, h0, ho⟩ := hc;obtain ⟨e, hr⟩ := zaf h1 hx hk;refine ⟨h0, hr, ⟨?_, ho⟩, by rw [e, ha, hb]⟩;rw [e]; intro q; exact h0 (hb.symm.trans (Prod.mk.inj q).2)
 have back : ∀ r, b ≠ 0 -> kI rows r -> aM rows r = (a, b) -> ∃ x ∈ rows, fX rows a b x = true /\ x.fr = r := fun r h0 hg hpr => by
  obtain ⟨x, hx, hk, hfr, hq⟩ := zag h1 hg.1;have ho := hg.2;rw [hq] at hpr;cases hpr;refine ⟨x, hx, ?_, hfr⟩;simp only [fX, qe, aB, qj, dA];exact ⟨hk, trivial, trivial, h0, by rw [hfr]; exact ho⟩
 unfold qO;generalize rows.foldl (cmpS rows a b) none = o at hc ⊢;split
 ·rename_i h0;cases o with
  | none => rfl
  | some r => obtain ⟨⟨x, hx, hb, _⟩, _⟩ := hc; exact absurd h0 (good x hx hb).1
 ·rename_i h0;cases hg : bM (a, b) made with
  | none =>
    cases o with
    | none => rfl
    | some r =>
      obtain ⟨⟨x, hx, hb, _⟩, _⟩ := hc;obtain ⟨_, g1, g2, g3⟩ := good x hx hb;exact absurd g3 (hm.m2 _ hg _ g1 g2)
  | some r =>
    obtain ⟨d1, d2, d3, d4⟩ := hm.m1 _ _ hg;obtain ⟨x, hx, hb, hfr⟩ := back r h0 d2 d3;cases o with
    | none => have := hc x hx; rw [this] at hb; cases hb
    | some s =>
      obtain ⟨⟨y, hy, hyb, rfl⟩, hl⟩ := hc;obtain ⟨_, g1, g2, g3⟩ := good y hy hyb;have k1 := hl x hx hb;have k2 := d4 _ g1 g2 g3;rw [hfr] at k1;exact congrArg some (Int.le_antisymm k2 k1)
theorem zhw {a b r : Int} (h : iC a b = some r) : bX r = true := by
 unfold iC at h;split at h
 ·rename_i hc; cases h; simp only [bX, qe, aB]; omega
 ·split at h
  ·rename_i hc; cases h; simp only [bX, qe, aB] at hc ⊢; omega
  ·cases h
theorem zrn {rows : List Row} (h1 : eI rows) {a b r : Int} (h : iD rows a b = some r) : 0 <= r /\ r <= 1114111 := by
 unfold iD at h;split at h
 ·rename_i s hj; cases h; have := zhw hj; simp only [bX, qe, aB] at this; omega
 ·exact (zhv h1 h).2.2.2.1
structure CSt where
 P : List Int
 s : Option Int
 M : List Int
def dW (key : Int -> Int) (M : List Int) : Int := match M.getLast? with | some m => key m | none => 0
def CSt.out (st : CSt) : List Int := st.P ++ (st.s.toList ++ st.M)
def cE (key : Int -> Int) (st : CSt) (r : Int) : CSt := if key r = 0 then ⟨st.out, some r, []⟩ else ⟨st.P, st.s, st.M ++ [r]⟩
def cO (rows : List Row) (st : CSt) (r : Int) : CSt := match st.s with
 | none => cE (aI rows 1) st r
 | some a => if st.M = [] ∨ dW (aI rows 1) st.M < aI rows 1 r then (match iD rows a r with
   | some c => ⟨st.P, some c, st.M⟩
   | none => cE (aI rows 1) st r) else cE (aI rows 1) st r
def bP (rows : List Row) (l : List Int) : CSt := l.foldl (cO rows) ⟨[], none, []⟩
def iE (rows : List Row) (l : List Int) : List Int := (bP rows l).out
theorem iF (rows : List Row) (l : List Int) (r : Int) : bP rows (l ++ [r]) = cO rows (bP rows l) r := by simp [bP]
theorem mK (key : Int -> Int) (st : CSt) (r : Int) : (cE key st r).out = st.out ++ [r] := by
 unfold cE; split <;> simp [CSt.out]
theorem qP (rows : List Row) (st : CSt) (r : Int) : cO rows st r = cE (aI rows 1) st r ∨ ∃ a c, st.s = some a /\ iD rows a r = some c /\ (st.M = [] ∨ dW (aI rows 1) st.M < aI rows 1 r) /\ cO rows st r = ⟨st.P, some c, st.M⟩ := by
 unfold cO;split
 ·exact .inl rfl
 ·rename_i a ha;split
  ·rename_i hf;cases hc : iD rows a r with
   | none => exact .inl rfl
   | some c => exact .inr ⟨a, c, ha, hc, hf, rfl⟩
  ·exact .inl rfl
theorem zah (rows : List Row) (l : List Int) : (iE rows l).length <= l.length := by
 unfold iE
 induction l using iS with
 | h0 => simp [bP, CSt.out]
 | h1 l r ih =>
   rw [iF, qb, qbt];rcases qP rows (bP rows l) r with e | ⟨a, c, hs, _, _, e⟩
   ·rw [e, mK, qb, qbt]; omega
   ·rw [e]; simp only [CSt.out, hs, qbn, qb, ql] at ih ⊢; omega
theorem zhx {rows : List Row} (h1 : eI rows) (l : List Int) : ∀ x ∈ iE rows l, x ∈ l ∨ (0 <= x /\ x <= 1114111) := by
 unfold iE
 induction l using iS with
 | h0 => intro x hx; simp [bP, CSt.out] at hx
 | h1 l r ih =>
   rw [iF];rcases qP rows (bP rows l) r with e | ⟨a, c, hs, hc, _, e⟩
   ·rw [e, mK];intro x hx;rcases List.mem_append.1 hx with hx | hx
    ·exact (ih x hx).imp (fun h => List.mem_append.2 (.inl h)) id
    ·exact .inl (List.mem_append.2 (.inr hx))
   ·rw [e];intro x hx;simp only [CSt.out, qbn, qae, qal, qaw, or_false] at hx ih;rcases hx with hx | rfl | hx
    ·exact (ih x (.inl hx)).imp (fun h => List.mem_append.2 (.inl h)) id
    ·exact .inr (zrn h1 hc)
    ·exact (ih x (.inr (.inr hx))).imp (fun h => List.mem_append.2 (.inl h)) id
structure TabC (rows : List Row) : Prop where
 one : eI rows
 closed : zq5 rows
 cls : fA rows
 syl : ∀ x ∈ rows, x.kind = 2 -> bX x.fr = false
 deep : ∀ x ∈ rows, x.kind = 2 -> aW rows 7 x.fr = aW rows 8 x.fr
theorem TabC.full7 {rows : List Row} (h : TabC rows) (r : Int) : aW rows 7 r = aW rows 8 r := by
 by_cases hs : bX r = true
 ·rw [lK hs, lK hs]
 ·simp only [qbe] at hs;by_cases h0 : aM rows r = (0, 0)
  ·rw [qF hs h0, qF hs h0]
  ·obtain ⟨x, hx, hk, rfl, _⟩ := zag h.one h0;exact h.deep x hx hk
theorem TabC.join {rows : List Row} (h : TabC rows) {a b c : Int} (ha : dE rows a = true ∨ bX a = true) (hj : iC a b = some c) : aW rows 8 c = aW rows 8 a ++ [b] := by
 rw [lK (zhw hj)];unfold iC at hj;split at hj
 ·rename_i hc;cases hj
  have hr : dE rows a = true := by
   rcases ha with ha | ha
   ·exact ha
   ·simp only [bX, qe, aB] at ha; omega
  rw [tY hr];unfold fW;rw [if_pos (by omega)];simp only [qm, qv, List.cons.injEq, and_true];omega
 ·split at hj
  ·rename_i hc;cases hj;obtain ⟨⟨hs, h0⟩, h1, h2⟩ := hc;rw [lK hs];simp only [bX, qe, aB] at hs;unfold fW;rw [if_neg (by omega), if_pos h0];simp only [qm, qv, List.cons.injEq, and_true];omega
  ·cases hj
theorem TabC.lead {rows : List Row} (h : TabC rows) {a : Int} (ha : 4352 <= a /\ a < 4371) : dE rows a = true := by
 have hx := h.closed (44032 + (a - 4352) * 588) a;refine hx ?_;have hs : bX (44032 + (a - 4352) * 588) = true := by simp only [bX, qe, aB]; omega
 rw [lK hs];unfold fW;rw [if_pos (by omega), show 4352 + (44032 + (a - 4352) * 588 - 44032) / 588 = a by omega];exact qp
theorem TabC.pair {rows : List Row} (h : TabC rows) {a b c : Int} (hb : dE rows b = true) (hc : iD rows a b = some c) : aW rows 8 c = aW rows 8 a ++ [b] := by
 unfold iD at hc;split at hc
 ·rename_i s hj;cases hc;refine h.join ?_ hj;unfold iC at hj;split at hj
  ·rename_i hq; exact .inl (h.lead hq.1)
  ·split at hj
   ·rename_i hq; exact .inr hq.1.1
   ·cases hj
 ·obtain ⟨hp, h0, _, _, x, hx, hk, rfl⟩ := zhv h.one hc;have hs := h.syl x hx hk;have hn : aM rows x.fr ≠ (0, 0) := by rw [hp]; intro e; cases e; exact h0 rfl
  rw [show (8 : Nat) = 7 + 1 from rfl];rw [aW, if_neg (by rw [hs]; simp), if_neg hn, hp];simp only;rw [if_neg h0, h.full7, tY hb]
theorem zai (key : Int -> Int) (M : List Int) (r : Int) : dW key (M ++ [r]) = key r := by simp [dW]
structure InvC (rows : List Row) (st : CSt) (p : List Int) : Prop where
 e : Eqv (aI rows 1) (st.out.flatMap (aW rows 8)) p
 m : ∀ m ∈ st.M, aI rows 1 m ≠ 0 /\ dE rows m = true /\ aI rows 1 m <= dW (aI rows 1) st.M
 q : st.M ≠ [] -> ∃ p' q, p = p' ++ [q] /\ dW (aI rows 1) st.M <= aI rows 1 q
theorem InvC.app {rows : List Row} {st : CSt} {p : List Int} (h : InvC rows st p) {r : Int} (hr : dE rows r = true) (hc : bY (aI rows 1) (p ++ [r])) : InvC rows (cE (aI rows 1) st r) (p ++ [r]) := by
 have he : Eqv (aI rows 1) ((cE (aI rows 1) st r).out.flatMap (aW rows 8)) (p ++ [r]) := by
  rw [mK, qay, qbc, tY hr];simpa using h.e.app [] [r]
 refine ⟨he, ?_, ?_⟩
 ·unfold cE;split
  ·intro m hm; cases hm
  ·rename_i h0;intro m hm;simp only at hm ⊢;rw [zai];rcases List.mem_append.1 hm with hm | hm
   ·obtain ⟨k1, k2, k3⟩ := h.m m hm;refine ⟨k1, k2, ?_⟩;obtain ⟨p', q, rfl, hq⟩ := h.q (List.ne_nil_of_mem hm);have := (mJ.1 hc).2.2 q r (by simp) rfl h0;omega
   ·rw [qaq] at hm; subst hm; exact ⟨h0, hr, qd _⟩
 ·unfold cE;split
  ·intro hn; exact absurd rfl hn
  ·intro _; exact ⟨p, r, rfl, by simp only; rw [zai]; exact qd _⟩
theorem InvC.step {rows : List Row} (ht : TabC rows) {st : CSt} {p : List Int} (h : InvC rows st p) {r : Int} (hr : dE rows r = true) (hc : bY (aI rows 1) (p ++ [r])) : InvC rows (cO rows st r) (p ++ [r]) := by
 rcases qP rows st r with e | ⟨a, c, hs, hpc, hf, e⟩
 ·rw [e]; exact h.app hr hc
 ·rw [e];have hM : st.M.flatMap (aW rows 8) = st.M := zhl fun m hm => (h.m m hm).2.1;have he := h.e;simp only [CSt.out, hs, qbn, qay, qbc, hM] at he;have hlt : st.M ≠ [] -> dW (aI rows 1) st.M < aI rows 1 r := fun hn => hf.elim (fun e => absurd e hn) id;refine ⟨?_, h.m, fun hn => ⟨p, r, rfl, qav (hlt hn)⟩⟩;simp only [CSt.out, qbn, qay, qbc, hM, ht.pair hr hpc];refine Eqv.trans ?_ (by simpa using he.app [] [r])
  by_cases hn : st.M = []
  ·rw [hn]; simp; exact .refl _
  ·have h3 : dW (aI rows 1) st.M < aI rows 1 r := hlt hn
   have hr0 : aI rows 1 r ≠ 0 := by
    intro e0;obtain ⟨m, hm⟩ := qbp _ hn;obtain ⟨k1, _, k3⟩ := h.m m hm;have := ht.cls m; omega
   have := (Eqv.ahead (key := aI rows 1) hr0 (B := st.M) [] fun m hm => ⟨(h.m m hm).1, by have := (h.m m hm).2.2; omega⟩).symm.app (st.P.flatMap (aW rows 8) ++ aW rows 8 a) [];simpa using this
theorem zro {rows : List Row} (ht : TabC rows) {l : List Int} (hr : ∀ x ∈ l, dE rows x = true) (hc : bY (aI rows 1) l) : InvC rows (bP rows l) l := by
 revert hr hc
 induction l using iS with
 | h0 => intro _ _; exact ⟨.refl _, (fun m hm => by cases hm), fun hn => absurd rfl hn⟩
 | h1 l r ih =>
   intro hr hc;rw [iF];exact (ih (fun x hx => hr x (by simp [hx])) (mJ.1 hc).1).step ht (hr r (by simp)) hc
def cU (rows : List Row) (l : List Int) : List Int := iE rows (iT rows l)
end Go.Eng.Rows
namespace Go.Eng
open Go Go.Proofs Go.Eng.Rows Go.Eng.Trie
end Go.Eng
namespace Go.Eng.Rows
open Go Go.Eng Go.Eng.Trie Go.Eng.Srt
def Comp (rows : List Row) (s : List Int) : Prop := ∃ d, (∀ x ∈ d, dE rows x = true) /\ bY (aI rows 1) d /\ iE rows d = s
section
variable {rows : List Row}
def jK (rows : List Row) (s : Option Int) (M : List Int) (r : Int) : Option Int := match s with
 | none => none
 | some a => if M = [] ∨ dW (aI rows 1) M < aI rows 1 r then iD rows a r else none
theorem kL (st : CSt) (r : Int) : cO rows st r = match jK rows st.s st.M r with | some c => ⟨st.P, some c, st.M⟩ | none => cE (aI rows 1) st r := by
 unfold cO jK;cases st.s with
 | none => rfl
 | some a =>
   simp only;split
   ·rfl
   ·rfl
theorem zaj {s : Option Int} {M : List Int} {r c : Int} (h : jK rows s M r = some c) : ∃ a, s = some a /\ iD rows a r = some c /\ (M = [] ∨ dW (aI rows 1) M < aI rows 1 r) := by
 unfold jK at h;cases s with
 | none => cases h
 | some a =>
   simp only at h;split at h
   ·rename_i hf; exact ⟨a, rfl, h, hf⟩
   ·cases h
theorem kM {d : List Int} {x : Int} : bY (aI rows 1) (d ++ [x]) ↔ bY (aI rows 1) d /\ (∀ z, d.getLast? = some z -> aI rows 1 x ≠ 0 -> aI rows 1 z <= aI rows 1 x) := by
 rw [mJ];constructor
 ·rintro ⟨h1, _, h3⟩; exact ⟨h1, fun z hz hx => h3 z x hz rfl hx⟩
 ·rintro ⟨h1, h3⟩; exact ⟨h1, trivial, fun z x' hz hx' h0 => by simp at hx'; subst hx'; exact h3 z hz h0⟩
theorem zak {d : List Int} {r x : Int} (h : bY (aI rows 1) (d ++ [r] ++ [x])) (hx : aI rows 1 x ≠ 0) : aI rows 1 r <= aI rows 1 x := (kM.1 h).2 r (by simp) hx
def Wit (rows : List Row) (d : List Int) (st : CSt) : Prop := ∃ e, (∀ x ∈ e, dE rows x = true) /\ bP rows e = st /\ (st.out = [] -> e = []) /\ bY (aI rows 1) e /\ ∀ x, bY (aI rows 1) (d ++ [x]) -> bY (aI rows 1) (e ++ [x])
theorem Wit.snoc {d : List Int} {st : CSt} (h : Wit rows d st) {r : Int} (hr : dE rows r = true) (hc : bY (aI rows 1) (d ++ [r])) (hn : (cO rows st r).out ≠ []) : Wit rows (d ++ [r]) (cO rows st r) := by
 obtain ⟨e, h1, h2, h3, h4, h5⟩ := h;refine ⟨e ++ [r], fun x hx => ?_, by rw [iF, h2], fun hq => absurd hq hn, h5 r hc, fun x hx => ?_⟩
 ·rcases List.mem_append.1 hx with hx | hx
  ·exact h1 x hx
  ·rw [qaq] at hx; subst hx; exact hr
 ·exact kM.2 ⟨h5 r hc, fun z hz h0 => by simp at hz; subst hz; exact zak hx h0⟩
theorem zal {key : Int -> Int} {M : List Int} (h : M ≠ []) : ∃ m ∈ M, dW key M = key m := by
 rcases M.eq_nil_or_concat with rfl | ⟨D, z, rfl⟩
 ·exact absurd rfl h
 ·exact ⟨z, by simp, by simp [dW]⟩
theorem zhy {d : List Int} (h : (bP rows d).out = []) : d = [] := by
 revert h
 induction d using iS with
 | h0 => exact fun _ => rfl
 | h1 d r ih =>
   rw [iF, kL];intro h;split at h
   ·simp [CSt.out] at h
   ·rw [mK] at h; simp at h
theorem tZ {d : List Int} (h : (bP rows d).s = none) : (bP rows d).P = [] := by
 revert h
 induction d using iS with
 | h0 => exact fun _ => rfl
 | h1 d r ih =>
   rw [iF, kL];split
   ·intro h; cases h
   ·unfold cE;split
    ·intro h; cases h
    ·exact ih
theorem zrp (ht : TabC rows) {d : List Int} (hr : ∀ x ∈ d, dE rows x = true) (hc : bY (aI rows 1) d) (hn : (bP rows d).M ≠ []) :
 Wit rows d ⟨(bP rows d).P, (bP rows d).s, (bP rows d).M.dropLast⟩ := by
 revert hr hc hn
 induction d using iS with
 | h0 => intro _ _ hn; exact absurd rfl hn
 | h1 d r ih =>
   intro hr hc;have hr1 : ∀ x ∈ d, dE rows x = true := fun x hx => hr x (by simp [hx]);have hc1 := (kM.1 hc).1;have hinv := zro ht hr1 hc1;have hrr := hr r (by simp);rw [iF];have ih := ih hr1 hc1;have hon := zhy (rows := rows) (d := d);generalize hsd : bP rows d = st at *;rw [kL];cases hd : jK rows st.s st.M r with
   | none =>
     simp only;unfold cE;split
     ·intro hn; exact absurd rfl hn
     ·rename_i h0;intro _;simp only [List.dropLast_concat];refine ⟨d, hr1, hsd, fun h => hon h, hc1, fun x hx => kM.2 ⟨hc1, fun z hz hx0 => ?_⟩⟩;have := (kM.1 hc).2 z hz h0;have := zak hx hx0;omega
   | some c =>
     simp only;intro hn;obtain ⟨a, hs, hp, hf⟩ := zaj hd;have hlt := hf.elim (fun e => absurd e hn) id;have hw := (ih hn).snoc hrr hc
     have he : cO rows ⟨st.P, st.s, st.M.dropLast⟩ r = ⟨st.P, some c, st.M.dropLast⟩ := by
      rw [kL]
      have : jK rows st.s st.M.dropLast r = some c := by
       unfold jK;rw [hs];simp only;rw [if_pos, hp];by_cases hdl : st.M.dropLast = []
       ·exact .inl hdl
       ·obtain ⟨m, hm, e⟩ := zal (key := aI rows 1) hdl;have := (hinv.m m (List.dropLast_subset _ hm)).2.2;exact .inr (by omega)
      simp only [this]
     rw [he] at hw;exact hw (by simp [CSt.out])
def eJ (st : CSt) : CSt := match st.s, st.P with
 | none, P => ⟨P, none, st.M.tail⟩
 | some _, [] => ⟨[], none, st.M⟩
 | some c, _ :: P => ⟨P, some c, st.M⟩
theorem zrq {st : CSt} (h : st.s = none -> st.P = []) : (eJ st).out = st.out.tail := by
 obtain ⟨P, s, M⟩ := st;cases s with
 | none =>
   have hp : P = [] := h rfl;subst hp;simp [eJ, CSt.out]
 | some c => cases P <;> simp [eJ, CSt.out]
theorem zrr (hk : fA rows) (M : List Int) : 0 <= dW (aI rows 1) M := by
 by_cases h : M = []
 ·subst h; exact qd _
 ·obtain ⟨m, _, e⟩ := zal (key := aI rows 1) h;rw [e]; exact hk m
theorem zrs (ht : TabC rows) {d : List Int} (hr : ∀ x ∈ d, dE rows x = true) (hc : bY (aI rows 1) d) (hn : d ≠ []) : Wit rows d (eJ (bP rows d)) := by
 revert hr hc hn
 induction d using iS with
 | h0 => intro _ _ hn; exact absurd rfl hn
 | h1 d r ih =>
   intro hr hc _;have hr1 : ∀ x ∈ d, dE rows x = true := fun x hx => hr x (by simp [hx]);have hc1 := (kM.1 hc).1;have hrr := hr r (by simp);by_cases hd0 : d = []
   ·subst hd0;refine ⟨[], fun x hx => (by cases hx), ?_, fun _ => rfl, trivial, fun x _ => trivial⟩;rw [iF];show _ = eJ (cE (aI rows 1) ⟨[], none, []⟩ r);unfold cE;split <;> rfl
   ·have ih := ih hr1 hc1 hd0;have hP := tZ (rows := rows) (d := d);have hon : (bP rows d).out ≠ [] := fun h => hd0 (zhy h);rw [iF];generalize bP rows d = st at *
    have key : (eJ (cO rows st r) = cO rows (eJ st) r /\ (cO rows (eJ st) r).out ≠ []) -> Wit rows (d ++ [r]) (eJ (cO rows st r)) := fun ⟨h1, h2⟩ => by
     rw [h1]; exact ih.snoc hrr hc h2
    obtain ⟨P, s, M⟩ := st;cases s with
    | none =>
      obtain rfl : P = [] := hP rfl;cases M with
      | nil => exact absurd rfl hon
      | cons m M =>
        refine key ?_;have e1 : cO rows ⟨[], none, m :: M⟩ r = cE (aI rows 1) ⟨[], none, m :: M⟩ r := rfl;have e2 : cO rows (eJ ⟨[], none, m :: M⟩) r = cE (aI rows 1) ⟨[], none, M⟩ r := rfl;rw [e1, e2, mK];refine ⟨?_, by simp⟩;unfold cE;split <;> simp [eJ, CSt.out]
    | some c =>
      cases P with
      | cons p P =>
        refine key ?_;have e2 : eJ ⟨p :: P, some c, M⟩ = ⟨P, some c, M⟩ := rfl;rw [e2, kL, kL];simp only;cases jK rows (some c) M r with
        | none => simp only; rw [mK]; refine ⟨?_, by simp⟩; unfold cE; split <;> simp [eJ, CSt.out]
        | some c' => exact ⟨rfl, by simp [CSt.out]⟩
      | nil =>
        have e2 : eJ ⟨[], some c, M⟩ = ⟨[], none, M⟩ := rfl;have e3 : cO rows ⟨[], none, M⟩ r = cE (aI rows 1) ⟨[], none, M⟩ r := rfl;cases hdec : jK rows (some c) M r with
        | none =>
          refine key ?_;rw [e2, e3, kL];simp only [hdec];rw [mK];refine ⟨?_, by simp⟩;unfold cE;split <;> simp [eJ, CSt.out]
        | some c' =>
          obtain ⟨a, _, hp, hf⟩ := zaj hdec
          have e4 : eJ (cO rows ⟨[], some c, M⟩ r) = ⟨[], none, M⟩ := by
           rw [kL]; simp only [hdec]; rfl
          rw [e4];rw [e2] at ih;obtain ⟨e, h1, h2, h3, h4, h5⟩ := ih;refine ⟨e, h1, h2, h3, h4, fun x hx => kM.2 ⟨h4, fun z hz hx0 => ?_⟩⟩;by_cases h0 : aI rows 1 r = 0
          ·have hl := zrr ht.cls M;have hM : M = [] := hf.elim id fun h => by omega
           subst hM;have := h3 rfl;subst this;simp at hz
          ·have k1 := (kM.1 (h5 r hc)).2 z hz h0;have k2 := zak hx hx0;omega
theorem zrt {d : List Int} (hr : ∀ x ∈ d, dE rows x = true) (hc : bY (aI rows 1) d) (hn : (bP rows d).s ≠ none) : ∃ e, (∀ x ∈ e, dE rows x = true) /\ bY (aI rows 1) e /\ (bP rows e).out = (bP rows d).P := by
 revert hr hc hn
 induction d using iS with
 | h0 => intro _ _ hn; exact absurd rfl hn
 | h1 d r ih =>
   intro hr hc;have hr1 : ∀ x ∈ d, dE rows x = true := fun x hx => hr x (by simp [hx]);have hc1 := (kM.1 hc).1;have ih := ih hr1 hc1;rw [iF, kL];cases hd : jK rows (bP rows d).s (bP rows d).M r with
   | none =>
     simp only;unfold cE;split
     ·intro _; exact ⟨d, hr1, hc1, rfl⟩
     ·exact ih
   | some c =>
     obtain ⟨a, hs, _⟩ := zaj hd;intro _;exact ih (by rw [hs]; simp)
theorem Comp.nil : Comp rows [] := ⟨[], fun x hx => (by cases hx), trivial, rfl⟩
theorem Comp.tail (ht : TabC rows) {s : List Int} (h : Comp rows s) : Comp rows s.tail := by
 obtain ⟨d, h1, h2, rfl⟩ := h;by_cases hd : d = []
 ·subst hd; exact .nil
 ·obtain ⟨e, k1, k2, _, k4, _⟩ := zrs ht h1 h2 hd;exact ⟨e, k1, k4, by unfold iE; rw [k2, zrq tZ]⟩
theorem Comp.dropLast (ht : TabC rows) {s : List Int} (h : Comp rows s) : Comp rows s.dropLast := by
 obtain ⟨d, h1, h2, rfl⟩ := h;unfold iE;by_cases hM : (bP rows d).M = []
 ·cases hs : (bP rows d).s with
  | none =>
    have : (bP rows d).out = [] := by simp [CSt.out, tZ hs, hs, hM]
    rw [this]; exact .nil
  | some c =>
    obtain ⟨e, k1, k2, k3⟩ := zrt h1 h2 (by rw [hs]; simp);refine ⟨e, k1, k2, ?_⟩;unfold iE;rw [k3];simp [CSt.out, hs, hM]
 ·obtain ⟨e, k1, k2, _, k4, _⟩ := zrp ht h1 h2 hM;refine ⟨e, k1, k4, ?_⟩;unfold iE;rw [k2];simp only [CSt.out];rw [qbi (by simp [hM]), qbi hM]
theorem Comp.drop (ht : TabC rows) {s : List Int} (h : Comp rows s) : ∀ k, Comp rows (s.drop k)
 | 0 => h
 | k + 1 => by
   have := (Comp.drop ht h k).tail ht;rwa [List.tail_drop] at this
theorem Comp.take (ht : TabC rows) {s : List Int} (h : Comp rows s) (k : Nat) : Comp rows (s.take k) := by
 have : ∀ n, Comp rows (s.take (s.length - n)) := by
  intro n
  induction n with
  | zero => rw [Nat.sub_zero, List.take_length]; exact h
  | succ n ih =>
    have := ih.dropLast ht;rw [List.dropLast_eq_take, qco, qi] at this;rwa [show min (min (s.length - n) s.length - 1) (s.length - n) = s.length - (n + 1) by omega] at this
 by_cases hk : k <= s.length
 ·have := this (s.length - k);rwa [show s.length - (s.length - k) = k by omega] at this
 ·rw [qc (by omega)]; exact h
end
end Go.Eng.Rows
